/- The typed machine. -/
import Derived.Test.YtojjlnbnneemaaaTx
open Nat(beq blt ble)
open List(range mem_singleton any_map map_take)
set_option linter.all false
namespace Go.Ve
variable{c:Cl}{r:List Ae}{id j k:Nat}{x:Operand}{t:TypeId}
structure TI where
 ty:Ty
 agg:Bool
 flds:List (Nat×Nat)
 elem:Option TypeId
 bytes:Nat
 str:Bool
 ik:Option IntKind
 eq:Option (List Nat)
 sd:Nat:=0
 met:List (String×Nat):=[]
 arr:Nat:=0
 mp:Option (TypeId×TypeId):=none
def TI.places(i:TI):List (Nat×Nat):=bif beq i.arr 0 then i.flds else(range i.arr).map λk=>(k,1)
abbrev Tab:=List (TypeId×TI)
def Tab.look:Tab->TypeId->Option TI
 |[],_=>none
 |(u,i)::l,t=>bif beq u t then some i else Tab.look l t
def B2:Ty->List Value
 |.int k=>[.int k 0]
 |.bool=>[.bool false]
 |.str=>[.string ⟨#[]⟩]
 |.sl _=>[.slice none 0 0]
 |.ptr _=>[.pointer none]
 |.unit=>[]
 |.pair a b=>B2 a++B2 b
 |.clo _ _=>[.nilFunc]
 |.osl _=>[.slice none 0 0]
 |.mp _ _=>[.map none]
def Vh:Ty->List Cl
 |.ptr _=>[.nilp]
 |.unit=>[]
 |.pair a b=>Vh a++Vh b
 |.clo _ _=>[.nilf]
 |.osl t=>[.c (.osl t) (t.dep+1) (some [])]
 |.mp _ _=>[.nilm]
 |.int k=>[.c (.int k) 0 (0:Int)]
 |.bool=>[.c .bool 0 false]
 |.str=>[.c .str 0 ⟨#[]⟩]
 |.sl t=>[.c (.sl t) (t.dep+1) []]
def H2:Ty->List Cl
 |.ptr _=>[.nilp]
 |.unit=>[]
 |.pair a b=>H2 a++H2 b
 |.clo _ _=>[.nilf]
 |.osl _=>[.nil]
 |.mp _ _=>[.nilm]
 |.int k=>[.c (.int k) 0 (0:Int)]
 |.bool=>[.c .bool 0 false]
 |.str=>[.c .str 0 ⟨#[]⟩]
 |.sl _=>[.nil]
structure Ix where
 ty:Option TyI
 fl:List (Option (Nat×Nat))
 sl:Option SlI
 sk:SlK
 ln:LenI
 bd:Option (List (Nat×Nat)×List Value)
 ik:Option IntKind
 eq:Option (List Nat)
 mt:List (Option FuncId)
 ar:Nat
 mp:Option MpI
def ukI(P:Program)(t:TypeId):Option IntKind:=match P.underlying t with
 |some (.int k)=>some k
 |_=>none
def haveF(P:Program)(t:TypeId)(n:Nat)(u:List String):Ix:=⟨tyI P t,(range n).map (US P t),slI P t,slK P t,MV P t,Aas P t,ukI P t,Mw P t,u.map (metF P t),arI P t,mpI P t⟩
def wantF(Θ:Tab)(i:TI):Ix:=
 ⟨some ⟨i.agg,i.ty.w,B2 i.ty⟩,i.flds.map some,
  i.elem.bind λe=>(Θ.look e).map λj=>⟨e,j.ty.w,j.bytes,B2 j.ty⟩,
  if i.str then .string else match i.elem.bind Θ.look with|some j=>.slice j.ty.w|none=>.other,
  if i.str then .string else match i.elem with|some _=>.slice|none=>.other,
  if i.agg then some (i.places,B2 i.ty)else none,i.ik,i.eq,i.met.map λp=>some p.2,i.arr,mpW i.ty i.mp⟩
def Tab.OK(P:Program)(Θ:Tab):Prop:=∀t i,Θ.look t=some i->haveF P t i.flds.length (i.met.map (·.1))=wantF Θ i
def Tab.look_mem{t:TypeId}{i:TI}:∀{Θ:Tab},Θ.look t=some i->(t,i)∈Θ
 |[],h=>by cases h
 |(u,j)::l,h=>by
  unfold Tab.look at h;cases A:beq u t with
  |true=>
   simp_all
  |false=>
   rw[A]at h;exact mCM _ (look_mem h)
theorem Tab.ok_of{P:Program}{Θ:Tab}(h:Θ.map (λe=>haveF P e.1 e.2.flds.length (e.2.met.map (·.1)))=Θ.map (λe=>wantF Θ e.2)):Θ.OK P:=by
 intro t i u;exact List.map_inj_left.1 h _ (Tab.look_mem u)
section facts
variable {P:Program}{Θ:Tab}{t:TypeId}{i:TI}
def Tab.OK.ty(h:Θ.OK P)(u:Θ.look t=some i):tyI P t=some ⟨i.agg,i.ty.w,B2 i.ty⟩:=congrArg Ix.ty (h t i u)
theorem Tab.OK.fld(h:Θ.OK P)(u:Θ.look t=some i){p:Nat×Nat}(B:i.flds[k]? =some p):US P t k=some p:=by
 have A:(range i.flds.length).map (US P t)=i.flds.map some:=congrArg Ix.fl (h t i u);have E:=congrArg (·[k]?) A
 grind
theorem Tab.OK.elem(h:Θ.OK P)(u:Θ.look t=some i){e:TypeId}{j:TI}(B:i.elem=some e)(A:Θ.look e=some j):slI P t=some ⟨e,j.ty.w,j.bytes,B2 j.ty⟩:=by
 have E:slI P t=i.elem.bind λe=>(Θ.look e).map λj=>⟨e,j.ty.w,j.bytes,B2 j.ty⟩:=congrArg Ix.sl (h t i u)
 grind
def Tab.OK.sk(h:Θ.OK P)(u:Θ.look t=some i):slK P t=if i.str then .string else match i.elem.bind Θ.look with|some j=>.slice j.ty.w|none=>.other:=congrArg Ix.sk (h t i u)
def Tab.OK.ln(h:Θ.OK P)(u:Θ.look t=some i):MV P t=if i.str then .string else match i.elem with|some _=>.slice|none=>.other:=congrArg Ix.ln (h t i u)
def Tab.OK.bd(h:Θ.OK P)(u:Θ.look t=some i):Aas P t=if i.agg then some (i.places,B2 i.ty)else none:=congrArg Ix.bd (h t i u)
def Tab.OK.ar(h:Θ.OK P)(u:Θ.look t=some i):arI P t=i.arr:=congrArg Ix.ar (h t i u)
def Tab.OK.mp(h:Θ.OK P)(u:Θ.look t=some i):mpI P t=mpW i.ty i.mp:=congrArg Ix.mp (h t i u)
def Tab.OK.ik(h:Θ.OK P)(u:Θ.look t=some i):ukI P t=i.ik:=congrArg Ix.ik (h t i u)
def Tab.OK.met(h:Θ.OK P)(E:Θ.look t=some i){u:String}{f:Nat}(B:(u,f)∈i.met):metF P t u=some f:=by
 have A:(i.met.map (·.1)).map (metF P t)=i.met.map λp=>some p.2:=congrArg Ix.mt (h t i E)
 rw[List.map_map]at A;exact List.map_inj_left.1 A _ B
def Tab.OK.eq(h:Θ.OK P)(u:Θ.look t=some i):Mw P t=i.eq:=congrArg Ix.eq (h t i u)
end facts
def HW:Value->Option Cl
 |.int k n=>some (.c (.int k) 0 n)
 |.bool b=>some (.c .bool 0 b)
 |.string s=>some (.c .str 0 s)
 |.slice none 0 0=>some .nil
 |.pointer none=>some .nilp
 |.map none=>some .nilm
 |_=>none
def Aan:Value->Option Sl
 |.agg cs=>(cs.toList.mapM HW).map .agg
 |v=>(HW v).map .one
def St.ev(s:St):Operand->Option Sl
 |.tmp t=>some (s.t t)
 |.const v=>Aan v
 |.func f=>bif blt f 1000000 then some (.one (.c (.clo f .unit) 0 ()))else none
 |_=>none
theorem QL{v:Value}(h:HW v=some c)(r:List Ae):c.v r=.c v/\v.oneCell'=true/\c.v0=.c v:=by
 unfold HW at h;split at h<;>first|grind|(cases h;trivial)
theorem Oh(r:List Ae):∀(l:List Value) (cl:List Cl),l.mapM HW=some cl->cl.map (Cl.v r)=l.map V.c/\l.all (·.oneCell')=true
 |[],cl,h=>by grind
 |v::l,cl,h=>by
  cases A:HW v with
  |none=>grind
  |some c=>
   cases u:l.mapM HW with
   |none=>grind
   |some cs=>
    simp[u]at h;obtain⟨O,J⟩:=Oh r l cs u;obtain⟨E,B,_⟩:=QL A r
    grind
theorem Bf{s:St}{y:Sl}(h:s.ev x=some y):s.den.ev x=y.v s.r:=by
 unfold St.ev at h;split at h
 .cases h;rfl
 .rename_i v
  show Lc v=_;unfold Aan at h;split at h
  .rename_i cs
   cases B:cs.toList.mapM HW with
   |none=>grind
   |some cl=>
    simp[B]at h;subst h;obtain⟨A,u⟩:=Oh s.r _ _ B;unfold Lc;simp only[u,if_true];show _=Am (cl.map (Cl.v s.r));rw[A]
  .rename_i O
   cases E:HW v with
   |none=>grind
   |some c=>
    simp[E]at h;subst h;obtain⟨A,u,_⟩:=QL E s.r;unfold Lc;split
    .grind
    .simp[u,if_true]
     exact A.symm
 .rename_i f
  cases J:blt f 1000000 with
  |false=>grind
  |true=>
   rw[J]at h;cases h;show fnV f=_;unfold fnV;rw[J];rfl
 .cases h
def Cl.own:Cl->Bool
 |.c (.sl _) (_+1) _=>true
 |.c (.ptr _) (_+1) _=>true
 |.c (.osl _) (_+1) x=>isO x
 |.c (.mp _ _) (_+1) _=>true
 |_=>false
def Sl.own:Sl->Bool
 |.one c=>c.own
 |.new _=>true
 |.agg l=>l.any Cl.own
 |.tup l=>l.any λp=>if p.1 then p.2.any Cl.own else(p.2.getD 0 .dead).own
 |.pk _ l=>l.any Cl.own
theorem Hm:∀(t:Ty) (x:t.T),∀v∈tyV t 0 x,AN v=false
 |.int _,_,v,h=>by simp[tyV]at h;subst h;rfl
 |.bool,_,v,h=>by simp[tyV]at h;subst h;rfl
 |.str,_,v,h=>by simp[tyV]at h;subst h;rfl
 |.sl _,_,v,h=>by simp[tyV]at h;subst h;rfl
 |.ptr _,_,v,h=>by simp[tyV]at h;subst h;rfl
 |.unit,_,v,h=>by trivial
 |.mp _ _,_,v,h=>by simp[tyV]at h;subst h;rfl
 |.pair a b,x,v,h=>by
  simp[tyV,List.mem_append]at h;exact h.elim (Hm a x.1 v) (Hm b x.2 v)
 |.osl t,x,v,h=>by
  simp[tyV,mem_singleton]at h;subst h;cases x<;>rfl
 |.clo g t,x,v,h=>by
  simp[tyV,mem_singleton]at h;subst h;show((range t.w).any λk=>AN ((tyV t 0 x).getD k .dead))=false
  rw[List.any_eq_false];intro k u;have u:k<(tyV t 0 x).length:=by rw[AB];grind
  rw[gDE,gEE u];simp[Hm t x _ (List.getElem_mem u)]
theorem Cl.own_v(c:Cl):AN (c.v r)=c.own:=by
 cases c with
 |c t d x=>cases t<;>first|rfl|(cases d<;>rfl)|(cases x<;>cases d<;>rfl)|exact Hm (.clo _ _) x _ (mem_singleton.2 rfl)
 |_=>rfl
theorem MN(l:List Cl):AN (Am (l.map (Cl.v r)))=l.any Cl.own:=by
 rw[VN,any_map]
 congr 1
 funext c
 exact Cl.own_v c
theorem Sl.own_v{r:List Ae}(s:Sl):AN (s.v r)=s.own:=by
 cases s with
 |one c=>exact Cl.own_v c
 |new l=>rfl
 |agg l=>exact MN l
 |pk t l=>
  show AN (pkL t (l.map (Cl.v r)))=l.any Cl.own;rw[AaR,any_map]
  congr 1
  funext c
  exact Cl.own_v c
 |tup l=>
  show AN (DC _)=l.any _;rw[Ys,any_map]
  congr 1
  funext p
  obtain⟨b,l⟩:=p;cases b with
  |true=>exact MN l
  |false=>
   show AN ((l.map (Cl.v r)).getD 0 .dead)=(l.getD 0 .dead).own;rw[AM (a:=.dead) rfl];exact Cl.own_v _
def Cl.ref(id:Nat)(q:AX):Cl->Cl
 |.c (.sl _) (_+1) _=>.rf id q
 |.c (.ptr _) (_+1) _=>.rp id q 0 0
 |.c (.osl _) _ _=>.dead
 |.c (.mp _ _) (_+1) _=>.rm id q
 |.rm _ _=>.dead
 |.rf _ _=>.dead
 |.rs _ _ _ _=>.dead
 |.rp _ _ _ _=>.dead
 |y=>y
def Cl.ok:Cl->Bool
 |.c (.ptr t) (_+1) _=>blt 0 t.w
 |.c (.clo _ _) _ _=>false
 |.c (.osl _) _ _=>false
 |_=>true
theorem ref_v{q:AX}{ro:Bool}(u:c.ok=true)(h:Ag r id q=c.node ro):(c.ref id q).v r=Vz id q c.v0:=by
 cases c with
 |c t d x=>
  cases t<;>cases d<;>first|rfl|trivial|(show V.rs id q 0 (Ag r id q).len=_;rw[h];rfl)
 |_=>rfl
theorem ok_v(h:c.ok=true):B0 c.v0=true:=by
 cases c with
 |c t d x=>
  cases t<;>try rfl
  .rename_i t
   cases d with
   |zero=>rfl
   |succ d=>
    show decide (0<(tyV t d x).length)=true;rw[AB];exact dT (blE h)
  .cases h
  trivial
 |_=>rfl
def Jy{p:AX}:Ag r id (p++[(j,k)])=(((Ag r id p).cells j).getD k .dead).node (Ag r id p).ro:=by
 unfold Ag;rw[Aav];rfl
theorem DU{p:AX}{i:Nat}(h:(Ag r id p).live=true):Cw (r.map Ae.v) id p i k=(((Ag r id p).cells i).getD k .dead).v0:=by
 obtain⟨s,sz,n,f,u,A,_⟩:=Px _ h;unfold Cw;rw[AV (WW h),u]
 grind
def Ae.w:Ae->Nat
 |.obj _ l=>l.length
 |.arr _ t _ _=>t.w
 |.opt _ t _ _=>t.w
 |.mp _ _ _ _=>0
 |.dead=>0
theorem Cn{p:AX}(h:(Ag r id p).live=true):AW (r.map Ae.v) id p=(Ag r id p).w:=by
 unfold AW;rw[AV (WW h)];cases u:Ag r id p with
 |dead=>rfl
 |opt=>rw[u]at h;cases h
 |mp=>rw[u]at h;cases h
 |obj ro l=>exact List.length_map ..
 |arr ro t d xs=>rfl
inductive TR where
 |ok (y:Sl)
 |cnd (p:Prop) (dec:Decidable p) (y:Sl)
variable{a:TR}
def TR.y:TR->Sl
 |.ok y=>y
 |.cnd _ _ y=>y
def TR.p:TR->Prop
 |.ok _=>True
 |.cnd p _ _=>p
def SK(s:St)(y:Sl):V->Prop:=λr0=>Sub r0 (y.v s.r)
def QS(P:Program)(s:St)(op:Op)(y:Sl):Prop:=Nu P (s.r.map Ae.v) s.den.ev op (SK s y)
def AaS:Option Sl->Option TR
 |some y=>bif y.own then none else some (.ok y)
 |none=>none
def AaQ(_ _ _:Option Sl):Option TR:=none
def refL(id:Nat)(p:AX)(j:Nat):Nat->List Cl->List Cl
 |_,[]=>[]
 |k,c::l=>c.ref id (p++[(j,k)])::refL id p j (k+1) l
def VO(s:St):Option TI->Option Sl->Option TR
 |some i,some (.one (.c (.ptr t) 0 x))=>
  bif i.agg then(bif ble i.ty.w t.w then some (.ok (.agg ((AA t 0 x).take i.ty.w)))else none)
  else match AA t 0 x with
   |c::_=>some (.ok (.one c))
   |[]=>none
 |some i,some (.one (.rp id p j k))=>
  bif(Ag s.r id p).live then
   bif i.agg then
    bif ble (k+i.ty.w) (Ag s.r id p).w&&((((Ag s.r id p).cells j).drop k).take i.ty.w).all Cl.ok&&beq ((Ag s.r id p).cells j).length (Ag s.r id p).w then
     some (.ok (.agg (refL id p j k ((((Ag s.r id p).cells j).drop k).take i.ty.w))))else none
   else match((Ag s.r id p).cells j).getD k .dead with
    |.dead=>none
    |.c (.osl _) (_+1) x=>some (.cnd (isO x=true) inferInstance (.one (.rf id (p++[(j,k)]))))
    |c=>bif c.ok then some (.ok (.one (c.ref id (p++[(j,k)]))))else none
  else none
 |some i,some (.pk .bx l)=>
  bif i.agg then(bif ble i.ty.w l.length&& !(l.take i.ty.w).any Cl.own then some (.ok (.agg (l.take i.ty.w)))else none)
  else match l with
   |c::_=>bif c.own then none else some (.ok (.one c))
   |[]=>none
 |_,_=>none
section sound
variable {P:Program}{Θ:Tab}{s:St}
theorem OL{op:Op}(B:op=.move x\/op=.assign x)(h:AaS (s.ev x)=some a):QS P s op a.y:=by
 unfold AaS at h;split at h<;>try grind
 rename_i y A;cases u:y.own with
 |true=>grind
 |false=>
  rw[u]at h;cases h;have e:=Bf A;have:Wp (s.den.ev x) (SK s y):=⟨by rw[e,Sl.own_v,u],by rw[e];exact Sub.refl (y.v s.r)⟩
  rcases B with rfl|rfl<;>exact this
def Lj{t:Ty}{d u:Nat}{x:t.T}(h:min d t.dep=min u t.dep):cV t d x=cV t u x:=by
 have:=Dl t d u x h;cases t<;>first|rfl|(simp[tyV,and_true]at this;trivial)|exact(List.cons.inj this).1
def OJ{c y:Operand}(h:AaQ (s.ev c) (s.ev x) (s.ev y)=some a):QS P s (.pick c x y) a.y:=by
 unfold AaQ at h;cases h
theorem PM{l:List V}:∀(n:Nat),n<=l.length->(tab n λk=>l.getD k .dead)=l.take n:=by
 intro n
 induction n generalizing l with
 |zero=>intro _;rfl
 |succ n u=>
  intro h;cases l with
  |nil=>grind
  |cons v l=>
   unfold tab
   grind
theorem VD{f g:Nat->V}:∀(n:Nat),(∀k,k<n->f k=g k)->tab n f=tab n g:=by
 intro n
 induction n generalizing f g with
 |zero=>intro _;rfl
 |succ n u=>unfold tab;grind
def Cl.v_c{r:List Ae}:∀(t:Ty) (d:Nat) (x:t.T),(AA t d x).map (Cl.v r)=tyV t d x
 |.int _,_,_=>rfl
 |.bool,_,_=>rfl
 |.str,_,_=>rfl
 |.sl _,_,_=>rfl
 |.ptr _,_,_=>rfl
 |.unit,_,_=>rfl
 |.pair a b,d,x=>by simp[AA,tyV,Cl.v_c a,Cl.v_c b]
 |.clo _ _,_,_=>rfl
 |.osl _,_,_=>rfl
 |.mp _ _,_,_=>rfl
theorem YG{p:AX}:∀(l:List Cl) (k:Nat),(∀c∈l,c.ok=true)->(∀m,m<l.length->((Ag r id p).cells j).getD (k+m) .dead=l.getD m .dead)->
  (refL id p j k l).map (Cl.v r)=tab l.length λm=>Vz id (p++[(j,k+m)]) ((((Ag r id p).cells j).getD (k+m) .dead).v0):=by
 intro l
 induction l with
 |nil=>intro k _ _;rfl
 |cons c l B=>
  intro k A h;have u:=h 0 (by simp)
  simp only[Nat.add_zero,List.getD_cons_zero]at u;unfold refL;rw[List.map_cons,List.length_cons,tab]
  congr 1
  .rw[Nat.add_zero,u]
   exact ref_v (A c (List.mem_cons_self ..)) (by rw[Jy,u])
  .rw[B (k+1) (λc h=>A c (mCM _ h)) λm E=>by
    have:=h (m+1) (by simpa using E)
    grind]
   grind
theorem PQ(Y:Θ.OK P)(h:VO s (Θ.look t) (s.ev x)=some a)(hp:a.p):Ib (tyI P t) (s.r.map Ae.v) (s.den.ev x) (λr0=>r0=a.y.v s.r):=by
 unfold VO at h;split at h
 case h_4=>cases h
 .rename_i i t' x' hi Z
  show Ib (tyI P t) (s.r.map Ae.v) (s.den.ev x) (λr0=>r0=a.y.v s.r)
  rw[Y.ty hi,Bf Z];cases B:i.agg with
  |true=>
   rw[B]at h;obtain⟨U,h⟩:=Bc h;cases h;have U:=blE U;show i.ty.w<=(tyV t' 0 x').length/\Am (tab i.ty.w λk=>(tyV t' 0 x').getD k .dead)=Am (((AA t' 0 x').take i.ty.w).map (Cl.v s.r))
   refine⟨by rw[AB];exact U,?_⟩
   rw[PM _ (by rw[AB];exact U),map_take,Cl.v_c]
  |false=>
   rw[B]at h;simp only[cond_false]at h;split at h
   .rename_i c l O
    cases h;show 0<(tyV t' 0 x').length/\(tyV t' 0 x').getD 0 .dead=c.v s.r;rw[<-Cl.v_c (r:=s.r) t' 0 x',O];exact⟨by simp,rfl⟩
   .cases h
 .rename_i i id p j k hi Z
  show Ib (tyI P t) (s.r.map Ae.v) (s.den.ev x) (λr0=>r0=a.y.v s.r)
  rw[Y.ty hi,Bf Z];obtain⟨hl,h⟩:=Bc h;have E:=hl;cases B:i.agg with
  |true=>
   rw[B]at h;simp only[cond_true]at h;obtain⟨O,h⟩:=Bc h;cases h;simp only[bAE]at O;obtain⟨⟨h1,h2⟩,h3⟩:=O;have h1:=blE h1;have h3:=bqE h3
   have A:((((Ag s.r id p).cells j).drop k).take i.ty.w).length=i.ty.w:=by
    rw[List.length_take,List.length_drop,h3];omega
   have W:∀m,m<i.ty.w->((((Ag s.r id p).cells j).drop k).take i.ty.w).getD m .dead=((Ag s.r id p).cells j).getD (k+m) .dead:=by
    intro m J;simp[List.getElem?_take,J]
   refine⟨by rw[Cn E];exact h1,?_,?_⟩
   .rw[aET]
    intro m J;have J:=List.mem_range.1 J;show B0 (Cw (s.r.map Ae.v) id p j (k+m))=true;rw[DU E,<-W m J];refine ok_v (aET.1 h2 _ ?_);rw[gDE,gEE (by rw[A];exact J)]
    exact List.getElem_mem _
   .show _=Am ((refL id p j k _).map (Cl.v s.r))
    rw[YG _ k (aET.1 h2) λm J=>(W m (by rw[A]at J;exact J)).symm,A]
    congr 1
    apply VD;intro m J;rw[DU E]
  |false=>
   rw[B]at h;simp only[cond_true,cond_false]at h;split at h
   .cases h
   .rename_i u d x O
    cases h;have Z:isO x=true:=hp;obtain⟨xs,rfl⟩:∃xs,x=some xs:=by
     cases x with
     |none=>cases Z
     |some xs=>exact⟨xs,rfl⟩
    refine⟨by rw[DU E,O];rfl,?_⟩
    rw[DU E,O];have e:Ag s.r id (p++[(j,k)])=.opt (Ag s.r id p).ro u d (some xs):=by rw[Jy,O];rfl
    show V.rs id (p++[(j,k)]) 0 xs.length=V.rs id (p++[(j,k)]) 0 (Ag s.r id (p++[(j,k)])).len;rw[e];rfl
   .rename_i c hn O
    generalize hcd:((Ag s.r id p).cells j).getD k .dead=c' at h O;obtain⟨hok,h⟩:=Bc h;cases h;refine⟨by rw[DU E,hcd];exact ok_v hok,?_⟩
    rw[DU E,hcd];exact(ref_v (ro:=(Ag s.r id p).ro) hok (by rw[Jy,hcd])).symm
 .rename_i i l hi Z
  show Ib (tyI P t) (s.r.map Ae.v) (s.den.ev x) (λr0=>r0=a.y.v s.r)
  rw[Y.ty hi,Bf Z];have A:(l.map (Cl.v s.r)).length=l.length:=by simp
  cases B:i.agg with
  |true=>
   rw[B]at h;simp only[cond_true]at h;obtain⟨U,h⟩:=Bc h;cases h;simp only[bAE,Bool.not_eq_true']at U;have hw1:=blE U.1;show(i.ty.w<=(l.map (Cl.v s.r)).length/\_)/\Am (tab i.ty.w λk=>(l.map (Cl.v s.r)).getD k .dead)=Am ((l.take i.ty.w).map (Cl.v s.r))
   refine⟨⟨by rw[A];exact hw1,?_⟩,?_⟩
   .rw[aET]
    intro k hk;have hk:=List.mem_range.1 hk;show(!AN ((l.map (Cl.v s.r)).getD k .dead))=true;rw[AM (f:=Cl.v s.r) (a:=.dead) rfl,Cl.own_v]
    have h2:=List.any_eq_false.1 U.2 (l.getD k .dead) (by
     rw[gDE,gEE (by omega)]
     exact List.mem_take_iff_getElem.2 ⟨k,by omega,rfl⟩)
    simpa using h2
   .rw[PM _ (by rw[A];exact hw1),map_take]
  |false=>
   rw[B]at h;simp only[cond_false]at h;split at h
   .rename_i c l
    cases ho:c.own with
    |true=>rw[ho]at h;cases h
    |false=>
     rw[ho]at h;cases h;show(0<((c::l).map (Cl.v s.r)).length/\AN (c.v s.r)=false)/\c.v s.r=c.v s.r;exact⟨⟨by simp,by rw[Cl.own_v];exact ho⟩,rfl⟩
   .cases h
theorem KM{u:Option TyI}{σ:List V}{x:V}{K K':V->Prop}(h:Ib u σ x K)(A:∀r,K r->K' r):Ib u σ x K':=by
 unfold Ib at h⊢;split at h
 .split at h
  .grind
  .grind
  .grind
  omega
 .grind
 .exact h.elim
def OP(u:Θ.OK P)(h:VO s (Θ.look t) (s.ev x)=some a)(B:a.p):QS P s (.load t x) a.y:=
 KM (PQ u h B) λr0 A=>by rw[A];exact Sub.refl _
end sound
end Go.Ve

