/- The typed machine. -/
import Derived.Test.YteakdlfnmhlifaaTx
open Nat(beq blt ble)
open List(range mem_singleton any_map map_take)
set_option linter.all false
namespace Go.Ve
variable{c:Cl}{r:List Aa}{id j k:Nat}{x:Operand}{t:TypeId}
structure TI where
 ty:Ty
 agg:Bool
 flds:List (Nat×Nat)
 elem:Option TypeId
 bytes:Nat
 str:Bool
 ik:Option IntKind
 eq:Option (List Nat)
 sd:Nat:=0
 met:List (String×Nat):=[]
 arr:Nat:=0
 mp:Option (TypeId×TypeId):=none
def TI.places(i:TI):List (Nat×Nat):=bif beq i.arr 0 then i.flds else(range i.arr).map λk=>(k,1)
abbrev Tab:=List (TypeId×TI)
def Tab.look:Tab->TypeId->Option TI
 |[],_=>none
 |(u,i)::l,t=>bif beq u t then some i else Tab.look l t
def BX:Ty->List Value
 |.int k=>[.int k 0]
 |.bool=>[.bool false]
 |.str=>[.string ⟨#[]⟩]
 |.sl _=>[.slice none 0 0]
 |.ptr _=>[.pointer none]
 |.unit=>[]
 |.pair a b=>BX a++BX b
 |.clo _ _=>[.nilFunc]
 |.osl _=>[.slice none 0 0]
 |.mp _ _=>[.map none]
def Wj:Ty->List Cl
 |.ptr _=>[.nilp]
 |.unit=>[]
 |.pair a b=>Wj a++Wj b
 |.clo _ _=>[.nilf]
 |.osl t=>[.c (.osl t) (t.dep+1) (some [])]
 |.mp _ _=>[.nilm]
 |.int k=>[.c (.int k) 0 (0:Int)]
 |.bool=>[.c .bool 0 false]
 |.str=>[.c .str 0 ⟨#[]⟩]
 |.sl t=>[.c (.sl t) (t.dep+1) []]
def Ii:Ty->List Cl
 |.ptr _=>[.nilp]
 |.unit=>[]
 |.pair a b=>Ii a++Ii b
 |.clo _ _=>[.nilf]
 |.osl _=>[.nil]
 |.mp _ _=>[.nilm]
 |.int k=>[.c (.int k) 0 (0:Int)]
 |.bool=>[.c .bool 0 false]
 |.str=>[.c .str 0 ⟨#[]⟩]
 |.sl _=>[.nil]
structure IT where
 ty:Option TyI
 fl:List (Option (Nat×Nat))
 sl:Option SlI
 sk:SlK
 ln:LenI
 bd:Option (List (Nat×Nat)×List Value)
 ik:Option IntKind
 eq:Option (List Nat)
 mt:List (Option FuncId)
 ar:Nat
 mp:Option MpI
def ukI(P:Program)(t:TypeId):Option IntKind:=match P.underlying t with
 |some (.int k)=>some k
 |_=>none
def haveF(P:Program)(t:TypeId)(n:Nat)(A:List String):IT:=⟨tyI P t,(range n).map (VS P t),slI P t,slK P t,ND P t,Abo P t,ukI P t,Wh P t,A.map (metF P t),arI P t,mpI P t⟩
def wantF(Θ:Tab)(i:TI):IT:=
 ⟨some ⟨i.agg,i.ty.w,BX i.ty⟩,i.flds.map some,
  i.elem.bind λe=>(Θ.look e).map λj=>⟨e,j.ty.w,j.bytes,BX j.ty⟩,
  if i.str then .string else match i.elem.bind Θ.look with|some j=>.slice j.ty.w|none=>.other,
  if i.str then .string else match i.elem with|some _=>.slice|none=>.other,
  if i.agg then some (i.places,BX i.ty)else none,i.ik,i.eq,i.met.map λp=>some p.2,i.arr,mpW i.ty i.mp⟩
def Tab.OK(P:Program)(Θ:Tab):Prop:=∀t i,Θ.look t=some i->haveF P t i.flds.length (i.met.map (·.1))=wantF Θ i
def Tab.look_mem{t:TypeId}{i:TI}:∀{Θ:Tab},Θ.look t=some i->(t,i)∈Θ
 |[],h=>by cases h
 |(u,j)::l,h=>by
  unfold Tab.look at h;cases A:beq u t with
  |true=>
   simp_all
  |false=>
   rw[A]at h;exact mCM _ (look_mem h)
theorem Tab.ok_of{P:Program}{Θ:Tab}(h:Θ.map (λe=>haveF P e.1 e.2.flds.length (e.2.met.map (·.1)))=Θ.map (λe=>wantF Θ e.2)):Θ.OK P:=by
 intro t i A;exact List.map_inj_left.1 h _ (Tab.look_mem A)
section facts
variable {P:Program}{Θ:Tab}{t:TypeId}{i:TI}
def Tab.OK.ty(h:Θ.OK P)(A:Θ.look t=some i):tyI P t=some ⟨i.agg,i.ty.w,BX i.ty⟩:=congrArg IT.ty (h t i A)
theorem Tab.OK.fld(h:Θ.OK P)(A:Θ.look t=some i){p:Nat×Nat}(F:i.flds[k]? =some p):VS P t k=some p:=by
 have B:(range i.flds.length).map (VS P t)=i.flds.map some:=congrArg IT.fl (h t i A);have H:=congrArg (·[k]?) B
 grind
theorem Tab.OK.elem(h:Θ.OK P)(A:Θ.look t=some i){e:TypeId}{j:TI}(B:i.elem=some e)(hj:Θ.look e=some j):slI P t=some ⟨e,j.ty.w,j.bytes,BX j.ty⟩:=by
 have F:slI P t=i.elem.bind λe=>(Θ.look e).map λj=>⟨e,j.ty.w,j.bytes,BX j.ty⟩:=congrArg IT.sl (h t i A)
 grind
def Tab.OK.sk(h:Θ.OK P)(A:Θ.look t=some i):slK P t=if i.str then .string else match i.elem.bind Θ.look with|some j=>.slice j.ty.w|none=>.other:=congrArg IT.sk (h t i A)
def Tab.OK.ln(h:Θ.OK P)(A:Θ.look t=some i):ND P t=if i.str then .string else match i.elem with|some _=>.slice|none=>.other:=congrArg IT.ln (h t i A)
def Tab.OK.bd(h:Θ.OK P)(A:Θ.look t=some i):Abo P t=if i.agg then some (i.places,BX i.ty)else none:=congrArg IT.bd (h t i A)
def Tab.OK.ar(h:Θ.OK P)(A:Θ.look t=some i):arI P t=i.arr:=congrArg IT.ar (h t i A)
def Tab.OK.mp(h:Θ.OK P)(A:Θ.look t=some i):mpI P t=mpW i.ty i.mp:=congrArg IT.mp (h t i A)
def Tab.OK.ik(h:Θ.OK P)(A:Θ.look t=some i):ukI P t=i.ik:=congrArg IT.ik (h t i A)
def Tab.OK.met(h:Θ.OK P)(F:Θ.look t=some i){A:String}{f:Nat}(hm:(A,f)∈i.met):metF P t A=some f:=by
 have B:(i.met.map (·.1)).map (metF P t)=i.met.map λp=>some p.2:=congrArg IT.mt (h t i F)
 rw[List.map_map]at B;exact List.map_inj_left.1 B _ hm
def Tab.OK.eq(h:Θ.OK P)(A:Θ.look t=some i):Wh P t=i.eq:=congrArg IT.eq (h t i A)
end facts
def H6:Value->Option Cl
 |.int k n=>some (.c (.int k) 0 n)
 |.bool b=>some (.c .bool 0 b)
 |.string s=>some (.c .str 0 s)
 |.slice none 0 0=>some .nil
 |.pointer none=>some .nilp
 |_=>none
def Abh:Value->Option Sl
 |.agg cs=>(cs.toList.mapM H6).map .agg
 |v=>(H6 v).map .one
def St.ev(s:St):Operand->Option Sl
 |.tmp t=>some (s.t t)
 |.const v=>Abh v
 |.func f=>bif blt f 1000000 then some (.one (.c (.clo f .unit) 0 ()))else none
 |_=>none
theorem UJ{v:Value}(h:H6 v=some c)(r:List Aa):c.v r=.c v/\v.oneCell'=true/\c.v0=.c v:=by
 unfold H6 at h;split at h<;>first|grind|(cases h;trivial)
theorem O9(r:List Aa):∀(l:List Value) (cl:List Cl),l.mapM H6=some cl->cl.map (Cl.v r)=l.map V.c/\l.all (·.oneCell')=true
 |[],cl,h=>by grind
 |v::l,cl,h=>by
  cases hv:H6 v with
  |none=>grind
  |some c=>
   cases A:l.mapM H6 with
   |none=>grind
   |some cs=>
    simp[A]at h;obtain⟨F,B⟩:=O9 r l cs A;obtain⟨h3,h4,_⟩:=UJ hv r
    grind
theorem Bg{s:St}{y:Sl}(h:s.ev x=some y):s.den.ev x=y.v s.r:=by
 unfold St.ev at h;split at h
 .cases h;rfl
 .rename_i v
  show LZ v=_;unfold Abh at h;split at h
  .rename_i cs
   cases F:cs.toList.mapM H6 with
   |none=>grind
   |some cl=>
    simp[F]at h;subst h;obtain⟨B,A⟩:=O9 s.r _ _ F;unfold LZ;simp only[A,if_true];show _=Ah (cl.map (Cl.v s.r));rw[B]
  .rename_i W
   cases H:H6 v with
   |none=>grind
   |some c=>
    simp[H]at h;subst h;obtain⟨B,A,_⟩:=UJ H s.r;unfold LZ;split
    .grind
    .simp[A,if_true]
     exact B.symm
 .rename_i f
  cases U:blt f 1000000 with
  |false=>grind
  |true=>
   rw[U]at h;cases h;show fnV f=_;unfold fnV;rw[U];rfl
 .cases h
def Cl.own:Cl->Bool
 |.c (.sl _) (_+1) _=>true
 |.c (.ptr _) (_+1) _=>true
 |.c (.osl _) (_+1) x=>isO x
 |.c (.mp _ _) (_+1) _=>true
 |_=>false
def Sl.own:Sl->Bool
 |.one c=>c.own
 |.new _=>true
 |.agg l=>l.any Cl.own
 |.tup l=>l.any λp=>if p.1 then p.2.any Cl.own else(p.2.getD 0 .dead).own
 |.pk _ l=>l.any Cl.own
theorem Hv:∀(t:Ty) (x:t.T),∀v∈tyV t 0 x,AJ v=false
 |.int _,_,v,h=>by simp[tyV]at h;subst h;rfl
 |.bool,_,v,h=>by simp[tyV]at h;subst h;rfl
 |.str,_,v,h=>by simp[tyV]at h;subst h;rfl
 |.sl _,_,v,h=>by simp[tyV]at h;subst h;rfl
 |.ptr _,_,v,h=>by simp[tyV]at h;subst h;rfl
 |.unit,_,v,h=>by trivial
 |.mp _ _,_,v,h=>by simp[tyV]at h;subst h;rfl
 |.pair a b,x,v,h=>by
  simp[tyV,List.mem_append]at h;exact h.elim (Hv a x.1 v) (Hv b x.2 v)
 |.osl t,x,v,h=>by
  simp[tyV,mem_singleton]at h;subst h;cases x<;>rfl
 |.clo g t,x,v,h=>by
  simp[tyV,mem_singleton]at h;subst h;show((range t.w).any λk=>AJ ((tyV t 0 x).getD k .dead))=false
  rw[List.any_eq_false];intro k A;have A:k<(tyV t 0 x).length:=by rw[Ax];grind
  rw[gDE,gEE A];simp[Hv t x _ (List.getElem_mem A)]
theorem Cl.own_v(c:Cl):AJ (c.v r)=c.own:=by
 cases c with
 |c t d x=>cases t<;>first|rfl|(cases d<;>rfl)|(cases x<;>cases d<;>rfl)|exact Hv (.clo _ _) x _ (mem_singleton.2 rfl)
 |_=>rfl
theorem Nz(l:List Cl):AJ (Ah (l.map (Cl.v r)))=l.any Cl.own:=by
 rw[WN,any_map]
 congr 1
 funext c
 exact Cl.own_v c
theorem Sl.own_v{r:List Aa}(s:Sl):AJ (s.v r)=s.own:=by
 cases s with
 |one c=>exact Cl.own_v c
 |new l=>rfl
 |agg l=>exact Nz l
 |pk t l=>
  show AJ (pkL t (l.map (Cl.v r)))=l.any Cl.own;rw[AbL,any_map]
  congr 1
  funext c
  exact Cl.own_v c
 |tup l=>
  show AJ (Dj _)=l.any _;rw[Zi,any_map]
  congr 1
  funext p
  obtain⟨b,l⟩:=p;cases b with
  |true=>exact Nz l
  |false=>
   show AJ ((l.map (Cl.v r)).getD 0 .dead)=(l.getD 0 .dead).own;rw[Aw (a:=.dead) rfl];exact Cl.own_v _
def Cl.ref(id:Nat)(q:AI):Cl->Cl
 |.c (.sl _) (_+1) _=>.rf id q
 |.c (.ptr _) (_+1) _=>.rp id q 0 0
 |.c (.osl _) _ _=>.dead
 |.c (.mp _ _) (_+1) _=>.rm id q
 |.rm _ _=>.dead
 |.rf _ _=>.dead
 |.rs _ _ _ _=>.dead
 |.rp _ _ _ _=>.dead
 |y=>y
def Cl.ok:Cl->Bool
 |.c (.ptr t) (_+1) _=>blt 0 t.w
 |.c (.clo _ _) _ _=>false
 |.c (.osl _) _ _=>false
 |_=>true
theorem ref_v{q:AI}{ro:Bool}(A:c.ok=true)(h:Ac r id q=c.node ro):(c.ref id q).v r=Wy id q c.v0:=by
 cases c with
 |c t d x=>
  cases t<;>cases d<;>first|rfl|trivial|(show V.rs id q 0 (Ac r id q).len=_;rw[h];rfl)
 |_=>rfl
theorem ok_v(h:c.ok=true):BU c.v0=true:=by
 cases c with
 |c t d x=>
  cases t<;>try rfl
  .rename_i t
   cases d with
   |zero=>rfl
   |succ d=>
    show decide (0<(tyV t d x).length)=true;rw[Ax];exact dT (blE h)
  .cases h
  trivial
 |_=>rfl
def J6{p:AI}:Ac r id (p++[(j,k)])=(((Ac r id p).cells j).getD k .dead).node (Ac r id p).ro:=by
 unfold Ac;rw[Abq];rfl
theorem Hb{p:AI}{i:Nat}(h:(Ac r id p).live=true):Co (r.map Aa.v) id p i k=(((Ac r id p).cells i).getD k .dead).v0:=by
 obtain⟨s,sz,n,f,hv,A,_⟩:=Qj _ h;unfold Co;rw[AV (XT h),hv]
 grind
def Aa.w:Aa->Nat
 |.obj _ l=>l.length
 |.arr _ t _ _=>t.w
 |.opt _ t _ _=>t.w
 |.mp _ _ _ _=>0
 |.dead=>0
theorem Cd{p:AI}(h:(Ac r id p).live=true):AW (r.map Aa.v) id p=(Ac r id p).w:=by
 unfold AW;rw[AV (XT h)];cases A:Ac r id p with
 |dead=>rfl
 |opt=>rw[A]at h;cases h
 |mp=>rw[A]at h;cases h
 |obj ro l=>exact List.length_map ..
 |arr ro t d xs=>rfl
inductive TR where
 |ok (y:Sl)
 |cnd (p:Prop) (dec:Decidable p) (y:Sl)
variable{a:TR}
def TR.y:TR->Sl
 |.ok y=>y
 |.cnd _ _ y=>y
def TR.p:TR->Prop
 |.ok _=>True
 |.cnd p _ _=>p
def SK(s:St)(y:Sl):V->Prop:=λA=>Sub A (y.v s.r)
def QS(P:Program)(s:St)(op:Op)(y:Sl):Prop:=Oe P (s.r.map Aa.v) s.den.ev op (SK s y)
def AbM:Option Sl->Option TR
 |some y=>bif y.own then none else some (.ok y)
 |none=>none
def AbK(_ _ _:Option Sl):Option TR:=none
def refL(id:Nat)(p:AI)(j:Nat):Nat->List Cl->List Cl
 |_,[]=>[]
 |k,c::l=>c.ref id (p++[(j,k)])::refL id p j (k+1) l
def WO(s:St):Option TI->Option Sl->Option TR
 |some i,some (.one (.c (.ptr t) 0 x))=>
  bif i.agg then(bif ble i.ty.w t.w then some (.ok (.agg ((Ar t 0 x).take i.ty.w)))else none)
  else match Ar t 0 x with
   |c::_=>some (.ok (.one c))
   |[]=>none
 |some i,some (.one (.rp id p j k))=>
  bif(Ac s.r id p).live then
   bif i.agg then
    bif ble (k+i.ty.w) (Ac s.r id p).w&&((((Ac s.r id p).cells j).drop k).take i.ty.w).all Cl.ok&&beq ((Ac s.r id p).cells j).length (Ac s.r id p).w then
     some (.ok (.agg (refL id p j k ((((Ac s.r id p).cells j).drop k).take i.ty.w))))else none
   else match((Ac s.r id p).cells j).getD k .dead with
    |.dead=>none
    |.c (.osl _) (_+1) x=>some (.cnd (isO x=true) inferInstance (.one (.rf id (p++[(j,k)]))))
    |c=>bif c.ok then some (.ok (.one (c.ref id (p++[(j,k)]))))else none
  else none
 |some i,some (.pk .bx l)=>
  bif i.agg then(bif ble i.ty.w l.length&& !(l.take i.ty.w).any Cl.own then some (.ok (.agg (l.take i.ty.w)))else none)
  else match l with
   |c::_=>bif c.own then none else some (.ok (.one c))
   |[]=>none
 |_,_=>none
section sound
variable {P:Program}{Θ:Tab}{s:St}
theorem Px{op:Op}(F:op=.move x\/op=.assign x)(h:AbM (s.ev x)=some a):QS P s op a.y:=by
 unfold AbM at h;split at h<;>try grind
 rename_i y B;cases A:y.own with
 |true=>grind
 |false=>
  rw[A]at h;cases h;have e:=Bg B;have:Xt (s.den.ev x) (SK s y):=⟨by rw[e,Sl.own_v,A],by rw[e];exact Sub.refl (y.v s.r)⟩
  rcases F with rfl|rfl<;>exact this
def Ma{t:Ty}{d A:Nat}{x:t.T}(h:min d t.dep=min A t.dep):cV t d x=cV t A x:=by
 have:=C3 t d A x h;cases t<;>first|rfl|(simp[tyV,and_true]at this;trivial)|exact(List.cons.inj this).1
def Pw{c y:Operand}(h:AbK (s.ev c) (s.ev x) (s.ev y)=some a):QS P s (.pick c x y) a.y:=by
 unfold AbK at h;cases h
theorem QE{l:List V}:∀(n:Nat),n<=l.length->(tab n λk=>l.getD k .dead)=l.take n:=by
 intro n
 induction n generalizing l with
 |zero=>intro _;rfl
 |succ n A=>
  intro h;cases l with
  |nil=>grind
  |cons v l=>
   unfold tab
   grind
theorem WC{f g:Nat->V}:∀(n:Nat),(∀k,k<n->f k=g k)->tab n f=tab n g:=by
 intro n
 induction n generalizing f g with
 |zero=>intro _;rfl
 |succ n A=>unfold tab;grind
def Cl.v_c{r:List Aa}:∀(t:Ty) (d:Nat) (x:t.T),(Ar t d x).map (Cl.v r)=tyV t d x
 |.int _,_,_=>rfl
 |.bool,_,_=>rfl
 |.str,_,_=>rfl
 |.sl _,_,_=>rfl
 |.ptr _,_,_=>rfl
 |.unit,_,_=>rfl
 |.pair a b,d,x=>by simp[Ar,tyV,Cl.v_c a,Cl.v_c b]
 |.clo _ _,_,_=>rfl
 |.osl _,_,_=>rfl
 |.mp _ _,_,_=>rfl
theorem ZB{p:AI}:∀(l:List Cl) (k:Nat),(∀c∈l,c.ok=true)->(∀m,m<l.length->((Ac r id p).cells j).getD (k+m) .dead=l.getD m .dead)->
  (refL id p j k l).map (Cl.v r)=tab l.length λm=>Wy id (p++[(j,k+m)]) ((((Ac r id p).cells j).getD (k+m) .dead).v0):=by
 intro l
 induction l with
 |nil=>intro k _ _;rfl
 |cons c l F=>
  intro k B h;have A:=h 0 (by simp)
  simp only[Nat.add_zero,List.getD_cons_zero]at A;unfold refL;rw[List.map_cons,List.length_cons,tab]
  congr 1
  .rw[Nat.add_zero,A]
   exact ref_v (B c (List.mem_cons_self ..)) (by rw[J6,A])
  .rw[F (k+1) (λc h=>B c (mCM _ h)) λm hm=>by
    have:=h (m+1) (by simpa using hm)
    grind]
   grind
theorem QI(Z:Θ.OK P)(h:WO s (Θ.look t) (s.ev x)=some a)(hp:a.p):Iu (tyI P t) (s.r.map Aa.v) (s.den.ev x) (λY=>Y=a.y.v s.r):=by
 unfold WO at h;split at h
 case h_4=>cases h
 .rename_i i t' x' hi hx
  show Iu (tyI P t) (s.r.map Aa.v) (s.den.ev x) (λY=>Y=a.y.v s.r)
  rw[Z.ty hi,Bg hx];cases B:i.agg with
  |true=>
   rw[B]at h;obtain⟨U,h⟩:=A1 h;cases h;have U:=blE U;show i.ty.w<=(tyV t' 0 x').length/\Ah (tab i.ty.w λk=>(tyV t' 0 x').getD k .dead)=Ah (((Ar t' 0 x').take i.ty.w).map (Cl.v s.r))
   refine⟨by rw[Ax];exact U,?_⟩
   rw[QE _ (by rw[Ax];exact U),map_take,Cl.v_c]
  |false=>
   rw[B]at h;simp only[cond_false]at h;split at h
   .rename_i c l H
    cases h;show 0<(tyV t' 0 x').length/\(tyV t' 0 x').getD 0 .dead=c.v s.r;rw[<-Cl.v_c (r:=s.r) t' 0 x',H];exact⟨by simp,rfl⟩
   .cases h
 .rename_i i id p j k hi hx
  show Iu (tyI P t) (s.r.map Aa.v) (s.den.ev x) (λY=>Y=a.y.v s.r)
  rw[Z.ty hi,Bg hx];obtain⟨hl,h⟩:=A1 h;have F:=hl;cases B:i.agg with
  |true=>
   rw[B]at h;simp only[cond_true]at h;obtain⟨H,h⟩:=A1 h;cases h;simp only[bAE]at H;obtain⟨⟨h1,h2⟩,h3⟩:=H;have h1:=blE h1;have h3:=bqE h3
   have A:((((Ac s.r id p).cells j).drop k).take i.ty.w).length=i.ty.w:=by
    rw[List.length_take,List.length_drop,h3];omega
   have W:∀m,m<i.ty.w->((((Ac s.r id p).cells j).drop k).take i.ty.w).getD m .dead=((Ac s.r id p).cells j).getD (k+m) .dead:=by
    intro m hm;simp[List.getElem?_take,hm]
   refine⟨by rw[Cd F];exact h1,?_,?_⟩
   .rw[aET]
    intro m hm;have hm:=List.mem_range.1 hm;show BU (Co (s.r.map Aa.v) id p j (k+m))=true;rw[Hb F,<-W m hm];refine ok_v (aET.1 h2 _ ?_);rw[gDE,gEE (by rw[A];exact hm)]
    exact List.getElem_mem _
   .show _=Ah ((refL id p j k _).map (Cl.v s.r))
    rw[ZB _ k (aET.1 h2) λm hm=>(W m (by rw[A]at hm;exact hm)).symm,A]
    congr 1
    apply WC;intro m hm;rw[Hb F]
  |false=>
   rw[B]at h;simp only[cond_true,cond_false]at h;split at h
   .cases h
   .rename_i u d x H
    cases h;have hx:isO x=true:=hp;obtain⟨xs,rfl⟩:∃xs,x=some xs:=by
     cases x with
     |none=>cases hx
     |some xs=>exact⟨xs,rfl⟩
    refine⟨by rw[Hb F,H];rfl,?_⟩
    rw[Hb F,H];have e:Ac s.r id (p++[(j,k)])=.opt (Ac s.r id p).ro u d (some xs):=by rw[J6,H];rfl
    show V.rs id (p++[(j,k)]) 0 xs.length=V.rs id (p++[(j,k)]) 0 (Ac s.r id (p++[(j,k)])).len;rw[e];rfl
   .rename_i c hn H
    generalize hcd:((Ac s.r id p).cells j).getD k .dead=c' at h H;obtain⟨hok,h⟩:=A1 h;cases h;refine⟨by rw[Hb F,hcd];exact ok_v hok,?_⟩
    rw[Hb F,hcd];exact(ref_v (ro:=(Ac s.r id p).ro) hok (by rw[J6,hcd])).symm
 .rename_i i l hi hx
  show Iu (tyI P t) (s.r.map Aa.v) (s.den.ev x) (λY=>Y=a.y.v s.r)
  rw[Z.ty hi,Bg hx];have A:(l.map (Cl.v s.r)).length=l.length:=by simp
  cases B:i.agg with
  |true=>
   rw[B]at h;simp only[cond_true]at h;obtain⟨U,h⟩:=A1 h;cases h;simp only[bAE,Bool.not_eq_true']at U;have hw1:=blE U.1;show(i.ty.w<=(l.map (Cl.v s.r)).length/\_)/\Ah (tab i.ty.w λk=>(l.map (Cl.v s.r)).getD k .dead)=Ah ((l.take i.ty.w).map (Cl.v s.r))
   refine⟨⟨by rw[A];exact hw1,?_⟩,?_⟩
   .rw[aET]
    intro k hk;have hk:=List.mem_range.1 hk;show(!AJ ((l.map (Cl.v s.r)).getD k .dead))=true;rw[Aw (f:=Cl.v s.r) (a:=.dead) rfl,Cl.own_v]
    have h2:=List.any_eq_false.1 U.2 (l.getD k .dead) (by
     rw[gDE,gEE (by omega)]
     exact List.mem_take_iff_getElem.2 ⟨k,by omega,rfl⟩)
    simpa using h2
   .rw[QE _ (by rw[A];exact hw1),map_take]
  |false=>
   rw[B]at h;simp only[cond_false]at h;split at h
   .rename_i c l
    cases ho:c.own with
    |true=>rw[ho]at h;cases h
    |false=>
     rw[ho]at h;cases h;show(0<((c::l).map (Cl.v s.r)).length/\AJ (c.v s.r)=false)/\c.v s.r=c.v s.r;exact⟨⟨by simp,by rw[Cl.own_v];exact ho⟩,rfl⟩
   .cases h
theorem Ls{A:Option TyI}{σ:List V}{x:V}{K K':V->Prop}(h:Iu A σ x K)(B:∀r,K r->K' r):Iu A σ x K':=by
 unfold Iu at h⊢;split at h
 .split at h
  .grind
  .grind
  .grind
  omega
 .grind
 .exact h.elim
def PB(A:Θ.OK P)(h:WO s (Θ.look t) (s.ev x)=some a)(F:a.p):QS P s (.load t x) a.y:=
 Ls (QI A h F) λH B=>by rw[B];exact Sub.refl _
end sound
end Go.Ve

