/- The typed machine: facts of types, its operands, its operations that only read. -/
import Derived.Test.YtojjlnbnneemaaaTx
set_option linter.all false
namespace Go.Ve
variable{c:Cl}{r:List Ac}{id j k:Nat}{x:Operand}{t:TypeId}
structure TI where
 ty:Ty
 agg:Bool
 flds:List (Nat×Nat)
 elem:Option TypeId
 bytes:Nat
 str:Bool
 ik:Option IntKind
 eq:Option (List Nat)
 sd:Nat:=0
 met:List (String×Nat):=[]
 arr:Nat:=0
 mp:Option (TypeId×TypeId):=none
def TI.places(i:TI):List (Nat×Nat):=bif Nat.beq i.arr 0 then i.flds else(List.range i.arr).map λk=>(k,1)
abbrev Tab:=List (TypeId×TI)
def Tab.look:Tab->TypeId->Option TI
 |[],_=>none
 |(u,i)::l,t=>bif Nat.beq u t then some i else Tab.look l t
def B1:Ty->List Value
 |.int k=>[.int k 0]
 |.bool=>[.bool false]
 |.str=>[.string ⟨#[]⟩]
 |.sl _=>[.slice none 0 0]
 |.ptr _=>[.pointer none]
 |.unit=>[]
 |.pair a b=>B1 a++B1 b
 |.clo _ _=>[.nilFunc]
 |.osl _=>[.slice none 0 0]
 |.mp _ _=>[.map none]
def VK:Ty->List Cl
 |.ptr _=>[.nilp]
 |.unit=>[]
 |.pair a b=>VK a++VK b
 |.clo _ _=>[.nilf]
 |.osl t=>[.c (.osl t) (t.dep+1) (some [])]
 |.mp _ _=>[.nilm]
 |.int k=>[.c (.int k) 0 (0:Int)]
 |.bool=>[.c .bool 0 false]
 |.str=>[.c .str 0 ⟨#[]⟩]
 |.sl t=>[.c (.sl t) (t.dep+1) []]
def Io:Ty->List Cl
 |.ptr _=>[.nilp]
 |.unit=>[]
 |.pair a b=>Io a++Io b
 |.clo _ _=>[.nilf]
 |.osl _=>[.nil]
 |.mp _ _=>[.nilm]
 |.int k=>[.c (.int k) 0 (0:Int)]
 |.bool=>[.c .bool 0 false]
 |.str=>[.c .str 0 ⟨#[]⟩]
 |.sl _=>[.nil]
structure IY where
 ty:Option TyI
 fl:List (Option (Nat×Nat))
 sl:Option SlI
 sk:SlK
 ln:LenI
 bd:Option (List (Nat×Nat)×List Value)
 ik:Option IntKind
 eq:Option (List Nat)
 mt:List (Option FuncId)
 ar:Nat
 mp:Option MpI
def ukI(P:Program)(t:TypeId):Option IntKind:=match P.underlying t with
 |some (.int k)=>some k
 |_=>none
def haveF(P:Program)(t:TypeId)(n:Nat)(e:List String):IY:=⟨tyI P t,(List.range n).map (Vm P t),slI P t,slK P t,Nm P t,Aax P t,ukI P t,MX P t,e.map (AbE P t),arI P t,mpI P t⟩
def wantF(Θ:Tab)(i:TI):IY:=
 ⟨some ⟨i.agg,i.ty.w,B1 i.ty⟩,i.flds.map some,
  i.elem.bind λe=>(Θ.look e).map λj=>⟨e,j.ty.w,j.bytes,B1 j.ty⟩,
  if i.str then .string else match i.elem.bind Θ.look with|some j=>.slice j.ty.w|none=>.other,
  if i.str then .string else match i.elem with|some _=>.slice|none=>.other,
  if i.agg then some (i.places,B1 i.ty)else none,i.ik,i.eq,i.met.map λp=>some p.2,i.arr,mpW i.ty i.mp⟩
def Tab.OK(P:Program)(Θ:Tab):Prop:=∀t i,Θ.look t=some i->haveF P t i.flds.length (i.met.map (·.1))=wantF Θ i
def Tab.look_mem{t:TypeId}{i:TI}:∀{Θ:Tab},Θ.look t=some i->(t,i)∈Θ
 |[],h=>by cases h
 |(u,j)::l,h=>by
  unfold Tab.look at h;cases e:Nat.beq u t with
  |true=>
   simp_all
  |false=>
   rw[e]at h;exact mCM _ (look_mem h)
theorem Tab.ok_of{P:Program}{Θ:Tab}(h:Θ.map (λe=>haveF P e.1 e.2.flds.length (e.2.met.map (·.1)))=Θ.map (λe=>wantF Θ e.2)):Θ.OK P:=by
 intro t i A;exact List.map_inj_left.1 h _ (Tab.look_mem A)
section facts
variable {P:Program}{Θ:Tab}{t:TypeId}{i:TI}
def Tab.OK.ty(h:Θ.OK P)(e:Θ.look t=some i):tyI P t=some ⟨i.agg,i.ty.w,B1 i.ty⟩:=congrArg IY.ty (h t i e)
theorem Tab.OK.fld(h:Θ.OK P)(e:Θ.look t=some i){p:Nat×Nat}(B:i.flds[k]? =some p):Vm P t k=some p:=by
 have A:(List.range i.flds.length).map (Vm P t)=i.flds.map some:=congrArg IY.fl (h t i e);have E:=congrArg (·[k]?) A
 grind
theorem Tab.OK.elem(h:Θ.OK P)(A:Θ.look t=some i){e:TypeId}{j:TI}(E:i.elem=some e)(B:Θ.look e=some j):slI P t=some ⟨e,j.ty.w,j.bytes,B1 j.ty⟩:=by
 have F:slI P t=i.elem.bind λe=>(Θ.look e).map λj=>⟨e,j.ty.w,j.bytes,B1 j.ty⟩:=congrArg IY.sl (h t i A)
 grind
def Tab.OK.sk(h:Θ.OK P)(e:Θ.look t=some i):slK P t=if i.str then .string else match i.elem.bind Θ.look with|some j=>.slice j.ty.w|none=>.other:=congrArg IY.sk (h t i e)
def Tab.OK.ln(h:Θ.OK P)(e:Θ.look t=some i):Nm P t=if i.str then .string else match i.elem with|some _=>.slice|none=>.other:=congrArg IY.ln (h t i e)
def Tab.OK.bd(h:Θ.OK P)(e:Θ.look t=some i):Aax P t=if i.agg then some (i.places,B1 i.ty)else none:=congrArg IY.bd (h t i e)
def Tab.OK.ar(h:Θ.OK P)(e:Θ.look t=some i):arI P t=i.arr:=congrArg IY.ar (h t i e)
def Tab.OK.mp(h:Θ.OK P)(e:Θ.look t=some i):mpI P t=mpW i.ty i.mp:=congrArg IY.mp (h t i e)
def Tab.OK.ik(h:Θ.OK P)(e:Θ.look t=some i):ukI P t=i.ik:=congrArg IY.ik (h t i e)
def Tab.OK.met(h:Θ.OK P)(E:Θ.look t=some i){e:String}{f:Nat}(B:(e,f)∈i.met):AbE P t e=some f:=by
 have A:(i.met.map (·.1)).map (AbE P t)=i.met.map λp=>some p.2:=congrArg IY.mt (h t i E)
 rw[List.map_map]at A;exact List.map_inj_left.1 A _ B
def Tab.OK.eq(h:Θ.OK P)(e:Θ.look t=some i):MX P t=i.eq:=congrArg IY.eq (h t i e)
end facts
def Ig:Value->Option Cl
 |.int k n=>some (.c (.int k) 0 n)
 |.bool b=>some (.c .bool 0 b)
 |.string s=>some (.c .str 0 s)
 |.slice none 0 0=>some .nil
 |.pointer none=>some .nilp
 |_=>none
def Aao:Value->Option Sl
 |.agg cs=>(cs.toList.mapM Ig).map .agg
 |v=>(Ig v).map .one
def St.ev(s:St):Operand->Option Sl
 |.tmp t=>some (s.t t)
 |.const v=>Aao v
 |.func f=>bif Nat.blt f 1000000 then some (.one (.c (.clo f .unit) 0 ()))else none
 |_=>none
theorem Ud{v:Value}(h:Ig v=some c)(r:List Ac):c.v r=.c v/\v.oneCell'=true/\c.v0=.c v:=by
 unfold Ig at h;split at h<;>first|grind|(cases h;trivial)
theorem OX(r:List Ac):∀(l:List Value) (cl:List Cl),l.mapM Ig=some cl->cl.map (Cl.v r)=l.map V.c/\l.all (·.oneCell')=true
 |[],cl,h=>by grind
 |v::l,cl,h=>by
  cases A:Ig v with
  |none=>grind
  |some c=>
   cases e:l.mapM Ig with
   |none=>grind
   |some cs=>
    simp[e]at h;obtain⟨J,F⟩:=OX r l cs e;obtain⟨E,B,_⟩:=Ud A r
    grind
theorem Bh{s:St}{y:Sl}(h:s.ev x=some y):s.den.ev x=y.v s.r:=by
 unfold St.ev at h;split at h
 .cases h;rfl
 .rename_i v
  show LE v=_;unfold Aao at h;split at h
  .rename_i cs
   cases B:cs.toList.mapM Ig with
   |none=>grind
   |some cl=>
    simp[B]at h;subst h;obtain⟨A,e⟩:=OX s.r _ _ B;unfold LE;simp only[e,if_true];show _=Aj (cl.map (Cl.v s.r));rw[A]
  .rename_i J
   cases E:Ig v with
   |none=>grind
   |some c=>
    simp[E]at h;subst h;obtain⟨A,e,_⟩:=Ud E s.r;unfold LE;split
    .grind
    .simp[e,if_true]
     exact A.symm
 .rename_i f
  cases F:Nat.blt f 1000000 with
  |false=>grind
  |true=>
   rw[F]at h;cases h;show fnV f=_;unfold fnV;rw[F];rfl
 .cases h
def Cl.own:Cl->Bool
 |.c (.sl _) (_+1) _=>true
 |.c (.ptr _) (_+1) _=>true
 |.c (.osl _) (_+1) x=>isO x
 |.c (.mp _ _) (_+1) _=>true
 |_=>false
def Sl.own:Sl->Bool
 |.one c=>c.own
 |.new _=>true
 |.agg l=>l.any Cl.own
 |.tup l=>l.any λp=>if p.1 then p.2.any Cl.own else(p.2.getD 0 .dead).own
 |.pk _ l=>l.any Cl.own
theorem HE:∀(t:Ty) (x:t.T),∀v∈tyV t 0 x,AS v=false
 |.int _,_,v,h=>by simp[tyV]at h;subst h;rfl
 |.bool,_,v,h=>by simp[tyV]at h;subst h;rfl
 |.str,_,v,h=>by simp[tyV]at h;subst h;rfl
 |.sl _,_,v,h=>by simp[tyV]at h;subst h;rfl
 |.ptr _,_,v,h=>by simp[tyV]at h;subst h;rfl
 |.unit,_,v,h=>by trivial
 |.mp _ _,_,v,h=>by simp[tyV]at h;subst h;rfl
 |.pair a b,x,v,h=>by
  simp[tyV,List.mem_append]at h;exact h.elim (HE a x.1 v) (HE b x.2 v)
 |.osl t,x,v,h=>by
  simp[tyV,List.mem_singleton]at h;subst h;cases x<;>rfl
 |.clo g t,x,v,h=>by
  simp[tyV,List.mem_singleton]at h;subst h;show((List.range t.w).any λk=>AS ((tyV t 0 x).getD k .dead))=false
  rw[List.any_eq_false];intro k e;have e:k<(tyV t 0 x).length:=by rw[AB];grind
  rw[gDE,gEE e];simp[HE t x _ (List.getElem_mem e)]
theorem Cl.own_v(c:Cl):AS (c.v r)=c.own:=by
 cases c with
 |c t d x=>cases t<;>first|rfl|(cases d<;>rfl)|(cases x<;>cases d<;>rfl)|exact HE (.clo _ _) x _ (List.mem_singleton.2 rfl)
 |_=>rfl
theorem Nh(l:List Cl):AS (Aj (l.map (Cl.v r)))=l.any Cl.own:=by
 rw[Wd,List.any_map]
 congr 1
 funext c
 exact Cl.own_v c
theorem Sl.own_v{r:List Ac}(s:Sl):AS (s.v r)=s.own:=by
 cases s with
 |one c=>exact Cl.own_v c
 |new l=>rfl
 |agg l=>exact Nh l
 |pk t l=>
  show AS (pkL t (l.map (Cl.v r)))=l.any Cl.own;rw[AaY,List.any_map]
  congr 1
  funext c
  exact Cl.own_v c
 |tup l=>
  show AS (DH _)=l.any _;rw[Yw,List.any_map]
  congr 1
  funext p
  obtain⟨b,l⟩:=p;cases b with
  |true=>exact Nh l
  |false=>
   show AS ((l.map (Cl.v r)).getD 0 .dead)=(l.getD 0 .dead).own;rw[AG (a:=.dead) rfl];exact Cl.own_v _
def Cl.ref(id:Nat)(q:AW):Cl->Cl
 |.c (.sl _) (_+1) _=>.rf id q
 |.c (.ptr _) (_+1) _=>.rp id q 0 0
 |.c (.osl _) _ _=>.dead
 |.c (.mp _ _) (_+1) _=>.rm id q
 |.rm _ _=>.dead
 |.rf _ _=>.dead
 |.rs _ _ _ _=>.dead
 |.rp _ _ _ _=>.dead
 |y=>y
def Cl.ok:Cl->Bool
 |.c (.ptr t) (_+1) _=>Nat.blt 0 t.w
 |.c (.clo _ _) _ _=>false
 |.c (.osl _) _ _=>false
 |_=>true
theorem ref_v{q:AW}{ro:Bool}(e:c.ok=true)(h:Ae r id q=c.node ro):(c.ref id q).v r=VW id q c.v0:=by
 cases c with
 |c t d x=>
  cases t<;>cases d<;>first|rfl|trivial|(show V.rs id q 0 (Ae r id q).len=_;rw[h];rfl)
 |_=>rfl
theorem ok_v(h:c.ok=true):Cw c.v0=true:=by
 cases c with
 |c t d x=>
  cases t<;>try rfl
  .rename_i t
   cases d with
   |zero=>rfl
   |succ d=>
    show decide (0<(tyV t d x).length)=true;rw[AB];exact dT (blE h)
  .cases h
  trivial
 |_=>rfl
def J3{p:AW}:Ae r id (p++[(j,k)])=(((Ae r id p).cells j).getD k .dead).node (Ae r id p).ro:=by
 unfold Ae;rw[AaA];rfl
theorem Hh{p:AW}{i:Nat}(h:(Ae r id p).live=true):Cx (r.map Ac.v) id p i k=(((Ae r id p).cells i).getD k .dead).v0:=by
 obtain⟨s,sz,n,f,e,A,_⟩:=P5 _ h;unfold Cx;rw[A5 (Xa h),e]
 grind
def Ac.w:Ac->Nat
 |.obj _ l=>l.length
 |.arr _ t _ _=>t.w
 |.opt _ t _ _=>t.w
 |.mp _ _ _ _=>0
 |.dead=>0
theorem Cj{p:AW}(h:(Ae r id p).live=true):A6 (r.map Ac.v) id p=(Ae r id p).w:=by
 unfold A6;rw[A5 (Xa h)];cases hn:Ae r id p with
 |dead=>rfl
 |opt=>rw[hn]at h;cases h
 |mp=>rw[hn]at h;cases h
 |obj ro l=>exact List.length_map ..
 |arr ro t d xs=>rfl
inductive TR where
 |ok (y:Sl)
 |cnd (p:Prop) (dec:Decidable p) (y:Sl)
variable{a:TR}
def TR.y:TR->Sl
 |.ok y=>y
 |.cnd _ _ y=>y
def TR.p:TR->Prop
 |.ok _=>True
 |.cnd p _ _=>p
def SK(s:St)(y:Sl):V->Prop:=λr0=>Sub r0 (y.v s.r)
def QS(P:Program)(s:St)(op:Op)(y:Sl):Prop:=NZ P (s.r.map Ac.v) s.den.ev op (SK s y)
def AaZ:Option Sl->Option TR
 |some y=>bif y.own then none else some (.ok y)
 |none=>none
def AaX(_ _ _:Option Sl):Option TR:=none
def refL(id:Nat)(p:AW)(j:Nat):Nat->List Cl->List Cl
 |_,[]=>[]
 |k,c::l=>c.ref id (p++[(j,k)])::refL id p j (k+1) l
def We(s:St):Option TI->Option Sl->Option TR
 |some i,some (.one (.c (.ptr t) 0 x))=>
  bif i.agg then(bif Nat.ble i.ty.w t.w then some (.ok (.agg ((AA t 0 x).take i.ty.w)))else none)
  else match AA t 0 x with
   |c::_=>some (.ok (.one c))
   |[]=>none
 |some i,some (.one (.rp id p j k))=>
  bif(Ae s.r id p).live then
   bif i.agg then
    bif Nat.ble (k+i.ty.w) (Ae s.r id p).w&&((((Ae s.r id p).cells j).drop k).take i.ty.w).all Cl.ok&&Nat.beq ((Ae s.r id p).cells j).length (Ae s.r id p).w then
     some (.ok (.agg (refL id p j k ((((Ae s.r id p).cells j).drop k).take i.ty.w))))else none
   else match((Ae s.r id p).cells j).getD k .dead with
    |.dead=>none
    |.c (.osl _) (_+1) x=>some (.cnd (isO x=true) inferInstance (.one (.rf id (p++[(j,k)]))))
    |c=>bif c.ok then some (.ok (.one (c.ref id (p++[(j,k)]))))else none
  else none
 |some i,some (.pk .bx l)=>
  bif i.agg then(bif Nat.ble i.ty.w l.length&& !(l.take i.ty.w).any Cl.own then some (.ok (.agg (l.take i.ty.w)))else none)
  else match l with
   |c::_=>bif c.own then none else some (.ok (.one c))
   |[]=>none
 |_,_=>none
section sound
variable {P:Program}{Θ:Tab}{s:St}
theorem Pl{op:Op}(ho:op=.move x\/op=.assign x)(h:AaZ (s.ev x)=some a):QS P s op a.y:=by
 unfold AaZ at h;split at h<;>try grind
 rename_i y B;cases A:y.own with
 |true=>grind
 |false=>
  rw[A]at h;cases h;have e:=Bh B;have:WL (s.den.ev x) (SK s y):=⟨by rw[e,Sl.own_v,A],by rw[e];exact Sub.refl (y.v s.r)⟩
  rcases ho with rfl|rfl<;>exact this
def LS{t:Ty}{d e:Nat}{x:t.T}(h:min d t.dep=min e t.dep):cV t d x=cV t e x:=by
 have:=Dt t d e x h;cases t<;>first|rfl|(simp[tyV,and_true]at this;trivial)|exact(List.cons.inj this).1
def Pk{c y:Operand}(h:AaX (s.ev c) (s.ev x) (s.ev y)=some a):QS P s (.pick c x y) a.y:=by
 unfold AaX at h;cases h
theorem Jm{l:List V}:∀(n:Nat),n<=l.length->(tab n λk=>l.getD k .dead)=l.take n:=by
 intro n
 induction n generalizing l with
 |zero=>intro _;rfl
 |succ n e=>
  intro h;cases l with
  |nil=>grind
  |cons v l=>
   unfold tab
   grind
theorem V3{f g:Nat->V}:∀(n:Nat),(∀k,k<n->f k=g k)->tab n f=tab n g:=by
 intro n
 induction n generalizing f g with
 |zero=>intro _;rfl
 |succ n e=>unfold tab;grind
def Cl.v_c{r:List Ac}:∀(t:Ty) (d:Nat) (x:t.T),(AA t d x).map (Cl.v r)=tyV t d x
 |.int _,_,_=>rfl
 |.bool,_,_=>rfl
 |.str,_,_=>rfl
 |.sl _,_,_=>rfl
 |.ptr _,_,_=>rfl
 |.unit,_,_=>rfl
 |.pair a b,d,x=>by simp[AA,tyV,Cl.v_c a,Cl.v_c b]
 |.clo _ _,_,_=>rfl
 |.osl _,_,_=>rfl
 |.mp _ _,_,_=>rfl
theorem YI{p:AW}:∀(l:List Cl) (k:Nat),(∀c∈l,c.ok=true)->(∀m,m<l.length->((Ae r id p).cells j).getD (k+m) .dead=l.getD m .dead)->
  (refL id p j k l).map (Cl.v r)=tab l.length λm=>VW id (p++[(j,k+m)]) ((((Ae r id p).cells j).getD (k+m) .dead).v0):=by
 intro l
 induction l with
 |nil=>intro k _ _;rfl
 |cons c l B=>
  intro k A h;have e:=h 0 (by simp)
  simp only[Nat.add_zero,List.getD_cons_zero]at e;unfold refL;rw[List.map_cons,List.length_cons,tab]
  congr 1
  .rw[Nat.add_zero,e]
   exact ref_v (A c (List.mem_cons_self ..)) (by rw[J3,e])
  .rw[B (k+1) (λc h=>A c (mCM _ h)) λm E=>by
    have:=h (m+1) (by simpa using E)
    grind]
   grind
theorem Qj(O:Θ.OK P)(h:We s (Θ.look t) (s.ev x)=some a)(hp:a.p):Iy (tyI P t) (s.r.map Ac.v) (s.den.ev x) (λr0=>r0=a.y.v s.r):=by
 unfold We at h;split at h
 case h_4=>cases h
 .rename_i i Z Y hi U
  show Iy (tyI P t) (s.r.map Ac.v) (s.den.ev x) (λr0=>r0=a.y.v s.r)
  rw[O.ty hi,Bh U];cases B:i.agg with
  |true=>
   rw[B]at h;obtain⟨L,h⟩:=A7 h;cases h;have L:=blE L;show i.ty.w<=(tyV Z 0 Y).length/\Aj (tab i.ty.w λk=>(tyV Z 0 Y).getD k .dead)=Aj (((AA Z 0 Y).take i.ty.w).map (Cl.v s.r))
   refine⟨by rw[AB];exact L,?_⟩
   rw[Jm _ (by rw[AB];exact L),List.map_take,Cl.v_c]
  |false=>
   rw[B]at h;simp only[cond_false]at h;split at h
   .rename_i c l J
    cases h;show 0<(tyV Z 0 Y).length/\(tyV Z 0 Y).getD 0 .dead=c.v s.r;rw[<-Cl.v_c (r:=s.r) Z 0 Y,J];exact⟨by simp,rfl⟩
   .cases h
 .rename_i i id p j k hi U
  show Iy (tyI P t) (s.r.map Ac.v) (s.den.ev x) (λr0=>r0=a.y.v s.r)
  rw[O.ty hi,Bh U];obtain⟨hl,h⟩:=A7 h;have E:=hl;cases B:i.agg with
  |true=>
   rw[B]at h;simp only[cond_true]at h;obtain⟨J,h⟩:=A7 h;cases h;simp only[bAE]at J;obtain⟨⟨h1,h2⟩,h3⟩:=J;have h1:=blE h1;have h3:=bqE h3
   have A:((((Ae s.r id p).cells j).drop k).take i.ty.w).length=i.ty.w:=by
    rw[List.length_take,List.length_drop,h3];omega
   have M:∀m,m<i.ty.w->((((Ae s.r id p).cells j).drop k).take i.ty.w).getD m .dead=((Ae s.r id p).cells j).getD (k+m) .dead:=by
    intro m F;simp[List.getElem?_take,F]
   refine⟨by rw[Cj E];exact h1,?_,?_⟩
   .rw[aET]
    intro m F;have F:=List.mem_range.1 F;show Cw (Cx (s.r.map Ac.v) id p j (k+m))=true;rw[Hh E,<-M m F];refine ok_v (aET.1 h2 _ ?_);rw[gDE,gEE (by rw[A];exact F)]
    exact List.getElem_mem _
   .show _=Aj ((refL id p j k _).map (Cl.v s.r))
    rw[YI _ k (aET.1 h2) λm F=>(M m (by rw[A]at F;exact F)).symm,A]
    congr 1
    apply V3;intro m F;rw[Hh E]
  |false=>
   rw[B]at h;simp only[cond_true,cond_false]at h;split at h
   .cases h
   .rename_i u d x J
    cases h;have U:isO x=true:=hp;obtain⟨xs,rfl⟩:∃xs,x=some xs:=by
     cases x with
     |none=>cases U
     |some xs=>exact⟨xs,rfl⟩
    refine⟨by rw[Hh E,J];rfl,?_⟩
    rw[Hh E,J];have e:Ae s.r id (p++[(j,k)])=.opt (Ae s.r id p).ro u d (some xs):=by rw[J3,J];rfl
    show V.rs id (p++[(j,k)]) 0 xs.length=V.rs id (p++[(j,k)]) 0 (Ae s.r id (p++[(j,k)])).len;rw[e];rfl
   .rename_i c hn J
    generalize W:((Ae s.r id p).cells j).getD k .dead=c' at h J;obtain⟨hok,h⟩:=A7 h;cases h;refine⟨by rw[Hh E,W];exact ok_v hok,?_⟩
    rw[Hh E,W];exact(ref_v (ro:=(Ae s.r id p).ro) hok (by rw[J3,W])).symm
 .rename_i i l hi U
  show Iy (tyI P t) (s.r.map Ac.v) (s.den.ev x) (λr0=>r0=a.y.v s.r)
  rw[O.ty hi,Bh U];have A:(l.map (Cl.v s.r)).length=l.length:=by simp
  cases B:i.agg with
  |true=>
   rw[B]at h;simp only[cond_true]at h;obtain⟨L,h⟩:=A7 h;cases h;simp only[bAE,Bool.not_eq_true']at L;have hw1:=blE L.1;show(i.ty.w<=(l.map (Cl.v s.r)).length/\_)/\Aj (tab i.ty.w λk=>(l.map (Cl.v s.r)).getD k .dead)=Aj ((l.take i.ty.w).map (Cl.v s.r))
   refine⟨⟨by rw[A];exact hw1,?_⟩,?_⟩
   .rw[aET]
    intro k hk;have hk:=List.mem_range.1 hk;show(!AS ((l.map (Cl.v s.r)).getD k .dead))=true;rw[AG (f:=Cl.v s.r) (a:=.dead) rfl,Cl.own_v]
    have h2:=List.any_eq_false.1 L.2 (l.getD k .dead) (by
     rw[gDE,gEE (by omega)]
     exact List.mem_take_iff_getElem.2 ⟨k,by omega,rfl⟩)
    simpa using h2
   .rw[Jm _ (by rw[A];exact hw1),List.map_take]
  |false=>
   rw[B]at h;simp only[cond_false]at h;split at h
   .rename_i c l
    cases ho:c.own with
    |true=>rw[ho]at h;cases h
    |false=>
     rw[ho]at h;cases h;show(0<((c::l).map (Cl.v s.r)).length/\AS (c.v s.r)=false)/\c.v s.r=c.v s.r;exact⟨⟨by simp,by rw[Cl.own_v];exact ho⟩,rfl⟩
   .cases h
theorem Li{e:Option TyI}{σ:List V}{x:V}{K K':V->Prop}(h:Iy e σ x K)(A:∀r,K r->K' r):Iy e σ x K':=by
 unfold Iy at h⊢;split at h
 .split at h
  .grind
  .grind
  .grind
  omega
 .grind
 .exact h.elim
def Pp(e:Θ.OK P)(h:We s (Θ.look t) (s.ev x)=some a)(B:a.p):QS P s (.load t x) a.y:=
 Li (Qj e h B) λr0 A=>by rw[A];exact Sub.refl _
end sound
end Go.Ve

