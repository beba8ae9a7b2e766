/- The typed machine. -/
import Derived.Test.YteakdlfnmhlifaaTx
open Nat(beq blt ble)
open List(range mem_singleton any_map map_take)
set_option linter.all false
namespace Go.Ve
variable{c:Cl}{r:List Ab}{id j k:Nat}{x:Operand}{t:TypeId}
structure TI where
 ty:Ty
 agg:Bool
 flds:List (Nat×Nat)
 elem:Option TypeId
 bytes:Nat
 str:Bool
 ik:Option IntKind
 eq:Option (List Nat)
 sd:Nat:=0
 met:List (String×Nat):=[]
 arr:Nat:=0
 mp:Option (TypeId×TypeId):=none
def TI.places(i:TI):List (Nat×Nat):=bif beq i.arr 0 then i.flds else(range i.arr).map λk=>(k,1)
abbrev Tab:=List (TypeId×TI)
def Tab.look:Tab->TypeId->Option TI
 |[],_=>none
 |(u,i)::l,t=>bif beq u t then some i else Tab.look l t
def B2:Ty->List Value
 |.int k=>[.int k 0]
 |.bool=>[.bool false]
 |.str=>[.string ⟨#[]⟩]
 |.sl _=>[.slice none 0 0]
 |.ptr _=>[.pointer none]
 |.unit=>[]
 |.pair a b=>B2 a++B2 b
 |.clo _ _=>[.nilFunc]
 |.osl _=>[.slice none 0 0]
 |.mp _ _=>[.map none]
def WL:Ty->List Cl
 |.ptr _=>[.nilp]
 |.unit=>[]
 |.pair a b=>WL a++WL b
 |.clo _ _=>[.nilf]
 |.osl t=>[.c (.osl t) (t.dep+1) (some [])]
 |.mp _ _=>[.nilm]
 |.int k=>[.c (.int k) 0 (0:Int)]
 |.bool=>[.c .bool 0 false]
 |.str=>[.c .str 0 ⟨#[]⟩]
 |.sl t=>[.c (.sl t) (t.dep+1) []]
def Ir:Ty->List Cl
 |.ptr _=>[.nilp]
 |.unit=>[]
 |.pair a b=>Ir a++Ir b
 |.clo _ _=>[.nilf]
 |.osl _=>[.nil]
 |.mp _ _=>[.nilm]
 |.int k=>[.c (.int k) 0 (0:Int)]
 |.bool=>[.c .bool 0 false]
 |.str=>[.c .str 0 ⟨#[]⟩]
 |.sl _=>[.nil]
structure IZ where
 ty:Option TyI
 fl:List (Option (Nat×Nat))
 sl:Option SlI
 sk:SlK
 ln:LenI
 bd:Option (List (Nat×Nat)×List Value)
 ik:Option IntKind
 eq:Option (List Nat)
 mt:List (Option FuncId)
 ar:Nat
 mp:Option MpI
def ukI(P:Program)(t:TypeId):Option IntKind:=match P.underlying t with
 |some (.int k)=>some k
 |_=>none
def haveF(P:Program)(t:TypeId)(n:Nat)(e:List String):IZ:=⟨tyI P t,(range n).map (Wm P t),slI P t,slK P t,NP P t,AbT P t,ukI P t,Nu P t,e.map (AcU P t),arI P t,mpI P t⟩
def wantF(Θ:Tab)(i:TI):IZ:=
 ⟨some ⟨i.agg,i.ty.w,B2 i.ty⟩,i.flds.map some,
  i.elem.bind λe=>(Θ.look e).map λj=>⟨e,j.ty.w,j.bytes,B2 j.ty⟩,
  if i.str then .string else match i.elem.bind Θ.look with|some j=>.slice j.ty.w|none=>.other,
  if i.str then .string else match i.elem with|some _=>.slice|none=>.other,
  if i.agg then some (i.places,B2 i.ty)else none,i.ik,i.eq,i.met.map λp=>some p.2,i.arr,mpW i.ty i.mp⟩
def Tab.OK(P:Program)(Θ:Tab):Prop:=∀t i,Θ.look t=some i->haveF P t i.flds.length (i.met.map (·.1))=wantF Θ i
def Tab.look_mem{t:TypeId}{i:TI}:∀{Θ:Tab},Θ.look t=some i->(t,i)∈Θ
 |[],h=>by cases h
 |(u,j)::l,h=>by
  unfold Tab.look at h;cases e:beq u t with
  |true=>
   simp_all
  |false=>
   rw[e]at h;exact mCM _ (look_mem h)
theorem Tab.ok_of{P:Program}{Θ:Tab}(h:Θ.map (λe=>haveF P e.1 e.2.flds.length (e.2.met.map (·.1)))=Θ.map (λe=>wantF Θ e.2)):Θ.OK P:=by
 intro t i u;exact List.map_inj_left.1 h _ (Tab.look_mem u)
section facts
variable {P:Program}{Θ:Tab}{t:TypeId}{i:TI}
def Tab.OK.ty(h:Θ.OK P)(e:Θ.look t=some i):tyI P t=some ⟨i.agg,i.ty.w,B2 i.ty⟩:=congrArg IZ.ty (h t i e)
theorem Tab.OK.fld(h:Θ.OK P)(e:Θ.look t=some i){p:Nat×Nat}(A:i.flds[k]? =some p):Wm P t k=some p:=by
 have u:(range i.flds.length).map (Wm P t)=i.flds.map some:=congrArg IZ.fl (h t i e);have B:=congrArg (·[k]?) u
 grind
theorem Tab.OK.elem(h:Θ.OK P)(u:Θ.look t=some i){e:TypeId}{j:TI}(A:i.elem=some e)(hj:Θ.look e=some j):slI P t=some ⟨e,j.ty.w,j.bytes,B2 j.ty⟩:=by
 have B:slI P t=i.elem.bind λe=>(Θ.look e).map λj=>⟨e,j.ty.w,j.bytes,B2 j.ty⟩:=congrArg IZ.sl (h t i u)
 grind
def Tab.OK.sk(h:Θ.OK P)(e:Θ.look t=some i):slK P t=if i.str then .string else match i.elem.bind Θ.look with|some j=>.slice j.ty.w|none=>.other:=congrArg IZ.sk (h t i e)
def Tab.OK.ln(h:Θ.OK P)(e:Θ.look t=some i):NP P t=if i.str then .string else match i.elem with|some _=>.slice|none=>.other:=congrArg IZ.ln (h t i e)
def Tab.OK.bd(h:Θ.OK P)(e:Θ.look t=some i):AbT P t=if i.agg then some (i.places,B2 i.ty)else none:=congrArg IZ.bd (h t i e)
def Tab.OK.ar(h:Θ.OK P)(e:Θ.look t=some i):arI P t=i.arr:=congrArg IZ.ar (h t i e)
def Tab.OK.mp(h:Θ.OK P)(e:Θ.look t=some i):mpI P t=mpW i.ty i.mp:=congrArg IZ.mp (h t i e)
def Tab.OK.ik(h:Θ.OK P)(e:Θ.look t=some i):ukI P t=i.ik:=congrArg IZ.ik (h t i e)
def Tab.OK.met(h:Θ.OK P)(B:Θ.look t=some i){e:String}{f:Nat}(A:(e,f)∈i.met):AcU P t e=some f:=by
 have u:(i.met.map (·.1)).map (AcU P t)=i.met.map λp=>some p.2:=congrArg IZ.mt (h t i B)
 rw[List.map_map]at u;exact List.map_inj_left.1 u _ A
def Tab.OK.eq(h:Θ.OK P)(e:Θ.look t=some i):Nu P t=i.eq:=congrArg IZ.eq (h t i e)
end facts
def Ih:Value->Option Cl
 |.int k n=>some (.c (.int k) 0 n)
 |.bool b=>some (.c .bool 0 b)
 |.string s=>some (.c .str 0 s)
 |.slice none 0 0=>some .nil
 |.pointer none=>some .nilp
 |_=>none
def AbL:Value->Option Sl
 |.agg cs=>(cs.toList.mapM Ih).map .agg
 |v=>(Ih v).map .one
def St.ev(s:St):Operand->Option Sl
 |.tmp t=>some (s.t t)
 |.const v=>AbL v
 |.func f=>bif blt f 1000000 then some (.one (.c (.clo f .unit) 0 ()))else none
 |_=>none
theorem U9{v:Value}(h:Ih v=some c)(r:List Ab):c.v r=.c v/\v.oneCell'=true/\c.v0=.c v:=by
 unfold Ih at h;split at h<;>first|grind|(cases h;trivial)
theorem Pp(r:List Ab):∀(l:List Value) (cl:List Cl),l.mapM Ih=some cl->cl.map (Cl.v r)=l.map V.c/\l.all (·.oneCell')=true
 |[],cl,h=>by grind
 |v::l,cl,h=>by
  cases u:Ih v with
  |none=>grind
  |some c=>
   cases e:l.mapM Ih with
   |none=>grind
   |some cs=>
    simp[e]at h;obtain⟨F,E⟩:=Pp r l cs e;obtain⟨B,A,_⟩:=U9 u r
    grind
theorem Bd{s:St}{y:Sl}(h:s.ev x=some y):s.den.ev x=y.v s.r:=by
 unfold St.ev at h;split at h
 .cases h;rfl
 .rename_i v
  show L9 v=_;unfold AbL at h;split at h
  .rename_i cs
   cases A:cs.toList.mapM Ih with
   |none=>grind
   |some cl=>
    simp[A]at h;subst h;obtain⟨u,e⟩:=Pp s.r _ _ A;unfold L9;simp only[e,if_true];show _=Ag (cl.map (Cl.v s.r));rw[u]
  .rename_i F
   cases B:Ih v with
   |none=>grind
   |some c=>
    simp[B]at h;subst h;obtain⟨u,e,_⟩:=U9 B s.r;unfold L9;split
    .grind
    .simp[e,if_true]
     exact u.symm
 .rename_i f
  cases E:blt f 1000000 with
  |false=>grind
  |true=>
   rw[E]at h;cases h;show fnV f=_;unfold fnV;rw[E];rfl
 .cases h
def Cl.own:Cl->Bool
 |.c (.sl _) (_+1) _=>true
 |.c (.ptr _) (_+1) _=>true
 |.c (.osl _) (_+1) x=>isO x
 |.c (.mp _ _) (_+1) _=>true
 |_=>false
def Sl.own:Sl->Bool
 |.one c=>c.own
 |.new _=>true
 |.agg l=>l.any Cl.own
 |.tup l=>l.any λp=>if p.1 then p.2.any Cl.own else(p.2.getD 0 .dead).own
 |.pk _ l=>l.any Cl.own
theorem HL:∀(t:Ty) (x:t.T),∀v∈tyV t 0 x,AK v=false
 |.int _,_,v,h=>by simp[tyV]at h;subst h;rfl
 |.bool,_,v,h=>by simp[tyV]at h;subst h;rfl
 |.str,_,v,h=>by simp[tyV]at h;subst h;rfl
 |.sl _,_,v,h=>by simp[tyV]at h;subst h;rfl
 |.ptr _,_,v,h=>by simp[tyV]at h;subst h;rfl
 |.unit,_,v,h=>by trivial
 |.mp _ _,_,v,h=>by simp[tyV]at h;subst h;rfl
 |.pair a b,x,v,h=>by
  simp[tyV,List.mem_append]at h;exact h.elim (HL a x.1 v) (HL b x.2 v)
 |.osl t,x,v,h=>by
  simp[tyV,mem_singleton]at h;subst h;cases x<;>rfl
 |.clo g t,x,v,h=>by
  simp[tyV,mem_singleton]at h;subst h;show((range t.w).any λk=>AK ((tyV t 0 x).getD k .dead))=false
  rw[List.any_eq_false];intro k e;have e:k<(tyV t 0 x).length:=by rw[Av];grind
  rw[gDE,gEE e];simp[HL t x _ (List.getElem_mem e)]
theorem Cl.own_v(c:Cl):AK (c.v r)=c.own:=by
 cases c with
 |c t d x=>cases t<;>first|rfl|(cases d<;>rfl)|(cases x<;>cases d<;>rfl)|exact HL (.clo _ _) x _ (mem_singleton.2 rfl)
 |_=>rfl
theorem NK(l:List Cl):AK (Ag (l.map (Cl.v r)))=l.any Cl.own:=by
 rw[Xg,any_map]
 congr 1
 funext c
 exact Cl.own_v c
theorem Sl.own_v{r:List Ab}(s:Sl):AK (s.v r)=s.own:=by
 cases s with
 |one c=>exact Cl.own_v c
 |new l=>rfl
 |agg l=>exact NK l
 |pk t l=>
  show AK (pkL t (l.map (Cl.v r)))=l.any Cl.own;rw[Ach,any_map]
  congr 1
  funext c
  exact Cl.own_v c
 |tup l=>
  show AK (Dq _)=l.any _;rw[ZT,any_map]
  congr 1
  funext p
  obtain⟨b,l⟩:=p;cases b with
  |true=>exact NK l
  |false=>
   show AK ((l.map (Cl.v r)).getD 0 .dead)=(l.getD 0 .dead).own;rw[Az (a:=.dead) rfl];exact Cl.own_v _
def Cl.ref(id:Nat)(q:AG):Cl->Cl
 |.c (.sl _) (_+1) _=>.rf id q
 |.c (.ptr _) (_+1) _=>.rp id q 0 0
 |.c (.osl _) _ _=>.dead
 |.c (.mp _ _) (_+1) _=>.rm id q
 |.rm _ _=>.dead
 |.rf _ _=>.dead
 |.rs _ _ _ _=>.dead
 |.rp _ _ _ _=>.dead
 |y=>y
def Cl.ok:Cl->Bool
 |.c (.ptr t) (_+1) _=>blt 0 t.w
 |.c (.clo _ _) _ _=>false
 |.c (.osl _) _ _=>false
 |_=>true
theorem ref_v{q:AG}{ro:Bool}(e:c.ok=true)(h:Ac r id q=c.node ro):(c.ref id q).v r=W2 id q c.v0:=by
 cases c with
 |c t d x=>
  cases t<;>cases d<;>first|rfl|trivial|(show V.rs id q 0 (Ac r id q).len=_;rw[h];rfl)
 |_=>rfl
theorem ok_v(h:c.ok=true):BZ c.v0=true:=by
 cases c with
 |c t d x=>
  cases t<;>try rfl
  .rename_i t
   cases d with
   |zero=>rfl
   |succ d=>
    show decide (0<(tyV t d x).length)=true;rw[Av];exact dT (blE h)
  .cases h
  trivial
 |_=>rfl
def Ke{p:AG}:Ac r id (p++[(j,k)])=(((Ac r id p).cells j).getD k .dead).node (Ac r id p).ro:=by
 unfold Ac;rw[AbW];rfl
theorem Hl{p:AG}{i:Nat}(h:(Ac r id p).live=true):Cs (r.map Ab.v) id p i k=(((Ac r id p).cells i).getD k .dead).v0:=by
 obtain⟨s,sz,n,f,e,u,_⟩:=QM _ h;unfold Cs;rw[AS (Ys h),e]
 grind
def Ab.w:Ab->Nat
 |.obj _ l=>l.length
 |.arr _ t _ _=>t.w
 |.opt _ t _ _=>t.w
 |.mp _ _ _ _=>0
 |.dead=>0
theorem Cg{p:AG}(h:(Ac r id p).live=true):AY (r.map Ab.v) id p=(Ac r id p).w:=by
 unfold AY;rw[AS (Ys h)];cases e:Ac r id p with
 |dead=>rfl
 |opt=>rw[e]at h;cases h
 |mp=>rw[e]at h;cases h
 |obj ro l=>exact List.length_map ..
 |arr ro t d xs=>rfl
inductive TR where
 |ok (y:Sl)
 |cnd (p:Prop) (dec:Decidable p) (y:Sl)
variable{a:TR}
def TR.y:TR->Sl
 |.ok y=>y
 |.cnd _ _ y=>y
def TR.p:TR->Prop
 |.ok _=>True
 |.cnd p _ _=>p
def SK(s:St)(y:Sl):V->Prop:=λr0=>Sub r0 (y.v s.r)
def QS(P:Program)(s:St)(op:Op)(y:Sl):Prop:=Oq P (s.r.map Ab.v) s.den.ev op (SK s y)
def Aci:Option Sl->Option TR
 |some y=>bif y.own then none else some (.ok y)
 |none=>none
def Acg(_ _ _:Option Sl):Option TR:=none
def refL(id:Nat)(p:AG)(j:Nat):Nat->List Cl->List Cl
 |_,[]=>[]
 |k,c::l=>c.ref id (p++[(j,k)])::refL id p j (k+1) l
def Xh(s:St):Option TI->Option Sl->Option TR
 |some i,some (.one (.c (.ptr t) 0 x))=>
  bif i.agg then(bif ble i.ty.w t.w then some (.ok (.agg ((Aq t 0 x).take i.ty.w)))else none)
  else match Aq t 0 x with
   |c::_=>some (.ok (.one c))
   |[]=>none
 |some i,some (.one (.rp id p j k))=>
  bif(Ac s.r id p).live then
   bif i.agg then
    bif ble (k+i.ty.w) (Ac s.r id p).w&&((((Ac s.r id p).cells j).drop k).take i.ty.w).all Cl.ok&&beq ((Ac s.r id p).cells j).length (Ac s.r id p).w then
     some (.ok (.agg (refL id p j k ((((Ac s.r id p).cells j).drop k).take i.ty.w))))else none
   else match((Ac s.r id p).cells j).getD k .dead with
    |.dead=>none
    |.c (.osl _) (_+1) x=>some (.cnd (isO x=true) inferInstance (.one (.rf id (p++[(j,k)]))))
    |c=>bif c.ok then some (.ok (.one (c.ref id (p++[(j,k)]))))else none
  else none
 |some i,some (.pk .bx l)=>
  bif i.agg then(bif ble i.ty.w l.length&& !(l.take i.ty.w).any Cl.own then some (.ok (.agg (l.take i.ty.w)))else none)
  else match l with
   |c::_=>bif c.own then none else some (.ok (.one c))
   |[]=>none
 |_,_=>none
section sound
variable {P:Program}{Θ:Tab}{s:St}
theorem PU{op:Op}(B:op=.move x\/op=.assign x)(h:Aci (s.ev x)=some a):QS P s op a.y:=by
 unfold Aci at h;split at h<;>try grind
 rename_i y A;cases u:y.own with
 |true=>grind
 |false=>
  rw[u]at h;cases h;have e:=Bd A;have:XX (s.den.ev x) (SK s y):=⟨by rw[e,Sl.own_v,u],by rw[e];exact Sub.refl (y.v s.r)⟩
  rcases B with rfl|rfl<;>exact this
def Mk{t:Ty}{d e:Nat}{x:t.T}(h:min d t.dep=min e t.dep):cV t d x=cV t e x:=by
 have:=Da t d e x h;cases t<;>first|rfl|(simp[tyV,and_true]at this;trivial)|exact(List.cons.inj this).1
def PS{c y:Operand}(h:Acg (s.ev c) (s.ev x) (s.ev y)=some a):QS P s (.pick c x y) a.y:=by
 unfold Acg at h;cases h
theorem Jv{l:List V}:∀(n:Nat),n<=l.length->(tab n λk=>l.getD k .dead)=l.take n:=by
 intro n
 induction n generalizing l with
 |zero=>intro _;rfl
 |succ n e=>
  intro h;cases l with
  |nil=>grind
  |cons v l=>
   unfold tab
   grind
theorem W6{f g:Nat->V}:∀(n:Nat),(∀k,k<n->f k=g k)->tab n f=tab n g:=by
 intro n
 induction n generalizing f g with
 |zero=>intro _;rfl
 |succ n e=>unfold tab;grind
def Cl.v_c{r:List Ab}:∀(t:Ty) (d:Nat) (x:t.T),(Aq t d x).map (Cl.v r)=tyV t d x
 |.int _,_,_=>rfl
 |.bool,_,_=>rfl
 |.str,_,_=>rfl
 |.sl _,_,_=>rfl
 |.ptr _,_,_=>rfl
 |.unit,_,_=>rfl
 |.pair a b,d,x=>by simp[Aq,tyV,Cl.v_c a,Cl.v_c b]
 |.clo _ _,_,_=>rfl
 |.osl _,_,_=>rfl
 |.mp _ _,_,_=>rfl
theorem Z9{p:AG}:∀(l:List Cl) (k:Nat),(∀c∈l,c.ok=true)->(∀m,m<l.length->((Ac r id p).cells j).getD (k+m) .dead=l.getD m .dead)->
  (refL id p j k l).map (Cl.v r)=tab l.length λm=>W2 id (p++[(j,k+m)]) ((((Ac r id p).cells j).getD (k+m) .dead).v0):=by
 intro l
 induction l with
 |nil=>intro k _ _;rfl
 |cons c l A=>
  intro k u h;have e:=h 0 (by simp)
  simp only[Nat.add_zero,List.getD_cons_zero]at e;unfold refL;rw[List.map_cons,List.length_cons,tab]
  congr 1
  .rw[Nat.add_zero,e]
   exact ref_v (u c (List.mem_cons_self ..)) (by rw[Ke,e])
  .rw[A (k+1) (λc h=>u c (mCM _ h)) λm B=>by
    have:=h (m+1) (by simpa using B)
    grind]
   grind
theorem Ua(U:Θ.OK P)(h:Xh s (Θ.look t) (s.ev x)=some a)(hp:a.p):Iz (tyI P t) (s.r.map Ab.v) (s.den.ev x) (λr0=>r0=a.y.v s.r):=by
 unfold Xh at h;split at h
 case h_4=>cases h
 .rename_i i t' Z hi W
  show Iz (tyI P t) (s.r.map Ab.v) (s.den.ev x) (λr0=>r0=a.y.v s.r)
  rw[U.ty hi,Bd W];cases B:i.agg with
  |true=>
   rw[B]at h;obtain⟨J,h⟩:=A1 h;cases h;have J:=blE J;show i.ty.w<=(tyV t' 0 Z).length/\Ag (tab i.ty.w λk=>(tyV t' 0 Z).getD k .dead)=Ag (((Aq t' 0 Z).take i.ty.w).map (Cl.v s.r))
   refine⟨by rw[Av];exact J,?_⟩
   rw[Jv _ (by rw[Av];exact J),map_take,Cl.v_c]
  |false=>
   rw[B]at h;simp only[cond_false]at h;split at h
   .rename_i c l H
    cases h;show 0<(tyV t' 0 Z).length/\(tyV t' 0 Z).getD 0 .dead=c.v s.r;rw[<-Cl.v_c (r:=s.r) t' 0 Z,H];exact⟨by simp,rfl⟩
   .cases h
 .rename_i i id p j k hi W
  show Iz (tyI P t) (s.r.map Ab.v) (s.den.ev x) (λr0=>r0=a.y.v s.r)
  rw[U.ty hi,Bd W];obtain⟨hl,h⟩:=A1 h;have E:=hl;cases B:i.agg with
  |true=>
   rw[B]at h;simp only[cond_true]at h;obtain⟨H,h⟩:=A1 h;cases h;simp only[bAE]at H;obtain⟨⟨h1,h2⟩,h3⟩:=H;have h1:=blE h1;have h3:=bqE h3
   have A:((((Ac s.r id p).cells j).drop k).take i.ty.w).length=i.ty.w:=by
    rw[List.length_take,List.length_drop,h3];omega
   have O:∀m,m<i.ty.w->((((Ac s.r id p).cells j).drop k).take i.ty.w).getD m .dead=((Ac s.r id p).cells j).getD (k+m) .dead:=by
    intro m F;simp[List.getElem?_take,F]
   refine⟨by rw[Cg E];exact h1,?_,?_⟩
   .rw[aET]
    intro m F;have F:=List.mem_range.1 F;show BZ (Cs (s.r.map Ab.v) id p j (k+m))=true;rw[Hl E,<-O m F];refine ok_v (aET.1 h2 _ ?_);rw[gDE,gEE (by rw[A];exact F)]
    exact List.getElem_mem _
   .show _=Ag ((refL id p j k _).map (Cl.v s.r))
    rw[Z9 _ k (aET.1 h2) λm F=>(O m (by rw[A]at F;exact F)).symm,A]
    congr 1
    apply W6;intro m F;rw[Hl E]
  |false=>
   rw[B]at h;simp only[cond_true,cond_false]at h;split at h
   .cases h
   .rename_i u d x H
    cases h;have W:isO x=true:=hp;obtain⟨xs,rfl⟩:∃xs,x=some xs:=by
     cases x with
     |none=>cases W
     |some xs=>exact⟨xs,rfl⟩
    refine⟨by rw[Hl E,H];rfl,?_⟩
    rw[Hl E,H];have e:Ac s.r id (p++[(j,k)])=.opt (Ac s.r id p).ro u d (some xs):=by rw[Ke,H];rfl
    show V.rs id (p++[(j,k)]) 0 xs.length=V.rs id (p++[(j,k)]) 0 (Ac s.r id (p++[(j,k)])).len;rw[e];rfl
   .rename_i c hn H
    generalize Y:((Ac s.r id p).cells j).getD k .dead=c' at h H;obtain⟨hok,h⟩:=A1 h;cases h;refine⟨by rw[Hl E,Y];exact ok_v hok,?_⟩
    rw[Hl E,Y];exact(ref_v (ro:=(Ac s.r id p).ro) hok (by rw[Ke,Y])).symm
 .rename_i i l hi W
  show Iz (tyI P t) (s.r.map Ab.v) (s.den.ev x) (λr0=>r0=a.y.v s.r)
  rw[U.ty hi,Bd W];have A:(l.map (Cl.v s.r)).length=l.length:=by simp
  cases B:i.agg with
  |true=>
   rw[B]at h;simp only[cond_true]at h;obtain⟨J,h⟩:=A1 h;cases h;simp only[bAE,Bool.not_eq_true']at J;have hw1:=blE J.1;show(i.ty.w<=(l.map (Cl.v s.r)).length/\_)/\Ag (tab i.ty.w λk=>(l.map (Cl.v s.r)).getD k .dead)=Ag ((l.take i.ty.w).map (Cl.v s.r))
   refine⟨⟨by rw[A];exact hw1,?_⟩,?_⟩
   .rw[aET]
    intro k hk;have hk:=List.mem_range.1 hk;show(!AK ((l.map (Cl.v s.r)).getD k .dead))=true;rw[Az (f:=Cl.v s.r) (a:=.dead) rfl,Cl.own_v]
    have h2:=List.any_eq_false.1 J.2 (l.getD k .dead) (by
     rw[gDE,gEE (by omega)]
     exact List.mem_take_iff_getElem.2 ⟨k,by omega,rfl⟩)
    simpa using h2
   .rw[Jv _ (by rw[A];exact hw1),map_take]
  |false=>
   rw[B]at h;simp only[cond_false]at h;split at h
   .rename_i c l
    cases ho:c.own with
    |true=>rw[ho]at h;cases h
    |false=>
     rw[ho]at h;cases h;show(0<((c::l).map (Cl.v s.r)).length/\AK (c.v s.r)=false)/\c.v s.r=c.v s.r;exact⟨⟨by simp,by rw[Cl.own_v];exact ho⟩,rfl⟩
   .cases h
theorem LA{e:Option TyI}{σ:List V}{x:V}{K K':V->Prop}(h:Iz e σ x K)(u:∀r,K r->K' r):Iz e σ x K':=by
 unfold Iz at h⊢;split at h
 .split at h
  .grind
  .grind
  .grind
  omega
 .grind
 .exact h.elim
def PY(e:Θ.OK P)(h:Xh s (Θ.look t) (s.ev x)=some a)(A:a.p):QS P s (.load t x) a.y:=
 LA (Ua e h A) λr0 u=>by rw[u];exact Sub.refl _
end sound
end Go.Ve

