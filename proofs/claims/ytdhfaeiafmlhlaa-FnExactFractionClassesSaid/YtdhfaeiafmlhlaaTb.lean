/- The typed machine: facts of types, its operands, its operations that only read. -/
import Derived.Test.YtdhfaeiafmlhlaaTx
set_option linter.all false
namespace Go.Ve
variable{c:Cl}{r:List Ab}{id j k:Nat}{x:Operand}{t:TypeId}
structure TI where
 ty:Ty
 agg:Bool
 flds:List (Nat×Nat)
 elem:Option TypeId
 bytes:Nat
 str:Bool
 ik:Option IntKind
 eq:Option (List Nat)
 sd:Nat:=0
 met:List (String×Nat):=[]
 arr:Nat:=0
 mp:Option (TypeId×TypeId):=none
def TI.places(i:TI):List (Nat×Nat):=bif Nat.beq i.arr 0 then i.flds else(List.range i.arr).map λk=>(k,1)
abbrev Tab:=List (TypeId×TI)
def Tab.look:Tab->TypeId->Option TI
 |[],_=>none
 |(u,i)::l,t=>bif Nat.beq u t then some i else Tab.look l t
def B0:Ty->List Value
 |.int k=>[.int k 0]
 |.bool=>[.bool false]
 |.str=>[.string ⟨#[]⟩]
 |.sl _=>[.slice none 0 0]
 |.ptr _=>[.pointer none]
 |.unit=>[]
 |.pair a b=>B0 a++B0 b
 |.clo _ _=>[.nilFunc]
 |.osl _=>[.slice none 0 0]
 |.mp _ _=>[.map none]
def Wu:Ty->List Cl
 |.ptr _=>[.nilp]
 |.unit=>[]
 |.pair a b=>Wu a++Wu b
 |.clo _ _=>[.nilf]
 |.osl t=>[.c (.osl t) (t.dep+1) (some [])]
 |.mp _ _=>[.nilm]
 |.int k=>[.c (.int k) 0 (0:Int)]
 |.bool=>[.c .bool 0 false]
 |.str=>[.c .str 0 ⟨#[]⟩]
 |.sl t=>[.c (.sl t) (t.dep+1) []]
def Ii:Ty->List Cl
 |.ptr _=>[.nilp]
 |.unit=>[]
 |.pair a b=>Ii a++Ii b
 |.clo _ _=>[.nilf]
 |.osl _=>[.nil]
 |.mp _ _=>[.nilm]
 |.int k=>[.c (.int k) 0 (0:Int)]
 |.bool=>[.c .bool 0 false]
 |.str=>[.c .str 0 ⟨#[]⟩]
 |.sl _=>[.nil]
structure IU where
 ty:Option TyI
 fl:List (Option (Nat×Nat))
 sl:Option SlI
 sk:SlK
 ln:LenI
 bd:Option (List (Nat×Nat)×List Value)
 ik:Option IntKind
 eq:Option (List Nat)
 mt:List (Option FuncId)
 ar:Nat
 mp:Option MpI
def ukI(P:Program)(t:TypeId):Option IntKind:=match P.underlying t with
 |some (.int k)=>some k
 |_=>none
def haveF(P:Program)(t:TypeId)(n:Nat)(e:List String):IU:=⟨tyI P t,(List.range n).map (V4 P t),slI P t,slK P t,NB P t,AbD P t,ukI P t,Nh P t,e.map (ZZ P t),arI P t,mpI P t⟩
def wantF(Θ:Tab)(i:TI):IU:=
 ⟨some ⟨i.agg,i.ty.w,B0 i.ty⟩,i.flds.map some,
  i.elem.bind λe=>(Θ.look e).map λj=>⟨e,j.ty.w,j.bytes,B0 j.ty⟩,
  if i.str then .string else match i.elem.bind Θ.look with|some j=>.slice j.ty.w|none=>.other,
  if i.str then .string else match i.elem with|some _=>.slice|none=>.other,
  if i.agg then some (i.places,B0 i.ty)else none,i.ik,i.eq,i.met.map λp=>some p.2,i.arr,mpW i.ty i.mp⟩
def Tab.OK(P:Program)(Θ:Tab):Prop:=∀t i,Θ.look t=some i->haveF P t i.flds.length (i.met.map (·.1))=wantF Θ i
def Tab.look_mem{t:TypeId}{i:TI}:∀{Θ:Tab},Θ.look t=some i->(t,i)∈Θ
 |[],h=>by cases h
 |(u,j)::l,h=>by
  unfold Tab.look at h;cases e:Nat.beq u t with
  |true=>
   simp_all
  |false=>
   rw[e]at h;exact mCM _ (look_mem h)
theorem Tab.ok_of{P:Program}{Θ:Tab}(h:Θ.map (λe=>haveF P e.1 e.2.flds.length (e.2.met.map (·.1)))=Θ.map (λe=>wantF Θ e.2)):Θ.OK P:=by
 intro t i A;exact List.map_inj_left.1 h _ (Tab.look_mem A)
section facts
variable {P:Program}{Θ:Tab}{t:TypeId}{i:TI}
def Tab.OK.ty(h:Θ.OK P)(e:Θ.look t=some i):tyI P t=some ⟨i.agg,i.ty.w,B0 i.ty⟩:=congrArg IU.ty (h t i e)
theorem Tab.OK.fld(h:Θ.OK P)(e:Θ.look t=some i){p:Nat×Nat}(B:i.flds[k]? =some p):V4 P t k=some p:=by
 have A:(List.range i.flds.length).map (V4 P t)=i.flds.map some:=congrArg IU.fl (h t i e);have E:=congrArg (·[k]?) A
 grind
theorem Tab.OK.elem(h:Θ.OK P)(A:Θ.look t=some i){e:TypeId}{j:TI}(B:i.elem=some e)(hj:Θ.look e=some j):slI P t=some ⟨e,j.ty.w,j.bytes,B0 j.ty⟩:=by
 have E:slI P t=i.elem.bind λe=>(Θ.look e).map λj=>⟨e,j.ty.w,j.bytes,B0 j.ty⟩:=congrArg IU.sl (h t i A)
 grind
def Tab.OK.sk(h:Θ.OK P)(e:Θ.look t=some i):slK P t=if i.str then .string else match i.elem.bind Θ.look with|some j=>.slice j.ty.w|none=>.other:=congrArg IU.sk (h t i e)
def Tab.OK.ln(h:Θ.OK P)(e:Θ.look t=some i):NB P t=if i.str then .string else match i.elem with|some _=>.slice|none=>.other:=congrArg IU.ln (h t i e)
def Tab.OK.bd(h:Θ.OK P)(e:Θ.look t=some i):AbD P t=if i.agg then some (i.places,B0 i.ty)else none:=congrArg IU.bd (h t i e)
def Tab.OK.ar(h:Θ.OK P)(e:Θ.look t=some i):arI P t=i.arr:=congrArg IU.ar (h t i e)
def Tab.OK.mp(h:Θ.OK P)(e:Θ.look t=some i):mpI P t=mpW i.ty i.mp:=congrArg IU.mp (h t i e)
def Tab.OK.ik(h:Θ.OK P)(e:Θ.look t=some i):ukI P t=i.ik:=congrArg IU.ik (h t i e)
def Tab.OK.met(h:Θ.OK P)(B:Θ.look t=some i){nm:String}{f:Nat}(A:(nm,f)∈i.met):ZZ P t nm=some f:=by
 have e:(i.met.map (·.1)).map (ZZ P t)=i.met.map λp=>some p.2:=congrArg IU.mt (h t i B)
 rw[List.map_map]at e;exact List.map_inj_left.1 e _ A
def Tab.OK.eq(h:Θ.OK P)(e:Θ.look t=some i):Nh P t=i.eq:=congrArg IU.eq (h t i e)
end facts
def H9:Value->Option Cl
 |.int k n=>some (.c (.int k) 0 n)
 |.bool b=>some (.c .bool 0 b)
 |.string s=>some (.c .str 0 s)
 |.slice none 0 0=>some .nil
 |.pointer none=>some .nilp
 |_=>none
def Abv:Value->Option Sl
 |.agg cs=>(cs.toList.mapM H9).map .agg
 |v=>(H9 v).map .one
def St.ev(s:St):Operand->Option Sl
 |.tmp t=>some (s.t t)
 |.const v=>Abv v
 |.func f=>bif Nat.blt f 1000000 then some (.one (.c (.clo f .unit) 0 ()))else none
 |_=>none
theorem UN{v:Value}(h:H9 v=some c)(r:List Ab):c.v r=.c v/\v.oneCell'=true/\c.v0=.c v:=by
 unfold H9 at h;split at h<;>first|grind|(cases h;trivial)
theorem Pa(r:List Ab):∀(l:List Value) (cl:List Cl),l.mapM H9=some cl->cl.map (Cl.v r)=l.map V.c/\l.all (·.oneCell')=true
 |[],cl,h=>by grind
 |v::l,cl,h=>by
  cases A:H9 v with
  |none=>grind
  |some c=>
   cases e:l.mapM H9 with
   |none=>grind
   |some cs=>
    simp[e]at h;obtain⟨J,F⟩:=Pa r l cs e;obtain⟨E,B,_⟩:=UN A r
    grind
theorem A7{s:St}{y:Sl}(h:s.ev x=some y):s.den.ev x=y.v s.r:=by
 unfold St.ev at h;split at h
 .cases h;rfl
 .rename_i v
  show L6 v=_;unfold Abv at h;split at h
  .rename_i cs
   cases B:cs.toList.mapM H9 with
   |none=>grind
   |some cl=>
    simp[B]at h;subst h;obtain⟨A,e⟩:=Pa s.r _ _ B;unfold L6;simp only[e,if_true];show _=Ai (cl.map (Cl.v s.r));rw[A]
  .rename_i J
   cases E:H9 v with
   |none=>grind
   |some c=>
    simp[E]at h;subst h;obtain⟨A,e,_⟩:=UN E s.r;unfold L6;split
    .grind
    .simp[e,if_true]
     exact A.symm
 .rename_i f
  cases F:Nat.blt f 1000000 with
  |false=>grind
  |true=>
   rw[F]at h;cases h;show fnV f=_;unfold fnV;rw[F];rfl
 .cases h
def Cl.own:Cl->Bool
 |.c (.sl _) (_+1) _=>true
 |.c (.ptr _) (_+1) _=>true
 |.c (.osl _) (_+1) x=>isO x
 |.c (.mp _ _) (_+1) _=>true
 |_=>false
def Sl.own:Sl->Bool
 |.one c=>c.own
 |.new _=>true
 |.agg l=>l.any Cl.own
 |.tup l=>l.any λp=>if p.1 then p.2.any Cl.own else(p.2.getD 0 .dead).own
 |.pk _ l=>l.any Cl.own
theorem Hz:∀(t:Ty) (x:t.T),∀v∈tyV t 0 x,AM v=false
 |.int _,_,v,h=>by simp[tyV]at h;subst h;rfl
 |.bool,_,v,h=>by simp[tyV]at h;subst h;rfl
 |.str,_,v,h=>by simp[tyV]at h;subst h;rfl
 |.sl _,_,v,h=>by simp[tyV]at h;subst h;rfl
 |.ptr _,_,v,h=>by simp[tyV]at h;subst h;rfl
 |.unit,_,v,h=>by trivial
 |.mp _ _,_,v,h=>by simp[tyV]at h;subst h;rfl
 |.pair a b,x,v,h=>by
  simp[tyV,List.mem_append]at h;exact h.elim (Hz a x.1 v) (Hz b x.2 v)
 |.osl t,x,v,h=>by
  simp[tyV,List.mem_singleton]at h;subst h;cases x<;>rfl
 |.clo g t,x,v,h=>by
  simp[tyV,List.mem_singleton]at h;subst h;show((List.range t.w).any λk=>AM ((tyV t 0 x).getD k .dead))=false
  rw[List.any_eq_false];intro k e;have e:k<(tyV t 0 x).length:=by rw[Ay];grind
  rw[gDE,gEE e];simp[Hz t x _ (List.getElem_mem e)]
theorem Cl.own_v(c:Cl):AM (c.v r)=c.own:=by
 cases c with
 |c t d x=>cases t<;>first|rfl|(cases d<;>rfl)|(cases x<;>cases d<;>rfl)|exact Hz (.clo _ _) x _ (List.mem_singleton.2 rfl)
 |_=>rfl
theorem Nx(l:List Cl):AM (Ai (l.map (Cl.v r)))=l.any Cl.own:=by
 rw[WZ,List.any_map]
 congr 1
 funext c
 exact Cl.own_v c
theorem Sl.own_v{r:List Ab}(s:Sl):AM (s.v r)=s.own:=by
 cases s with
 |one c=>exact Cl.own_v c
 |new l=>rfl
 |agg l=>exact Nx l
 |pk t l=>
  show AM (pkL t (l.map (Cl.v r)))=l.any Cl.own;rw[AbZ,List.any_map]
  congr 1
  funext c
  exact Cl.own_v c
 |tup l=>
  show AM (Dw _)=l.any _;rw[Zx,List.any_map]
  congr 1
  funext p
  obtain⟨b,l⟩:=p;cases b with
  |true=>exact Nx l
  |false=>
   show AM ((l.map (Cl.v r)).getD 0 .dead)=(l.getD 0 .dead).own;rw[AE (a:=.dead) rfl];exact Cl.own_v _
def Cl.ref(id:Nat)(q:AX):Cl->Cl
 |.c (.sl _) (_+1) _=>.rf id q
 |.c (.ptr _) (_+1) _=>.rp id q 0 0
 |.c (.osl _) _ _=>.dead
 |.c (.mp _ _) (_+1) _=>.rm id q
 |.rm _ _=>.dead
 |.rf _ _=>.dead
 |.rs _ _ _ _=>.dead
 |.rp _ _ _ _=>.dead
 |y=>y
def Cl.ok:Cl->Bool
 |.c (.ptr t) (_+1) _=>Nat.blt 0 t.w
 |.c (.clo _ _) _ _=>false
 |.c (.osl _) _ _=>false
 |_=>true
theorem ref_v{q:AX}{ro:Bool}(e:c.ok=true)(h:Af r id q=c.node ro):(c.ref id q).v r=WJ id q c.v0:=by
 cases c with
 |c t d x=>
  cases t<;>cases d<;>first|rfl|trivial|(show V.rs id q 0 (Af r id q).len=_;rw[h];rfl)
 |_=>rfl
theorem ok_v(h:c.ok=true):BY c.v0=true:=by
 cases c with
 |c t d x=>
  cases t<;>try rfl
  .rename_i t
   cases d with
   |zero=>rfl
   |succ d=>
    show decide (0<(tyV t d x).length)=true;rw[Ay];exact dT (blE h)
  .cases h
  trivial
 |_=>rfl
def J6{p:AX}:Af r id (p++[(j,k)])=(((Af r id p).cells j).getD k .dead).node (Af r id p).ro:=by
 unfold Af;rw[AbG];rfl
theorem D9{p:AX}{i:Nat}(h:(Af r id p).live=true):Cq (r.map Ab.v) id p i k=(((Af r id p).cells i).getD k .dead).v0:=by
 obtain⟨s,sz,n,f,e,A,_⟩:=Qq _ h;unfold Cq;rw[AV (X3 h),e]
 grind
def Ab.w:Ab->Nat
 |.obj _ l=>l.length
 |.arr _ t _ _=>t.w
 |.opt _ t _ _=>t.w
 |.mp _ _ _ _=>0
 |.dead=>0
theorem Ci{p:AX}(h:(Af r id p).live=true):A2 (r.map Ab.v) id p=(Af r id p).w:=by
 unfold A2;rw[AV (X3 h)];cases e:Af r id p with
 |dead=>rfl
 |opt=>rw[e]at h;cases h
 |mp=>rw[e]at h;cases h
 |obj ro l=>exact List.length_map ..
 |arr ro t d xs=>rfl
inductive TR where
 |ok (y:Sl)
 |cnd (p:Prop) (dec:Decidable p) (y:Sl)
variable{a:TR}
def TR.y:TR->Sl
 |.ok y=>y
 |.cnd _ _ y=>y
def TR.p:TR->Prop
 |.ok _=>True
 |.cnd p _ _=>p
def SK(s:St)(y:Sl):V->Prop:=λe=>Sub e (y.v s.r)
def QS(P:Program)(s:St)(op:Op)(y:Sl):Prop:=Oc P (s.r.map Ab.v) s.den.ev op (SK s y)
def Ab0:Option Sl->Option TR
 |some y=>bif y.own then none else some (.ok y)
 |none=>none
def AbY:Option Sl->Option Sl->Option Sl->Option TR
 |some (.one (.c .bool _ b)),some (.one (.c t _ x)),some (.one (.c t' _ y))=>if h:t'=t then(bif Nat.beq t.dep 0 then some (.ok (.one (.c t 0 (Ph b x (h▸y)))))else none)else none
 |_,_,_=>none
def refL(id:Nat)(p:AX)(j:Nat):Nat->List Cl->List Cl
 |_,[]=>[]
 |k,c::l=>c.ref id (p++[(j,k)])::refL id p j (k+1) l
def W0(s:St):Option TI->Option Sl->Option TR
 |some i,some (.one (.c (.ptr t) 0 x))=>
  bif i.agg then(bif Nat.ble i.ty.w t.w then some (.ok (.agg ((As t 0 x).take i.ty.w)))else none)
  else match As t 0 x with
   |c::_=>some (.ok (.one c))
   |[]=>none
 |some i,some (.one (.rp id p j k))=>
  bif(Af s.r id p).live then
   bif i.agg then
    bif Nat.ble (k+i.ty.w) (Af s.r id p).w&&((((Af s.r id p).cells j).drop k).take i.ty.w).all Cl.ok&&Nat.beq ((Af s.r id p).cells j).length (Af s.r id p).w then
     some (.ok (.agg (refL id p j k ((((Af s.r id p).cells j).drop k).take i.ty.w))))else none
   else match((Af s.r id p).cells j).getD k .dead with
    |.dead=>none
    |.c (.osl _) (_+1) x=>some (.cnd (isO x=true) inferInstance (.one (.rf id (p++[(j,k)]))))
    |c=>bif c.ok then some (.ok (.one (c.ref id (p++[(j,k)]))))else none
  else none
 |some i,some (.pk .bx l)=>
  bif i.agg then(bif Nat.ble i.ty.w l.length&& !(l.take i.ty.w).any Cl.own then some (.ok (.agg (l.take i.ty.w)))else none)
  else match l with
   |c::_=>bif c.own then none else some (.ok (.one c))
   |[]=>none
 |_,_=>none
section sound
variable {P:Program}{Θ:Tab}{s:St}
theorem Pz{op:Op}(E:op=.move x\/op=.assign x)(h:Ab0 (s.ev x)=some a):QS P s op a.y:=by
 unfold Ab0 at h;split at h<;>try grind
 rename_i y B;cases A:y.own with
 |true=>grind
 |false=>
  rw[A]at h;cases h;have e:=A7 B;have:XC (s.den.ev x) (SK s y):=⟨by rw[e,Sl.own_v,A],by rw[e];exact Sub.refl (y.v s.r)⟩
  rcases E with rfl|rfl<;>exact this
def own0{t:Ty}(d:Nat)(x:t.T)(h:t.dep=0):(Cl.c t d x).own=false:=by
 cases t<;>first|rfl|trivial
def I8{t:Ty}{d e:Nat}{x:t.T}(h:min d t.dep=min e t.dep):cV t d x=cV t e x:=by
 have:=C0 t d e x h;cases t<;>first|rfl|(simp[tyV,and_true]at this;trivial)|exact(List.cons.inj this).1
theorem Py{c y:Operand}(h:AbY (s.ev c) (s.ev x) (s.ev y)=some a):QS P s (.pick c x y) a.y:=by
 unfold AbY at h;split at h<;>try grind
 rename_i _ b t d J t' O F E A e;split at h
 case isFalse=>cases h
 rename_i B;subst B;cases hd:Nat.beq t'.dep 0 with
 |false=>grind
 |true=>
  rw[hd]at h;have hd:=bqE hd;cases h;show Vy (s.den.ev c) (s.den.ev x) (s.den.ev y) (SK s _);rw[A7 E,A7 A,A7 e];refine⟨by rw[Sl.own_v];exact own0 _ _ hd,by rw[Sl.own_v];exact own0 _ _ hd,?_,?_⟩
  .rintro rfl
   exact Sub.of_eq (I8 (by grind))
  .rintro rfl
   exact Sub.of_eq (I8 (by omega))
theorem Ji{l:List V}:∀(n:Nat),n<=l.length->(tab n λk=>l.getD k .dead)=l.take n:=by
 intro n
 induction n generalizing l with
 |zero=>intro _;rfl
 |succ n e=>
  intro h;cases l with
  |nil=>grind
  |cons v l=>
   unfold tab
   grind
theorem WN{f g:Nat->V}:∀(n:Nat),(∀k,k<n->f k=g k)->tab n f=tab n g:=by
 intro n
 induction n generalizing f g with
 |zero=>intro _;rfl
 |succ n e=>unfold tab;grind
def Cl.v_c{r:List Ab}:∀(t:Ty) (d:Nat) (x:t.T),(As t d x).map (Cl.v r)=tyV t d x
 |.int _,_,_=>rfl
 |.bool,_,_=>rfl
 |.str,_,_=>rfl
 |.sl _,_,_=>rfl
 |.ptr _,_,_=>rfl
 |.unit,_,_=>rfl
 |.pair a b,d,x=>by simp[As,tyV,Cl.v_c a,Cl.v_c b]
 |.clo _ _,_,_=>rfl
 |.osl _,_,_=>rfl
 |.mp _ _,_,_=>rfl
theorem ZQ{p:AX}:∀(l:List Cl) (k:Nat),(∀c∈l,c.ok=true)->(∀m,m<l.length->((Af r id p).cells j).getD (k+m) .dead=l.getD m .dead)->
  (refL id p j k l).map (Cl.v r)=tab l.length λm=>WJ id (p++[(j,k+m)]) ((((Af r id p).cells j).getD (k+m) .dead).v0):=by
 intro l
 induction l with
 |nil=>intro k _ _;rfl
 |cons c l B=>
  intro k A h;have e:=h 0 (by simp)
  simp only[Nat.add_zero,List.getD_cons_zero]at e;unfold refL;rw[List.map_cons,List.length_cons,tab]
  congr 1
  .rw[Nat.add_zero,e]
   exact ref_v (A c (List.mem_cons_self ..)) (by rw[J6,e])
  .rw[B (k+1) (λc h=>A c (mCM _ h)) λm E=>by
    have:=h (m+1) (by simpa using E)
    grind]
   grind
theorem QP(Y:Θ.OK P)(h:W0 s (Θ.look t) (s.ev x)=some a)(hp:a.p):It (tyI P t) (s.r.map Ab.v) (s.den.ev x) (λW=>W=a.y.v s.r):=by
 unfold W0 at h;split at h
 case h_4=>cases h
 .rename_i i t' x' hi Z
  show It (tyI P t) (s.r.map Ab.v) (s.den.ev x) (λW=>W=a.y.v s.r)
  rw[Y.ty hi,A7 Z];cases B:i.agg with
  |true=>
   rw[B]at h;obtain⟨O,h⟩:=A9 h;cases h;have O:=blE O;show i.ty.w<=(tyV t' 0 x').length/\Ai (tab i.ty.w λk=>(tyV t' 0 x').getD k .dead)=Ai (((As t' 0 x').take i.ty.w).map (Cl.v s.r))
   refine⟨by rw[Ay];exact O,?_⟩
   rw[Ji _ (by rw[Ay];exact O),List.map_take,Cl.v_c]
  |false=>
   rw[B]at h;simp only[cond_false]at h;split at h
   .rename_i c l J
    cases h;show 0<(tyV t' 0 x').length/\(tyV t' 0 x').getD 0 .dead=c.v s.r;rw[<-Cl.v_c (r:=s.r) t' 0 x',J];exact⟨by simp,rfl⟩
   .cases h
 .rename_i i id p j k hi Z
  show It (tyI P t) (s.r.map Ab.v) (s.den.ev x) (λW=>W=a.y.v s.r)
  rw[Y.ty hi,A7 Z];obtain⟨hl,h⟩:=A9 h;have E:=hl;cases B:i.agg with
  |true=>
   rw[B]at h;simp only[cond_true]at h;obtain⟨J,h⟩:=A9 h;cases h;simp only[bAE]at J;obtain⟨⟨h1,h2⟩,h3⟩:=J;have h1:=blE h1;have h3:=bqE h3
   have A:((((Af s.r id p).cells j).drop k).take i.ty.w).length=i.ty.w:=by
    rw[List.length_take,List.length_drop,h3];omega
   have U:∀m,m<i.ty.w->((((Af s.r id p).cells j).drop k).take i.ty.w).getD m .dead=((Af s.r id p).cells j).getD (k+m) .dead:=by
    intro m F;simp[List.getElem?_take,F]
   refine⟨by rw[Ci E];exact h1,?_,?_⟩
   .rw[aET]
    intro m F;have F:=List.mem_range.1 F;show BY (Cq (s.r.map Ab.v) id p j (k+m))=true;rw[D9 E,<-U m F];refine ok_v (aET.1 h2 _ ?_);rw[gDE,gEE (by rw[A];exact F)]
    exact List.getElem_mem _
   .show _=Ai ((refL id p j k _).map (Cl.v s.r))
    rw[ZQ _ k (aET.1 h2) λm F=>(U m (by rw[A]at F;exact F)).symm,A]
    congr 1
    apply WN;intro m F;rw[D9 E]
  |false=>
   rw[B]at h;simp only[cond_true,cond_false]at h;split at h
   .cases h
   .rename_i u d x J
    cases h;have Z:isO x=true:=hp;obtain⟨xs,rfl⟩:∃xs,x=some xs:=by
     cases x with
     |none=>cases Z
     |some xs=>exact⟨xs,rfl⟩
    refine⟨by rw[D9 E,J];rfl,?_⟩
    rw[D9 E,J];have e:Af s.r id (p++[(j,k)])=.opt (Af s.r id p).ro u d (some xs):=by rw[J6,J];rfl
    show V.rs id (p++[(j,k)]) 0 xs.length=V.rs id (p++[(j,k)]) 0 (Af s.r id (p++[(j,k)])).len;rw[e];rfl
   .rename_i c hn J
    generalize hcd:((Af s.r id p).cells j).getD k .dead=c' at h J;obtain⟨hok,h⟩:=A9 h;cases h;refine⟨by rw[D9 E,hcd];exact ok_v hok,?_⟩
    rw[D9 E,hcd];exact(ref_v (ro:=(Af s.r id p).ro) hok (by rw[J6,hcd])).symm
 .rename_i i l hi Z
  show It (tyI P t) (s.r.map Ab.v) (s.den.ev x) (λW=>W=a.y.v s.r)
  rw[Y.ty hi,A7 Z];have A:(l.map (Cl.v s.r)).length=l.length:=by simp
  cases B:i.agg with
  |true=>
   rw[B]at h;simp only[cond_true]at h;obtain⟨O,h⟩:=A9 h;cases h;simp only[bAE,Bool.not_eq_true']at O;have hw1:=blE O.1;show(i.ty.w<=(l.map (Cl.v s.r)).length/\_)/\Ai (tab i.ty.w λk=>(l.map (Cl.v s.r)).getD k .dead)=Ai ((l.take i.ty.w).map (Cl.v s.r))
   refine⟨⟨by rw[A];exact hw1,?_⟩,?_⟩
   .rw[aET]
    intro k hk;have hk:=List.mem_range.1 hk;show(!AM ((l.map (Cl.v s.r)).getD k .dead))=true;rw[AE (f:=Cl.v s.r) (a:=.dead) rfl,Cl.own_v]
    have h2:=List.any_eq_false.1 O.2 (l.getD k .dead) (by
     rw[gDE,gEE (by omega)]
     exact List.mem_take_iff_getElem.2 ⟨k,by omega,rfl⟩)
    simpa using h2
   .rw[Ji _ (by rw[A];exact hw1),List.map_take]
  |false=>
   rw[B]at h;simp only[cond_false]at h;split at h
   .rename_i c l
    cases ho:c.own with
    |true=>rw[ho]at h;cases h
    |false=>
     rw[ho]at h;cases h;show(0<((c::l).map (Cl.v s.r)).length/\AM (c.v s.r)=false)/\c.v s.r=c.v s.r;exact⟨⟨by simp,by rw[Cl.own_v];exact ho⟩,rfl⟩
   .cases h
theorem Lu{e:Option TyI}{σ:List V}{x:V}{K K':V->Prop}(h:It e σ x K)(A:∀r,K r->K' r):It e σ x K':=by
 unfold It at h⊢;split at h
 .split at h
  .grind
  .grind
  .grind
  omega
 .grind
 .exact h.elim
def PE(e:Θ.OK P)(h:W0 s (Θ.look t) (s.ev x)=some a)(B:a.p):QS P s (.load t x) a.y:=
 Lu (QP e h B) λE A=>by rw[A];exact Sub.refl _
end sound
end Go.Ve

