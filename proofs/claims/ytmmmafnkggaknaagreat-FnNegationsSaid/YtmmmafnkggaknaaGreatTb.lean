/- The typed machine: facts of types, its operands, its operations that only read. -/
import Derived.Test.YtmmmafnkggaknaaGreatTx
set_option linter.all false
namespace Go.Ve
variable{c:Cl}{r:List Af}{id j k:Nat}{x:Operand}{t:TypeId}
structure TI where
 ty:Ty
 agg:Bool
 flds:List (Nat×Nat)
 elem:Option TypeId
 bytes:Nat
 str:Bool
 ik:Option IntKind
 eq:Option (List Nat)
 sd:Nat:=0
 met:List (String×Nat):=[]
 arr:Nat:=0
def TI.places(i:TI):List (Nat×Nat):=bif Nat.beq i.arr 0 then i.flds else(List.range i.arr).map λk=>(k,1)
abbrev Tab:=List (TypeId×TI)
def Tab.look:Tab->TypeId->Option TI
 |[],_=>none
 |(u,i)::l,t=>bif Nat.beq u t then some i else Tab.look l t
def B1:Ty->List Value
 |.int k=>[.int k 0]
 |.bool=>[.bool false]
 |.str=>[.string ⟨#[]⟩]
 |.sl _=>[.slice none 0 0]
 |.ptr _=>[.pointer none]
 |.unit=>[]
 |.pair a b=>B1 a++B1 b
 |.clo _ _=>[.nilFunc]
 |.osl _=>[.slice none 0 0]
def Q9:Ty->List Cl
 |.ptr _=>[.nilp]
 |.unit=>[]
 |.pair a b=>Q9 a++Q9 b
 |.clo _ _=>[.nilf]
 |.osl t=>[.c (.osl t) (t.dep+1) (some [])]
 |.int k=>[.c (.int k) 0 (0:Int)]
 |.bool=>[.c .bool 0 false]
 |.str=>[.c .str 0 ⟨#[]⟩]
 |.sl t=>[.c (.sl t) (t.dep+1) []]
def HS:Ty->List Cl
 |.ptr _=>[.nilp]
 |.unit=>[]
 |.pair a b=>HS a++HS b
 |.clo _ _=>[.nilf]
 |.osl _=>[.nil]
 |.int k=>[.c (.int k) 0 (0:Int)]
 |.bool=>[.c .bool 0 false]
 |.str=>[.c .str 0 ⟨#[]⟩]
 |.sl _=>[.nil]
structure IH where
 ty:Option TyI
 fl:List (Option (Nat×Nat))
 sl:Option SlI
 sk:SlK
 ln:LenI
 bd:Option (List (Nat×Nat)×List Value)
 ik:Option IntKind
 eq:Option (List Nat)
 mt:List (Option FuncId)
 ar:Nat
def ukI(P:Program)(t:TypeId):Option IntKind:=match P.underlying t with
 |some (.int k)=>some k
 |_=>none
def haveF(P:Program)(t:TypeId)(n:Nat)(e:List String):IH:=⟨tyI P t,(List.range n).map (QH P t),slI P t,slK P t,L8 P t,YN P t,ukI P t,WE P t,e.map (ZO P t),arI P t⟩
def wantF(Θ:Tab)(i:TI):IH:=
 ⟨some ⟨i.agg,i.ty.w,B1 i.ty⟩,i.flds.map some,
  i.elem.bind λe=>(Θ.look e).map λj=>⟨e,j.ty.w,j.bytes,B1 j.ty⟩,
  if i.str then .string else match i.elem.bind Θ.look with|some j=>.slice j.ty.w|none=>.other,
  if i.str then .string else match i.elem with|some _=>.slice|none=>.other,
  if i.agg then some (i.places,B1 i.ty)else none,i.ik,i.eq,i.met.map λp=>some p.2,i.arr⟩
def Tab.OK(P:Program)(Θ:Tab):Prop:=∀t i,Θ.look t=some i->haveF P t i.flds.length (i.met.map (·.1))=wantF Θ i
def Tab.look_mem{t:TypeId}{i:TI}:∀{Θ:Tab},Θ.look t=some i->(t,i)∈Θ
 |[],h=>by cases h
 |(u,j)::l,h=>by
  unfold Tab.look at h;cases e:Nat.beq u t with
  |true=>
   simp_all
  |false=>
   rw[e]at h;exact mCM _ (look_mem h)
theorem Tab.ok_of{P:Program}{Θ:Tab}(h:Θ.map (λe=>haveF P e.1 e.2.flds.length (e.2.met.map (·.1)))=Θ.map (λe=>wantF Θ e.2)):Θ.OK P:=by
 intro t i u;exact List.map_inj_left.1 h _ (Tab.look_mem u)
section facts
variable {P:Program}{Θ:Tab}{t:TypeId}{i:TI}
def Tab.OK.ty(h:Θ.OK P)(e:Θ.look t=some i):tyI P t=some ⟨i.agg,i.ty.w,B1 i.ty⟩:=congrArg IH.ty (h t i e)
theorem Tab.OK.fld(h:Θ.OK P)(e:Θ.look t=some i){p:Nat×Nat}(A:i.flds[k]? =some p):QH P t k=some p:=by
 have u:(List.range i.flds.length).map (QH P t)=i.flds.map some:=congrArg IH.fl (h t i e);have B:=congrArg (·[k]?) u
 grind
theorem Tab.OK.elem(h:Θ.OK P)(u:Θ.look t=some i){e:TypeId}{j:TI}(B:i.elem=some e)(A:Θ.look e=some j):slI P t=some ⟨e,j.ty.w,j.bytes,B1 j.ty⟩:=by
 have E:slI P t=i.elem.bind λe=>(Θ.look e).map λj=>⟨e,j.ty.w,j.bytes,B1 j.ty⟩:=congrArg IH.sl (h t i u)
 grind
def Tab.OK.sk(h:Θ.OK P)(e:Θ.look t=some i):slK P t=if i.str then .string else match i.elem.bind Θ.look with|some j=>.slice j.ty.w|none=>.other:=congrArg IH.sk (h t i e)
def Tab.OK.ln(h:Θ.OK P)(e:Θ.look t=some i):L8 P t=if i.str then .string else match i.elem with|some _=>.slice|none=>.other:=congrArg IH.ln (h t i e)
def Tab.OK.bd(h:Θ.OK P)(e:Θ.look t=some i):YN P t=if i.agg then some (i.places,B1 i.ty)else none:=congrArg IH.bd (h t i e)
def Tab.OK.ar(h:Θ.OK P)(e:Θ.look t=some i):arI P t=i.arr:=congrArg IH.ar (h t i e)
def Tab.OK.ik(h:Θ.OK P)(e:Θ.look t=some i):ukI P t=i.ik:=congrArg IH.ik (h t i e)
def Tab.OK.met(h:Θ.OK P)(B:Θ.look t=some i){e:String}{f:Nat}(A:(e,f)∈i.met):ZO P t e=some f:=by
 have u:(i.met.map (·.1)).map (ZO P t)=i.met.map λp=>some p.2:=congrArg IH.mt (h t i B)
 rw[List.map_map]at u;exact List.map_inj_left.1 u _ A
def Tab.OK.eq(h:Θ.OK P)(e:Θ.look t=some i):WE P t=i.eq:=congrArg IH.eq (h t i e)
end facts
def HM:Value->Option Cl
 |.int k n=>some (.c (.int k) 0 n)
 |.bool b=>some (.c .bool 0 b)
 |.string s=>some (.c .str 0 s)
 |.slice none 0 0=>some .nil
 |.pointer none=>some .nilp
 |_=>none
def YG:Value->Option Sl
 |.agg cs=>(cs.toList.mapM HM).map .agg
 |v=>(HM v).map .one
def St.ev(s:St):Operand->Option Sl
 |.tmp t=>some (s.t t)
 |.const v=>YG v
 |.func f=>bif Nat.blt f 1000000 then some (.one (.c (.clo f .unit) 0 ()))else none
 |_=>none
theorem PC{v:Value}(h:HM v=some c)(r:List Af):c.v r=.c v/\v.oneCell'=true/\c.v0=.c v:=by
 unfold HM at h;split at h<;>first|grind|(cases h;trivial)
theorem Nw(r:List Af):∀(l:List Value) (cl:List Cl),l.mapM HM=some cl->cl.map (Cl.v r)=l.map V.c/\l.all (·.oneCell')=true
 |[],cl,h=>by grind
 |v::l,cl,h=>by
  cases u:HM v with
  |none=>grind
  |some c=>
   cases e:l.mapM HM with
   |none=>grind
   |some cs=>
    simp[e]at h;obtain⟨J,E⟩:=Nw r l cs e;obtain⟨B,A,_⟩:=PC u r
    grind
theorem Bh{s:St}{y:Sl}(h:s.ev x=some y):s.den.ev x=y.v s.r:=by
 unfold St.ev at h;split at h
 .cases h;rfl
 .rename_i v
  show KH v=_;unfold YG at h;split at h
  .rename_i cs
   cases A:cs.toList.mapM HM with
   |none=>grind
   |some cl=>
    simp[A]at h;subst h;obtain⟨u,e⟩:=Nw s.r _ _ A;unfold KH;simp only[e,if_true];show _=An (cl.map (Cl.v s.r));rw[u]
  .rename_i J
   cases B:HM v with
   |none=>grind
   |some c=>
    simp[B]at h;subst h;obtain⟨u,e,_⟩:=PC B s.r;unfold KH;split
    .grind
    .simp[e,if_true]
     exact u.symm
 .rename_i f
  cases E:Nat.blt f 1000000 with
  |false=>grind
  |true=>
   rw[E]at h;cases h;show fnV f=_;unfold fnV;rw[E];rfl
 .cases h
def Cl.own:Cl->Bool
 |.c (.sl _) (_+1) _=>true
 |.c (.ptr _) (_+1) _=>true
 |.c (.osl _) (_+1) x=>isO x
 |_=>false
def Sl.own:Sl->Bool
 |.one c=>c.own
 |.new _=>true
 |.agg l=>l.any Cl.own
 |.tup l=>l.any λp=>if p.1 then p.2.any Cl.own else(p.2.getD 0 .dead).own
 |.pk _ l=>l.any Cl.own
theorem Hh:∀(t:Ty) (x:t.T),∀v∈tyV t 0 x,AL v=false
 |.int _,_,v,h=>by simp[tyV]at h;subst h;rfl
 |.bool,_,v,h=>by simp[tyV]at h;subst h;rfl
 |.str,_,v,h=>by simp[tyV]at h;subst h;rfl
 |.sl _,_,v,h=>by simp[tyV]at h;subst h;rfl
 |.ptr _,_,v,h=>by simp[tyV]at h;subst h;rfl
 |.unit,_,v,h=>by trivial
 |.pair a b,x,v,h=>by
  simp[tyV,List.mem_append]at h;exact h.elim (Hh a x.1 v) (Hh b x.2 v)
 |.osl t,x,v,h=>by
  simp[tyV,List.mem_singleton]at h;subst h;cases x<;>rfl
 |.clo g t,x,v,h=>by
  simp[tyV,List.mem_singleton]at h;subst h;show((List.range t.w).any λk=>AL ((tyV t 0 x).getD k .dead))=false
  rw[List.any_eq_false];intro k e;have e:k<(tyV t 0 x).length:=by rw[Ay];grind
  rw[gDE,gEE e];simp[Hh t x _ (List.getElem_mem e)]
theorem Cl.own_v(c:Cl):AL (c.v r)=c.own:=by
 cases c with
 |c t d x=>cases t<;>first|rfl|(cases d<;>rfl)|(cases x<;>cases d<;>rfl)|exact Hh (.clo _ _) x _ (List.mem_singleton.2 rfl)
 |_=>rfl
theorem LZ(l:List Cl):AL (An (l.map (Cl.v r)))=l.any Cl.own:=by
 rw[UD,List.any_map]
 congr 1
 funext c
 exact Cl.own_v c
theorem Sl.own_v{r:List Af}(s:Sl):AL (s.v r)=s.own:=by
 cases s with
 |one c=>exact Cl.own_v c
 |new l=>rfl
 |agg l=>exact LZ l
 |pk t l=>
  show AL (pkL t (l.map (Cl.v r)))=l.any Cl.own;rw[Y9,List.any_map]
  congr 1
  funext c
  exact Cl.own_v c
 |tup l=>
  show AL (Do _)=l.any _;rw[W4,List.any_map]
  congr 1
  funext p
  obtain⟨b,l⟩:=p;cases b with
  |true=>exact LZ l
  |false=>
   show AL ((l.map (Cl.v r)).getD 0 .dead)=(l.getD 0 .dead).own;rw[AN (a:=.dead) rfl];exact Cl.own_v _
def Cl.ref(id:Nat)(q:AZ):Cl->Cl
 |.c (.sl _) (_+1) _=>.rf id q
 |.c (.ptr _) (_+1) _=>.rp id q 0 0
 |.c (.osl _) _ _=>.dead
 |.rf _ _=>.dead
 |.rs _ _ _ _=>.dead
 |.rp _ _ _ _=>.dead
 |y=>y
def Cl.ok:Cl->Bool
 |.c (.ptr t) (_+1) _=>Nat.blt 0 t.w
 |.c (.clo _ _) _ _=>false
 |.c (.osl _) _ _=>false
 |_=>true
theorem ref_v{q:AZ}{ro:Bool}(e:c.ok=true)(h:Ai r id q=c.node ro):(c.ref id q).v r=Um id q c.v0:=by
 cases c with
 |c t d x=>
  cases t<;>cases d<;>first|rfl|trivial|(show V.rs id q 0 (Ai r id q).len=_;rw[h];rfl)
 |_=>rfl
theorem ok_v(h:c.ok=true):B0 c.v0=true:=by
 cases c with
 |c t d x=>
  cases t<;>try rfl
  .rename_i t
   cases d with
   |zero=>rfl
   |succ d=>
    show decide (0<(tyV t d x).length)=true;rw[Ay];exact dT (blE h)
  .cases h
  trivial
 |_=>rfl
def Jp{p:AZ}:Ai r id (p++[(j,k)])=(((Ai r id p).cells j).getD k .dead).node (Ai r id p).ro:=by
 unfold Ai;rw[YO];rfl
theorem DP{p:AZ}{i:Nat}(h:(Ai r id p).live=true):Cq (r.map Af.v) id p i k=(((Ai r id p).cells i).getD k .dead).v0:=by
 obtain⟨s,sz,n,f,e,u,_⟩:=OC _ h;unfold Cq;rw[A1 (VC h),e]
 grind
def Af.w:Af->Nat
 |.obj _ l=>l.length
 |.arr _ t _ _=>t.w
 |.opt _ t _ _=>t.w
 |.dead=>0
theorem Ci{p:AZ}(h:(Ai r id p).live=true):AT (r.map Af.v) id p=(Ai r id p).w:=by
 unfold AT;rw[A1 (VC h)];cases e:Ai r id p with
 |dead=>rfl
 |opt=>rw[e]at h;cases h
 |obj ro l=>exact List.length_map ..
 |arr ro t d xs=>rfl
inductive TR where
 |ok (y:Sl)
 |cnd (p:Prop) (dec:Decidable p) (y:Sl)
variable{a:TR}
def TR.y:TR->Sl
 |.ok y=>y
 |.cnd _ _ y=>y
def TR.p:TR->Prop
 |.ok _=>True
 |.cnd p _ _=>p
def SK(s:St)(y:Sl):V->Prop:=λe=>Sub e (y.v s.r)
def QS(P:Program)(s:St)(op:Op)(y:Sl):Prop:=MG P (s.r.map Af.v) s.den.ev op (SK s y)
def Za:Option Sl->Option TR
 |some y=>bif y.own then none else some (.ok y)
 |none=>none
def Y8(_ _ _:Option Sl):Option TR:=none
def refL(id:Nat)(p:AZ)(j:Nat):Nat->List Cl->List Cl
 |_,[]=>[]
 |k,c::l=>c.ref id (p++[(j,k)])::refL id p j (k+1) l
def UE(s:St):Option TI->Option Sl->Option TR
 |some i,some (.one (.c (.ptr t) 0 x))=>
  bif i.agg then(bif Nat.ble i.ty.w t.w then some (.ok (.agg ((AB t 0 x).take i.ty.w)))else none)
  else match AB t 0 x with
   |c::_=>some (.ok (.one c))
   |[]=>none
 |some i,some (.one (.rp id p j k))=>
  bif(Ai s.r id p).live then
   bif i.agg then
    bif Nat.ble (k+i.ty.w) (Ai s.r id p).w&&((((Ai s.r id p).cells j).drop k).take i.ty.w).all Cl.ok&&Nat.beq ((Ai s.r id p).cells j).length (Ai s.r id p).w then
     some (.ok (.agg (refL id p j k ((((Ai s.r id p).cells j).drop k).take i.ty.w))))else none
   else match((Ai s.r id p).cells j).getD k .dead with
    |.dead=>none
    |.c (.osl _) (_+1) x=>some (.cnd (isO x=true) inferInstance (.one (.rf id (p++[(j,k)]))))
    |c=>bif c.ok then some (.ok (.one (c.ref id (p++[(j,k)]))))else none
  else none
 |some i,some (.pk .bx l)=>
  bif i.agg then(bif Nat.ble i.ty.w l.length&& !(l.take i.ty.w).any Cl.own then some (.ok (.agg (l.take i.ty.w)))else none)
  else match l with
   |c::_=>bif c.own then none else some (.ok (.one c))
   |[]=>none
 |_,_=>none
section sound
variable {P:Program}{Θ:Tab}{s:St}
theorem NS{op:Op}(B:op=.move x\/op=.assign x)(h:Za (s.ev x)=some a):QS P s op a.y:=by
 unfold Za at h;split at h<;>try grind
 rename_i y A;cases u:y.own with
 |true=>grind
 |false=>
  rw[u]at h;cases h;have e:=Bh A;have:Vc (s.den.ev x) (SK s y):=⟨by rw[e,Sl.own_v,u],by rw[e];exact Sub.refl (y.v s.r)⟩
  rcases B with rfl|rfl<;>exact this
def KO{t:Ty}{d e:Nat}{x:t.T}(h:min d t.dep=min e t.dep):cV t d x=cV t e x:=by
 have:=C9 t d e x h;cases t<;>first|rfl|(simp[tyV,and_true]at this;trivial)
def NR{c y:Operand}(h:Y8 (s.ev c) (s.ev x) (s.ev y)=some a):QS P s (.pick c x y) a.y:=by
 unfold Y8 at h;cases h
theorem II{l:List V}:∀(n:Nat),n<=l.length->(tab n λk=>l.getD k .dead)=l.take n:=by
 intro n
 induction n generalizing l with
 |zero=>intro _;rfl
 |succ n e=>
  intro h;cases l with
  |nil=>grind
  |cons v l=>
   unfold tab
   grind
theorem Ut{f g:Nat->V}:∀(n:Nat),(∀k,k<n->f k=g k)->tab n f=tab n g:=by
 intro n
 induction n generalizing f g with
 |zero=>intro _;rfl
 |succ n e=>unfold tab;grind
def Cl.v_c{r:List Af}:∀(t:Ty) (d:Nat) (x:t.T),(AB t d x).map (Cl.v r)=tyV t d x
 |.int _,_,_=>rfl
 |.bool,_,_=>rfl
 |.str,_,_=>rfl
 |.sl _,_,_=>rfl
 |.ptr _,_,_=>rfl
 |.unit,_,_=>rfl
 |.pair a b,d,x=>by simp[AB,tyV,Cl.v_c a,Cl.v_c b]
 |.clo _ _,_,_=>rfl
 |.osl _,_,_=>rfl
theorem Xf{p:AZ}:∀(l:List Cl) (k:Nat),(∀c∈l,c.ok=true)->(∀m,m<l.length->((Ai r id p).cells j).getD (k+m) .dead=l.getD m .dead)->
  (refL id p j k l).map (Cl.v r)=tab l.length λm=>Um id (p++[(j,k+m)]) ((((Ai r id p).cells j).getD (k+m) .dead).v0):=by
 intro l
 induction l with
 |nil=>intro k _ _;rfl
 |cons c l A=>
  intro k u h;have e:=h 0 (by simp)
  simp only[Nat.add_zero,List.getD_cons_zero]at e;unfold refL;rw[List.map_cons,List.length_cons,tab]
  congr 1
  .rw[Nat.add_zero,e]
   exact ref_v (u c (List.mem_cons_self ..)) (by rw[Jp,e])
  .rw[A (k+1) (λc h=>u c (mCM _ h)) λm B=>by
    have:=h (m+1) (by simpa using B)
    grind]
   grind
theorem OS(hΘ:Θ.OK P)(h:UE s (Θ.look t) (s.ev x)=some a)(hp:a.p):H0 (tyI P t) (s.r.map Af.v) (s.den.ev x) (λr0=>r0=a.y.v s.r):=by
 unfold UE at h;split at h
 case h_4=>cases h
 .rename_i i t' x' hi hx
  show H0 (tyI P t) (s.r.map Af.v) (s.den.ev x) (λr0=>r0=a.y.v s.r)
  rw[hΘ.ty hi,Bh hx];cases B:i.agg with
  |true=>
   rw[B]at h;obtain⟨W,h⟩:=Bb h;cases h;have W:=blE W;show i.ty.w<=(tyV t' 0 x').length/\An (tab i.ty.w λk=>(tyV t' 0 x').getD k .dead)=An (((AB t' 0 x').take i.ty.w).map (Cl.v s.r))
   refine⟨by rw[Ay];exact W,?_⟩
   rw[II _ (by rw[Ay];exact W),List.map_take,Cl.v_c]
  |false=>
   rw[B]at h;simp only[cond_false]at h;split at h
   .rename_i c l U
    cases h;show 0<(tyV t' 0 x').length/\(tyV t' 0 x').getD 0 .dead=c.v s.r;rw[<-Cl.v_c (r:=s.r) t' 0 x',U];exact⟨by simp,rfl⟩
   .cases h
 .rename_i i id p j k hi hx
  show H0 (tyI P t) (s.r.map Af.v) (s.den.ev x) (λr0=>r0=a.y.v s.r)
  rw[hΘ.ty hi,Bh hx];obtain⟨hl,h⟩:=Bb h;have E:=hl;cases B:i.agg with
  |true=>
   rw[B]at h;simp only[cond_true]at h;obtain⟨U,h⟩:=Bb h;cases h;simp only[bAE]at U;obtain⟨⟨h1,h2⟩,h3⟩:=U;have h1:=blE h1;have h3:=bqE h3
   have A:((((Ai s.r id p).cells j).drop k).take i.ty.w).length=i.ty.w:=by
    rw[List.length_take,List.length_drop,h3];omega
   have Z:∀m,m<i.ty.w->((((Ai s.r id p).cells j).drop k).take i.ty.w).getD m .dead=((Ai s.r id p).cells j).getD (k+m) .dead:=by
    intro m J;simp[List.getElem?_take,J]
   refine⟨by rw[Ci E];exact h1,?_,?_⟩
   .rw[aET]
    intro m J;have J:=List.mem_range.1 J;show B0 (Cq (s.r.map Af.v) id p j (k+m))=true;rw[DP E,<-Z m J];refine ok_v (aET.1 h2 _ ?_);rw[gDE,gEE (by rw[A];exact J)]
    exact List.getElem_mem _
   .show _=An ((refL id p j k _).map (Cl.v s.r))
    rw[Xf _ k (aET.1 h2) λm J=>(Z m (by rw[A]at J;exact J)).symm,A]
    congr 1
    apply Ut;intro m J;rw[DP E]
  |false=>
   rw[B]at h;simp only[cond_true,cond_false]at h;split at h
   .cases h
   .rename_i u d x U
    cases h;have hx:isO x=true:=hp;obtain⟨xs,rfl⟩:∃xs,x=some xs:=by
     cases x with
     |none=>cases hx
     |some xs=>exact⟨xs,rfl⟩
    refine⟨by rw[DP E,U];rfl,?_⟩
    rw[DP E,U];have e:Ai s.r id (p++[(j,k)])=.opt (Ai s.r id p).ro u d (some xs):=by rw[Jp,U];rfl
    show V.rs id (p++[(j,k)]) 0 xs.length=V.rs id (p++[(j,k)]) 0 (Ai s.r id (p++[(j,k)])).len;rw[e];rfl
   .rename_i c hn U
    generalize hcd:((Ai s.r id p).cells j).getD k .dead=c' at h U;obtain⟨hok,h⟩:=Bb h;cases h;refine⟨by rw[DP E,hcd];exact ok_v hok,?_⟩
    rw[DP E,hcd];exact(ref_v (ro:=(Ai s.r id p).ro) hok (by rw[Jp,hcd])).symm
 .rename_i i l hi hx
  show H0 (tyI P t) (s.r.map Af.v) (s.den.ev x) (λr0=>r0=a.y.v s.r)
  rw[hΘ.ty hi,Bh hx];have A:(l.map (Cl.v s.r)).length=l.length:=by simp
  cases B:i.agg with
  |true=>
   rw[B]at h;simp only[cond_true]at h;obtain⟨W,h⟩:=Bb h;cases h;simp only[bAE,Bool.not_eq_true']at W;have hw1:=blE W.1;show(i.ty.w<=(l.map (Cl.v s.r)).length/\_)/\An (tab i.ty.w λk=>(l.map (Cl.v s.r)).getD k .dead)=An ((l.take i.ty.w).map (Cl.v s.r))
   refine⟨⟨by rw[A];exact hw1,?_⟩,?_⟩
   .rw[aET]
    intro k hk;have hk:=List.mem_range.1 hk;show(!AL ((l.map (Cl.v s.r)).getD k .dead))=true;rw[AN (f:=Cl.v s.r) (a:=.dead) rfl,Cl.own_v]
    have h2:=List.any_eq_false.1 W.2 (l.getD k .dead) (by
     rw[gDE,gEE (by omega)]
     exact List.mem_take_iff_getElem.2 ⟨k,by omega,rfl⟩)
    simpa using h2
   .rw[II _ (by rw[A];exact hw1),List.map_take]
  |false=>
   rw[B]at h;simp only[cond_false]at h;split at h
   .rename_i c l
    cases ho:c.own with
    |true=>rw[ho]at h;cases h
    |false=>
     rw[ho]at h;cases h;show(0<((c::l).map (Cl.v s.r)).length/\AL (c.v s.r)=false)/\c.v s.r=c.v s.r;exact⟨⟨by simp,by rw[Cl.own_v];exact ho⟩,rfl⟩
   .cases h
theorem Kk{e:Option TyI}{σ:List V}{x:V}{K K':V->Prop}(h:H0 e σ x K)(u:∀r,K r->K' r):H0 e σ x K':=by
 unfold H0 at h⊢;split at h
 .split at h
  .grind
  .grind
  .grind
  omega
 .grind
 .exact h.elim
def NU(e:Θ.OK P)(h:UE s (Θ.look t) (s.ev x)=some a)(A:a.p):QS P s (.load t x) a.y:=
 Kk (OS e h A) λB u=>by rw[u];exact Sub.refl _
end sound
end Go.Ve

