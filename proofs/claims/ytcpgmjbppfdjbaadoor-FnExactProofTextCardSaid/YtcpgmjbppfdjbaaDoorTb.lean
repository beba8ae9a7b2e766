/- The typed machine: facts of types, its operands, its operations that only read. -/
import Derived.Test.YtcpgmjbppfdjbaaDoorTx
namespace Go.Ve
variable{c:Cl}{r:List Aa}{id j k:Nat}{x:Operand}{t:TypeId}
structure TI where
 ty:Ty
 agg:Bool
 flds:List (Nat×Nat)
 elem:Option TypeId
 bytes:Nat
 str:Bool
 ik:Option IntKind
 eq:Option (List Nat)
 sd:Nat:=0
 met:List (String×Nat):=[]
 arr:Nat:=0
def TI.places(i:TI):List (Nat×Nat):=bif Nat.beq i.arr 0 then i.flds else(List.range i.arr).map λk=>(k,1)
abbrev Tab:=List (TypeId×TI)
def Tab.look:Tab->TypeId->Option TI
 | [],_=>none
 |(u,i)::l,t=>bif Nat.beq u t then some i else Tab.look l t
def BN:Ty->List Value
 | .int k=>[.int k 0]
 | .bool=>[.bool false]
 | .str=>[.string ⟨#[]⟩]
 | .sl _=>[.slice none 0 0]
 | .ptr _=>[.pointer none]
 | .unit=>[]
 | .pair a b=>BN a++BN b
 | .clo _ _=>[.nilFunc]
 | .osl _=>[.slice none 0 0]
def UL:Ty->List Cl
 | .ptr _=>[.nilp]
 | .unit=>[]
 | .pair a b=>UL a++UL b
 | .clo _ _=>[.nilf]
 | .osl t=>[.c (.osl t) (t.dep+1) (some [])]
 | .int k=>[.c (.int k) 0 (0:Int)]
 | .bool=>[.c .bool 0 false]
 | .str=>[.c .str 0 ⟨#[]⟩]
 | .sl t=>[.c (.sl t) (t.dep+1) []]
def HF:Ty->List Cl
 | .ptr _=>[.nilp]
 | .unit=>[]
 | .pair a b=>HF a++HF b
 | .clo _ _=>[.nilf]
 | .osl _=>[.nil]
 | .int k=>[.c (.int k) 0 (0:Int)]
 | .bool=>[.c .bool 0 false]
 | .str=>[.c .str 0 ⟨#[]⟩]
 | .sl _=>[.nil]
structure IE where
 ty:Option TyI
 fl:List (Option (Nat×Nat))
 sl:Option SlI
 sk:SlK
 ln:LenI
 bd:Option (List (Nat×Nat)×List Value)
 ik:Option IntKind
 eq:Option (List Nat)
 mt:List (Option FuncId)
 ar:Nat
def ukI(P:Program)(t:TypeId):Option IntKind:=match P.underlying t with
 |some (.int k)=>some k
 |_=>none
def haveF(P:Program)(t:TypeId)(n:Nat)(ns:List String):IE:=⟨tyI P t,(List.range n).map (Uq P t),slI P t,slK P t,Mt P t,Zc P t,ukI P t,Xc P t,ns.map (XU P t),arI P t⟩
def wantF(Θ:Tab)(i:TI):IE:=
 ⟨some ⟨i.agg,i.ty.w,BN i.ty⟩,i.flds.map some,
  i.elem.bind λe=>(Θ.look e).map λj=>⟨e,j.ty.w,j.bytes,BN j.ty⟩,
  if i.str then .string else match i.elem.bind Θ.look with|some j=>.slice j.ty.w|none=>.other,
  if i.str then .string else match i.elem with|some _=>.slice|none=>.other,
  if i.agg then some (i.places,BN i.ty)else none,i.ik,i.eq,i.met.map λp=>some p.2,i.arr⟩
def Tab.OK(P:Program)(Θ:Tab):Prop:=∀t i,Θ.look t=some i->haveF P t i.flds.length (i.met.map (·.1))=wantF Θ i
theorem Tab.look_mem{t:TypeId}{i:TI}: ∀ {Θ:Tab},Θ.look t=some i->(t,i)∈Θ
 | [],h=>by cases h
 |(u,j)::l,h=>by
  unfold Tab.look at h;cases hb:Nat.beq u t with
  |true=>
   simp_all
  |false=>
   rw [hb]at h;exact mCM _ (look_mem h)
theorem Tab.ok_of{P:Program}{Θ:Tab}(h:Θ.map (λe=>haveF P e.1 e.2.flds.length (e.2.met.map (·.1)))=Θ.map (λe=>wantF Θ e.2)):Θ.OK P:=by
 intro t i hl;exact List.map_inj_left.1 h _ (Tab.look_mem hl)
section facts
variable {P:Program} {Θ:Tab} {t:TypeId} {i:TI}
theorem Tab.OK.ty(h:Θ.OK P)(hl:Θ.look t=some i):tyI P t=some ⟨i.agg,i.ty.w,BN i.ty⟩:=congrArg IE.ty (h t i hl)
theorem Tab.OK.fld(h:Θ.OK P)(hl:Θ.look t=some i){p:Nat×Nat}(hk:i.flds[k]? =some p):Uq P t k=some p:=by
 have h1:(List.range i.flds.length).map (Uq P t)=i.flds.map some:=congrArg IE.fl (h t i hl);have h2:=congrArg (·[k]?) h1
 grind
theorem Tab.OK.elem(h:Θ.OK P)(hl:Θ.look t=some i){e:TypeId}{j:TI}(he:i.elem=some e)(hj:Θ.look e=some j):slI P t=some ⟨e,j.ty.w,j.bytes,BN j.ty⟩:=by
 have h1:slI P t=i.elem.bind λe=>(Θ.look e).map λj=>⟨e,j.ty.w,j.bytes,BN j.ty⟩:=congrArg IE.sl (h t i hl)
 grind
theorem Tab.OK.sk(h:Θ.OK P)(hl:Θ.look t=some i):slK P t=if i.str then .string else match i.elem.bind Θ.look with|some j=>.slice j.ty.w|none=>.other:=congrArg IE.sk (h t i hl)
theorem Tab.OK.ln(h:Θ.OK P)(hl:Θ.look t=some i):Mt P t=if i.str then .string else match i.elem with|some _=>.slice|none=>.other:=congrArg IE.ln (h t i hl)
theorem Tab.OK.bd(h:Θ.OK P)(hl:Θ.look t=some i):Zc P t=if i.agg then some (i.places,BN i.ty)else none:=congrArg IE.bd (h t i hl)
theorem Tab.OK.ar(h:Θ.OK P)(hl:Θ.look t=some i):arI P t=i.arr:=congrArg IE.ar (h t i hl)
theorem Tab.OK.ik(h:Θ.OK P)(hl:Θ.look t=some i):ukI P t=i.ik:=congrArg IE.ik (h t i hl)
theorem Tab.OK.met(h:Θ.OK P)(hl:Θ.look t=some i){nm:String}{f:Nat}(hm:(nm,f)∈i.met):XU P t nm=some f:=by
 have h1:(i.met.map (·.1)).map (XU P t)=i.met.map λp=>some p.2:=congrArg IE.mt (h t i hl)
 rw [List.map_map]at h1;exact List.map_inj_left.1 h1 _ hm
theorem Tab.OK.eq(h:Θ.OK P)(hl:Θ.look t=some i):Xc P t=i.eq:=congrArg IE.eq (h t i hl)
end facts
def Hv:Value->Option Cl
 | .int k n=>some (.c (.int k) 0 n)
 | .bool b=>some (.c .bool 0 b)
 | .string s=>some (.c .str 0 s)
 | .slice none 0 0=>some .nil
 | .pointer none=>some .nilp
 |_=>none
def Y5:Value->Option Sl
 | .agg cs=>(cs.toList.mapM Hv).map .agg
 |v=>(Hv v).map .one
def St.ev(s:St):Operand->Option Sl
 | .tmp t=>some (s.t t)
 | .const v=>Y5 v
 | .func f=>bif Nat.blt f 1000000 then some (.one (.c (.clo f .unit) 0 ()))else none
 |_=>none
theorem Qf{v:Value}(h:Hv v=some c)(r:List Aa):c.v r= .c v/\v.oneCell'=true/\c.v0= .c v:=by
 unfold Hv at h;split at h<;>first|grind|(cases h;trivial)
theorem NV(r:List Aa): ∀ (l:List Value) (cl:List Cl),l.mapM Hv=some cl->cl.map (Cl.v r)=l.map V.c/\l.all (·.oneCell')=true
 | [],cl,h=>by grind
 |v::l,cl,h=>by
  cases hv:Hv v with
  |none=>grind
  |some c=>
   cases hl:l.mapM Hv with
   |none=>grind
   |some cs=>
    simp [hl]at h;obtain⟨h1,h2⟩:=NV r l cs hl;obtain⟨h3,h4,_⟩:=Qf hv r
    grind
theorem AZ{s:St}{y:Sl}(h:s.ev x=some y):s.den.ev x=y.v s.r:=by
 unfold St.ev at h;split at h
 ·cases h;rfl
 ·rename_i v
  show KY v=_;unfold Y5 at h;split at h
  ·rename_i cs
   cases hl:cs.toList.mapM Hv with
   |none=>grind
   |some cl=>
    simp [hl]at h;subst h;obtain⟨h1,h2⟩:=NV s.r _ _ hl;unfold KY;simp only [h2,if_true];show _=Ac (cl.map (Cl.v s.r));rw [h1]
  ·rename_i hna
   cases hc:Hv v with
   |none=>grind
   |some c=>
    simp [hc]at h;subst h;obtain⟨h1,h2,_⟩:=Qf hc s.r;unfold KY;split
    ·grind
    ·simp [h2,if_true]
     exact h1.symm
 ·rename_i f
  cases hb:Nat.blt f 1000000 with
  |false=>grind
  |true=>
   rw [hb]at h;cases h;show fnV f=_;unfold fnV;rw [hb];rfl
 ·cases h
def Cl.own:Cl->Bool
 | .c (.sl _) (_+1) _=>true
 | .c (.ptr _) (_+1) _=>true
 | .c (.osl _) (_+1) x=>isO x
 |_=>false
def Sl.own:Sl->Bool
 | .one c=>c.own
 | .new _=>true
 | .agg l=>l.any Cl.own
 | .tup l=>l.any λp=>if p.1 then p.2.any Cl.own else(p.2.getD 0 .dead).own
 | .pk _ l=>l.any Cl.own
theorem DW: ∀ (t:Ty) (x:t.T),∀v∈tyV t 0 x,AE v=false
 | .int _,_,v,h=>by simp [tyV]at h;subst h;rfl
 | .bool,_,v,h=>by simp [tyV]at h;subst h;rfl
 | .str,_,v,h=>by simp [tyV]at h;subst h;rfl
 | .sl _,_,v,h=>by simp [tyV]at h;subst h;rfl
 | .ptr _,_,v,h=>by simp [tyV]at h;subst h;rfl
 | .unit,_,v,h=>by trivial
 | .pair a b,x,v,h=>by
  simp [tyV,List.mem_append]at h;exact h.elim (DW a x.1 v) (DW b x.2 v)
 | .osl t,x,v,h=>by
  simp [tyV,List.mem_singleton]at h;subst h;cases x<;>rfl
 | .clo g t,x,v,h=>by
  simp [tyV,List.mem_singleton]at h;subst h;show((List.range t.w).any λk=>AE ((tyV t 0 x).getD k .dead))=false
  rw [List.any_eq_false];intro k hk;have hk:k<(tyV t 0 x).length:=by rw [Aq];grind
  rw [gDE,gEE hk];simp [DW t x _ (List.getElem_mem hk)]
theorem Cl.own_v(c:Cl):AE (c.v r)=c.own:=by
 cases c with
 |c t d x=>cases t<;>first|rfl|(cases d<;>rfl)|(cases x<;>cases d<;>rfl)|exact DW (.clo _ _) x _ (List.mem_singleton.2 rfl)
 |_=>rfl
theorem Mm(l:List Cl):AE (Ac (l.map (Cl.v r)))=l.any Cl.own:=by
 rw [Vb,List.any_map]
 congr 1
 funext c
 exact Cl.own_v c
theorem Sl.own_v{r:List Aa}(s:Sl):AE (s.v r)=s.own:=by
 cases s with
 |one c=>exact Cl.own_v c
 |new l=>rfl
 |agg l=>exact Mm l
 |pk t l=>
  show AE (pkL t (l.map (Cl.v r)))=l.any Cl.own;rw [Zw,List.any_map]
  congr 1
  funext c
  exact Cl.own_v c
 |tup l=>
  show AE (C8 _)=l.any _;rw [Xy,List.any_map]
  congr 1
  funext p
  obtain⟨b,l⟩:=p;cases b with
  |true=>exact Mm l
  |false=>
   show AE ((l.map (Cl.v r)).getD 0 .dead)=(l.getD 0 .dead).own;rw [Ay (a:=.dead) rfl];exact Cl.own_v _
def Cl.ref(id:Nat)(q:AR):Cl->Cl
 | .c (.sl _) (_+1) _=>.rf id q
 | .c (.ptr _) (_+1) _=>.rp id q 0 0
 | .c (.osl _) _ _=>.dead
 | .rf _ _=>.dead
 | .rs _ _ _ _=>.dead
 | .rp _ _ _ _=>.dead
 |y=>y
def Cl.ok:Cl->Bool
 | .c (.ptr t) (_+1) _=>Nat.blt 0 t.w
 | .c (.clo _ _) _ _=>false
 | .c (.osl _) _ _=>false
 |_=>true
theorem ref_v{q:AR}{ro:Bool}(hc:c.ok=true)(h:Ab r id q=c.node ro):(c.ref id q).v r=UX id q c.v0:=by
 cases c with
 |c t d x=>
  cases t<;>cases d<;>first|rfl|trivial|(show V.rs id q 0 (Ab r id q).len=_;rw [h];rfl)
 |_=>rfl
theorem ok_v(h:c.ok=true):K3 c.v0=true:=by
 cases c with
 |c t d x=>
  cases t<;>try rfl
  ·rename_i t
   cases d with
   |zero=>rfl
   |succ d=>
    show decide (0<(tyV t d x).length)=true;rw [Aq];exact dT (blE h)
  ·cases h
  trivial
 |_=>rfl
theorem Jt{p:AR}:Ab r id (p++ [(j,k)])=(((Ab r id p).cells j).getD k .dead).node (Ab r id p).ro:=by
 unfold Ab;rw [Zd];rfl
theorem DC{p:AR}{i:Nat}(h:(Ab r id p).live=true):B7 (r.map Aa.v) id p i k=(((Ab r id p).cells i).getD k .dead).v0:=by
 obtain⟨s,sz,n,f,hv,hf,_⟩:=O4 _ h;unfold B7;rw [AP (Wd h),hv]
 grind
def Aa.w:Aa->Nat
 | .obj _ l=>l.length
 | .arr _ t _ _=>t.w
 | .opt _ t _ _=>t.w
 | .dead=>0
theorem B0{p:AR}(h:(Ab r id p).live=true):AS (r.map Aa.v) id p=(Ab r id p).w:=by
 unfold AS;rw [AP (Wd h)];cases hn:Ab r id p with
 |dead=>rfl
 |opt=>rw [hn]at h;cases h
 |obj ro l=>exact List.length_map ..
 |arr ro t d xs=>rfl
inductive TR where
 |ok (y:Sl)
 |cnd (p:Prop) (dec:Decidable p) (y:Sl)
variable{a:TR}
def TR.y:TR->Sl
 | .ok y=>y
 | .cnd _ _ y=>y
def TR.p:TR->Prop
 | .ok _=>True
 | .cnd p _ _=>p
def SK(s:St)(y:Sl):V->Prop:=λr0=>Sub r0 (y.v s.r)
def QS(P:Program)(s:St)(op:Op)(y:Sl):Prop:=M1 P (s.r.map Aa.v) s.den.ev op (SK s y)
def Zx:Option Sl->Option TR
 |some y=>bif y.own then none else some (.ok y)
 |none=>none
def Zv:Option Sl->Option Sl->Option Sl->Option TR
 |some (.one (.c .bool _ b)),some (.one (.c t _ x)),some (.one (.c t' _ y))=>if h:t'=t then(bif Nat.beq t.dep 0 then some (.ok (.one (.c t 0 (N3 b x (h▸y)))))else none)else none
 |_,_,_=>none
def refL(id:Nat)(p:AR)(j:Nat):Nat->List Cl->List Cl
 |_,[]=>[]
 |k,c::l=>c.ref id (p++ [(j,k)])::refL id p j (k+1) l
def Vc(s:St):Option TI->Option Sl->Option TR
 |some i,some (.one (.c (.ptr t) 0 x))=>
  bif i.agg then(bif Nat.ble i.ty.w t.w then some (.ok (.agg ((Am t 0 x).take i.ty.w)))else none)
  else match Am t 0 x with
   |c::_=>some (.ok (.one c))
   | []=>none
 |some i,some (.one (.rp id p j k))=>
  bif(Ab s.r id p).live then
   bif i.agg then
    bif Nat.ble (k+i.ty.w) (Ab s.r id p).w&&((((Ab s.r id p).cells j).drop k).take i.ty.w).all Cl.ok&&Nat.beq ((Ab s.r id p).cells j).length (Ab s.r id p).w then
     some (.ok (.agg (refL id p j k ((((Ab s.r id p).cells j).drop k).take i.ty.w))))else none
   else match((Ab s.r id p).cells j).getD k .dead with
    | .dead=>none
    | .c (.osl _) (_+1) x=>some (.cnd (isO x=true) inferInstance (.one (.rf id (p++ [(j,k)]))))
    |c=>bif c.ok then some (.ok (.one (c.ref id (p++ [(j,k)]))))else none
  else none
 |some i,some (.pk .bx l)=>
  bif i.agg then(bif Nat.ble i.ty.w l.length&& !(l.take i.ty.w).any Cl.own then some (.ok (.agg (l.take i.ty.w)))else none)
  else match l with
   |c::_=>bif c.own then none else some (.ok (.one c))
   | []=>none
 |_,_=>none
section sound
variable {P:Program} {Θ:Tab} {s:St}
theorem Ol{op:Op}(ho:op= .move x\/op= .assign x)(h:Zx (s.ev x)=some a):QS P s op a.y:=by
 unfold Zx at h;split at h<;>try grind
 rename_i y hy;cases hb:y.own with
 |true=>grind
 |false=>
  rw [hb]at h;cases h;have e:=AZ hy;have:VP (s.den.ev x) (SK s y):=⟨by rw [e,Sl.own_v,hb],by rw [e];exact Sub.refl (y.v s.r)⟩
  rcases ho with rfl|rfl<;>exact this
theorem own0{t:Ty}(d:Nat)(x:t.T)(h:t.dep=0):(Cl.c t d x).own=false:=by
 cases t<;>first|rfl|trivial
theorem Ix{t:Ty}{d d':Nat}{x:t.T}(h:min d t.dep=min d' t.dep):cV t d x=cV t d' x:=by
 have:=CJ t d d' x h;cases t<;>first|rfl|(simp [tyV,and_true]at this;trivial)
theorem Ok{c y:Operand}(h:Zv (s.ev c) (s.ev x) (s.ev y)=some a):QS P s (.pick c x y) a.y:=by
 unfold Zv at h;split at h<;>try grind
 rename_i _ b t d x' t' d' y' hc hx hy;split at h
 case isFalse=>cases h
 rename_i ht;subst ht;cases hd:Nat.beq t'.dep 0 with
 |false=>grind
 |true=>
  rw [hd]at h;have hd:=bqE hd;cases h;show QY (s.den.ev c) (s.den.ev x) (s.den.ev y) (SK s _);rw [AZ hc,AZ hx,AZ hy];refine⟨by rw [Sl.own_v];exact own0 _ _ hd,by rw [Sl.own_v];exact own0 _ _ hd,?_,?_⟩
  ·rintro rfl
   exact Sub.of_eq (Ix (by grind))
  ·rintro rfl
   exact Sub.of_eq (Ix (by omega))
theorem IF{l:List V}: ∀ (n:Nat),n<=l.length->(tab n λk=>l.getD k .dead)=l.take n:=by
 intro n
 induction n generalizing l with
 |zero=>intro _;rfl
 |succ n ih=>
  intro h;cases l with
  |nil=>grind
  |cons v l=>
   unfold tab
   grind
theorem U1{f g:Nat->V}: ∀ (n:Nat),(∀k,k<n->f k=g k)->tab n f=tab n g:=by
 intro n
 induction n generalizing f g with
 |zero=>intro _;rfl
 |succ n ih=>unfold tab;grind
theorem Cl.v_c{r:List Aa}: ∀ (t:Ty) (d:Nat) (x:t.T),(Am t d x).map (Cl.v r)=tyV t d x
 | .int _,_,_=>rfl
 | .bool,_,_=>rfl
 | .str,_,_=>rfl
 | .sl _,_,_=>rfl
 | .ptr _,_,_=>rfl
 | .unit,_,_=>rfl
 | .pair a b,d,x=>by simp [Am,tyV,Cl.v_c a,Cl.v_c b]
 | .clo _ _,_,_=>rfl
 | .osl _,_,_=>rfl
theorem XM{p:AR}: ∀ (l:List Cl) (k:Nat),(∀c∈l,c.ok=true)->(∀m,m<l.length->((Ab r id p).cells j).getD (k+m) .dead=l.getD m .dead)->
  (refL id p j k l).map (Cl.v r)=tab l.length λm=>UX id (p++ [(j,k+m)]) ((((Ab r id p).cells j).getD (k+m) .dead).v0):=by
 intro l
 induction l with
 |nil=>intro k _ _;rfl
 |cons c l ih=>
  intro k hc h;have h0:=h 0 (by simp)
  simp only [Nat.add_zero,List.getD_cons_zero]at h0;unfold refL;rw [List.map_cons,List.length_cons,tab]
  congr 1
  ·rw [Nat.add_zero,h0]
   exact ref_v (hc c (List.mem_cons_self ..)) (by rw [Jt,h0])
  ·rw [ih (k+1) (λc h=>hc c (mCM _ h)) λm hm=>by
    have:=h (m+1) (by simpa using hm)
    grind]
   grind
theorem Pq(hΘ:Θ.OK P)(h:Vc s (Θ.look t) (s.ev x)=some a)(hp:a.p):HQ (tyI P t) (s.r.map Aa.v) (s.den.ev x) (λr0=>r0=a.y.v s.r):=by
 unfold Vc at h;split at h
 case h_4=>cases h
 ·rename_i i t' x' hi hx
  show HQ (tyI P t) (s.r.map Aa.v) (s.den.ev x) (λr0=>r0=a.y.v s.r)
  rw [hΘ.ty hi,AZ hx];cases hag:i.agg with
  |true=>
   rw [hag]at h;obtain⟨hw,h⟩:=A1 h;cases h;have hw:=blE hw;show i.ty.w<=(tyV t' 0 x').length/\Ac (tab i.ty.w λk=>(tyV t' 0 x').getD k .dead)=Ac (((Am t' 0 x').take i.ty.w).map (Cl.v s.r))
   refine⟨by rw [Aq];exact hw,?_⟩
   rw [IF _ (by rw [Aq];exact hw),List.map_take,Cl.v_c]
  |false=>
   rw [hag]at h;simp only [cond_false]at h;split at h
   ·rename_i c l hc
    cases h;show 0<(tyV t' 0 x').length/\(tyV t' 0 x').getD 0 .dead=c.v s.r;rw [<-Cl.v_c (r:=s.r) t' 0 x',hc];exact⟨by simp,rfl⟩
   ·cases h
 ·rename_i i id p j k hi hx
  show HQ (tyI P t) (s.r.map Aa.v) (s.den.ev x) (λr0=>r0=a.y.v s.r)
  rw [hΘ.ty hi,AZ hx];obtain⟨hl,h⟩:=A1 h;have hne:=hl;cases hag:i.agg with
  |true=>
   rw [hag]at h;simp only [cond_true]at h;obtain⟨hc,h⟩:=A1 h;cases h;simp only [bAE]at hc;obtain⟨⟨h1,h2⟩,h3⟩:=hc;have h1:=blE h1;have h3:=bqE h3
   have hlen:((((Ab s.r id p).cells j).drop k).take i.ty.w).length=i.ty.w:=by
    rw [List.length_take,List.length_drop,h3];omega
   have hget: ∀m,m<i.ty.w->((((Ab s.r id p).cells j).drop k).take i.ty.w).getD m .dead=((Ab s.r id p).cells j).getD (k+m) .dead:=by
    intro m hm;simp [List.getElem?_take,hm]
   refine⟨by rw [B0 hne];exact h1,?_,?_⟩
   ·rw [aET]
    intro m hm;have hm:=List.mem_range.1 hm;show K3 (B7 (s.r.map Aa.v) id p j (k+m))=true;rw [DC hne,<-hget m hm];refine ok_v (aET.1 h2 _ ?_);rw [gDE,gEE (by rw [hlen];exact hm)]
    exact List.getElem_mem _
   ·show _=Ac ((refL id p j k _).map (Cl.v s.r))
    rw [XM _ k (aET.1 h2) λm hm=>(hget m (by rw [hlen]at hm;exact hm)).symm,hlen]
    congr 1
    apply U1;intro m hm;rw [DC hne]
  |false=>
   rw [hag]at h;simp only [cond_true,cond_false]at h;split at h
   ·cases h
   ·rename_i u d x hc
    cases h;have hx:isO x=true:=hp;obtain⟨xs,rfl⟩: ∃xs,x=some xs:=by
     cases x with
     |none=>cases hx
     |some xs=>exact⟨xs,rfl⟩
    refine⟨by rw [DC hne,hc];rfl,?_⟩
    rw [DC hne,hc];have e:Ab s.r id (p++ [(j,k)])= .opt (Ab s.r id p).ro u d (some xs):=by rw [Jt,hc];rfl
    show V.rs id (p++ [(j,k)]) 0 xs.length=V.rs id (p++ [(j,k)]) 0 (Ab s.r id (p++ [(j,k)])).len;rw [e];rfl
   ·rename_i c hn hc
    generalize hcd:((Ab s.r id p).cells j).getD k .dead=c' at h hc;obtain⟨hok,h⟩:=A1 h;cases h;refine⟨by rw [DC hne,hcd];exact ok_v hok,?_⟩
    rw [DC hne,hcd];exact(ref_v (ro:=(Ab s.r id p).ro) hok (by rw [Jt,hcd])).symm
 ·rename_i i l hi hx
  show HQ (tyI P t) (s.r.map Aa.v) (s.den.ev x) (λr0=>r0=a.y.v s.r)
  rw [hΘ.ty hi,AZ hx];have hlen:(l.map (Cl.v s.r)).length=l.length:=by simp
  cases hag:i.agg with
  |true=>
   rw [hag]at h;simp only [cond_true]at h;obtain⟨hw,h⟩:=A1 h;cases h;simp only [bAE,Bool.not_eq_true']at hw;have hw1:=blE hw.1;show(i.ty.w<=(l.map (Cl.v s.r)).length/\_)/\Ac (tab i.ty.w λk=>(l.map (Cl.v s.r)).getD k .dead)=Ac ((l.take i.ty.w).map (Cl.v s.r))
   refine⟨⟨by rw [hlen];exact hw1,?_⟩,?_⟩
   ·rw [aET]
    intro k hk;have hk:=List.mem_range.1 hk;show(!AE ((l.map (Cl.v s.r)).getD k .dead))=true;rw [Ay (f:=Cl.v s.r) (a:=.dead) rfl,Cl.own_v]
    have h2:=List.any_eq_false.1 hw.2 (l.getD k .dead) (by
     rw [gDE,gEE (by omega)]
     exact List.mem_take_iff_getElem.2 ⟨k,by omega,rfl⟩)
    simpa using h2
   ·rw [IF _ (by rw [hlen];exact hw1),List.map_take]
  |false=>
   rw [hag]at h;simp only [cond_false]at h;split at h
   ·rename_i c l
    cases ho:c.own with
    |true=>rw [ho]at h;cases h
    |false=>
     rw [ho]at h;cases h;show(0<((c::l).map (Cl.v s.r)).length/\AE (c.v s.r)=false)/\c.v s.r=c.v s.r;exact⟨⟨by simp,by rw [Cl.own_v];exact ho⟩,rfl⟩
   ·cases h
theorem Kx{ti:Option TyI}{σ:List V}{x:V}{K K':V->Prop}(h:HQ ti σ x K)(hK: ∀r,K r->K' r):HQ ti σ x K':=by
 unfold HQ at h⊢;split at h
 ·split at h
  ·grind
  ·grind
  ·grind
  omega
 ·grind
 ·exact h.elim
theorem On(hΘ:Θ.OK P)(h:Vc s (Θ.look t) (s.ev x)=some a)(hp:a.p):QS P s (.load t x) a.y:=
 Kx (Pq hΘ h hp) λr0 hr=>by rw [hr];exact Sub.refl _
end sound
end Go.Ve

