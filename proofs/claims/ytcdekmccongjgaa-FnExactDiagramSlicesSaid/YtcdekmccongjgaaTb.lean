/- The typed machine: facts of types, its operands, its operations that only read. -/
import Derived.Test.YtcdekmccongjgaaTx
namespace Go.Ve

structure TI where
 ty : Ty
 agg : Bool
 flds : List (Nat × Nat)
 elem : Option TypeId
 bytes : Nat
 str : Bool
 ik : Option IntKind
 eq : Option (List Nat)
 /-- so deep the elements of a slice of the call's own are owned, where this is the elements' type -/
 sd : Nat:=0
abbrev Tab:=List (TypeId × TI)
def Tab.look : Tab→TypeId→Option TI
 | [],_=>none
 | (u,i) :: l,t=>bif Nat.beq u t then some i else Tab.look l t

def zeroV : Ty→List Value
 | .int k=>[.int k 0]
 | .bool=>[.bool false]
 | .str=>[.string ⟨#[]⟩]
 | .sl _=>[.slice none 0 0]
 | .ptr _=>[.pointer none]
 | .unit=>[]
 | .pair a b=>zeroV a ++ zeroV b
 | .clo _ _=>[.nilFunc]
 | .osl _=>[.slice none 0 0]
def zeroC : Ty→List Cl
 | .ptr _=>[.nilp]
 | .unit=>[]
 | .pair a b=>zeroC a ++ zeroC b
 | .clo _ _=>[.nilf]
 | .osl t=>[.c (.osl t) (t.dep + 1) (some [])]
 | .int k=>[.c (.int k) 0 (0 : Int)]
 | .bool=>[.c .bool 0 false]
 | .str=>[.c .str 0 ⟨#[]⟩]
 | .sl t=>[.c (.sl t) (t.dep + 1) []]
def zeroB : Ty→List Cl
 | .ptr _=>[.nilp]
 | .unit=>[]
 | .pair a b=>zeroB a ++ zeroB b
 | .clo _ _=>[.nilf]
 | .osl _=>[.nil]
 | .int k=>[.c (.int k) 0 (0 : Int)]
 | .bool=>[.c .bool 0 false]
 | .str=>[.c .str 0 ⟨#[]⟩]
 | .sl _=>[.nil]

structure Facts where
 ty : Option TyI
 fl : List (Option (Nat × Nat))
 sl : Option SlI
 sk : SlK
 ln : LenI
 bd : Option (List (Nat × Nat) × List Value)
 ik : Option IntKind
 eq : Option (List Nat)
def ukI (P : Program) (t : TypeId) : Option IntKind:=match P.underlying t with
 | some (.int k)=>some k
 | _=>none
def haveF (P : Program) (t : TypeId) (n : Nat) : Facts:=⟨tyI P t,(List.range n).map (fldI P t),slI P t,slK P t,lenI P t,bldI P t,ukI P t,eqTy P t⟩
def wantF (Θ : Tab) (i : TI) : Facts:=
 ⟨some ⟨i.agg,i.ty.w,zeroV i.ty⟩,i.flds.map some,
  i.elem.bind fun e=>(Θ.look e).map fun j=>⟨e,j.ty.w,j.bytes,zeroV j.ty⟩,
  if i.str then .string else match i.elem.bind Θ.look with | some j=>.slice j.ty.w | none=>.other,
  if i.str then .string else match i.elem with | some _=>.slice | none=>.other,
  if i.agg then some (i.flds,zeroV i.ty) else none,i.ik,i.eq⟩
def Tab.OK (P : Program) (Θ : Tab) : Prop:=∀ t i,Θ.look t = some i→haveF P t i.flds.length = wantF Θ i

theorem Tab.look_mem {t : TypeId} {i : TI} : ∀ {Θ : Tab},Θ.look t = some i→(t,i) ∈ Θ
 | [],h=>by cases h
 | (u,j) :: l,h=>by
  unfold Tab.look at h
  cases hb : Nat.beq u t with
  | true=>
   rw [hb] at h
   simp only [cond_true,Option.some.injEq] at h
   subst h
   rw [Nat.eq_of_beq_eq_true hb]
   exact List.mem_cons_self ..
  | false=>
   rw [hb] at h
   exact List.mem_cons_of_mem _ (look_mem h)
theorem Tab.ok_of {P : Program} {Θ : Tab} (h : Θ.map (fun e=>haveF P e.1 e.2.flds.length) = Θ.map (fun e=>wantF Θ e.2)) : Θ.OK P:=by
 intro t i hl
 exact List.map_inj_left.1 h _ (Tab.look_mem hl)

section facts
variable {P : Program} {Θ : Tab} {t : TypeId} {i : TI}
theorem Tab.OK.ty (h : Θ.OK P) (hl : Θ.look t = some i) : tyI P t = some ⟨i.agg,i.ty.w,zeroV i.ty⟩:=congrArg Facts.ty (h t i hl)
theorem Tab.OK.fld (h : Θ.OK P) (hl : Θ.look t = some i) {k : Nat} {p : Nat × Nat} (hk : i.flds[k]? = some p) : fldI P t k = some p:=by
 have h1 : (List.range i.flds.length).map (fldI P t) = i.flds.map some:=congrArg Facts.fl (h t i hl)
 have h2:=congrArg (·[k]?) h1
 have hlt:=(List.getElem?_eq_some_iff.1 hk).1
 simp only [List.getElem?_map,hk,List.getElem?_range hlt,Option.map_some] at h2
 exact Option.some.inj h2
theorem Tab.OK.elem (h : Θ.OK P) (hl : Θ.look t = some i) {e : TypeId} {j : TI} (he : i.elem = some e) (hj : Θ.look e = some j) : slI P t = some ⟨e,j.ty.w,j.bytes,zeroV j.ty⟩:=by
 have h1 : slI P t = i.elem.bind fun e=>(Θ.look e).map fun j=>⟨e,j.ty.w,j.bytes,zeroV j.ty⟩:=congrArg Facts.sl (h t i hl)
 rw [h1,he]; simp [hj]
theorem Tab.OK.sk (h : Θ.OK P) (hl : Θ.look t = some i) : slK P t = if i.str then .string else match i.elem.bind Θ.look with | some j=>.slice j.ty.w | none=>.other:=congrArg Facts.sk (h t i hl)
theorem Tab.OK.ln (h : Θ.OK P) (hl : Θ.look t = some i) : lenI P t = if i.str then .string else match i.elem with | some _=>.slice | none=>.other:=congrArg Facts.ln (h t i hl)
theorem Tab.OK.bd (h : Θ.OK P) (hl : Θ.look t = some i) : bldI P t = if i.agg then some (i.flds,zeroV i.ty) else none:=congrArg Facts.bd (h t i hl)
theorem Tab.OK.ik (h : Θ.OK P) (hl : Θ.look t = some i) : ukI P t = i.ik:=congrArg Facts.ik (h t i hl)
theorem Tab.OK.eq (h : Θ.OK P) (hl : Θ.look t = some i) : eqTy P t = i.eq:=congrArg Facts.eq (h t i hl)
end facts

def constC : Value→Option Cl
 | .int k n=>some (.c (.int k) 0 n)
 | .bool b=>some (.c .bool 0 b)
 | .string s=>some (.c .str 0 s)
 | .slice none 0 0=>some .nil
 | .pointer none=>some .nilp
 | _=>none
def constS : Value→Option Sl
 | .agg cs=>(cs.toList.mapM constC).map .agg
 | v=>(constC v).map .one
def St.ev (s : St) : Operand→Option Sl
 | .tmp t=>some (s.t t)
 | .const v=>constS v
 | _=>none

theorem constC_v {v : Value} {c : Cl} (h : constC v = some c) (r : List Root) : c.v r = .c v∧v.oneCell' = true∧c.v0 = .c v:=by
 unfold constC at h
 split at h <;> first | (cases h; done) | (cases h; exact ⟨rfl,rfl,rfl⟩)

theorem constCs_v (r : List Root) : ∀ (l : List Value) (cl : List Cl),l.mapM constC = some cl→cl.map (Cl.v r) = l.map V.c∧l.all (·.oneCell') = true
 | [],cl,h=>by simp at h; subst h; exact ⟨rfl,rfl⟩
 | v :: l,cl,h=>by
  rw [List.mapM_cons] at h
  cases hv : constC v with
  | none=>simp [hv] at h
  | some c=>
   cases hl : l.mapM constC with
   | none=>simp [hv,hl] at h
   | some cs=>
    simp [hv,hl] at h
    subst h
    obtain ⟨h1,h2⟩:=constCs_v r l cs hl
    obtain ⟨h3,h4,_⟩:=constC_v hv r
    exact ⟨by simp [h1,h3],by simp [h2,h4]⟩

theorem ev_v {s : St} {x : Operand} {y : Sl} (h : s.ev x = some y) : s.den.ev x = y.v s.r:=by
 unfold St.ev at h
 split at h
 ·cases h; rfl
 ·rename_i v
  show constV v = _
  unfold constS at h
  split at h
  ·rename_i cs
   cases hl : cs.toList.mapM constC with
   | none=>simp [hl] at h
   | some cl=>
    simp [hl] at h
    subst h
    obtain ⟨h1,h2⟩:=constCs_v s.r _ _ hl
    unfold constV
    simp only [h2,if_true]
    show _ = mkMany (cl.map (Cl.v s.r))
    rw [h1]
  ·rename_i hna
   cases hc : constC v with
   | none=>simp [hc] at h
   | some c=>
    simp [hc] at h
    subst h
    obtain ⟨h1,h2,_⟩:=constC_v hc s.r
    unfold constV
    split
    ·exact absurd rfl (hna _)
    ·simp only [h2,if_true]
     exact h1.symm
 ·cases h

def Cl.own : Cl→Bool
 | .c (.sl _) (_ + 1) _=>true
 | .c (.ptr _) (_ + 1) _=>true
 | .c (.osl _) (_ + 1) x=>isO x
 | _=>false
def Sl.own : Sl→Bool
 | .one c=>c.own
 | .new _=>true
 | .agg l=>l.any Cl.own
 | .tup l=>l.any fun p=>if p.1 then p.2.any Cl.own else (p.2.getD 0 .dead).own
 | .pk _ l=>l.any Cl.own

theorem tyV_free : ∀ (t : Ty) (x : t.T),∀ v ∈ tyV t 0 x,tOwn v = false
 | .int _,_,v,h=>by simp [tyV] at h; subst h; rfl
 | .bool,_,v,h=>by simp [tyV] at h; subst h; rfl
 | .str,_,v,h=>by simp [tyV] at h; subst h; rfl
 | .sl _,_,v,h=>by simp [tyV] at h; subst h; rfl
 | .ptr _,_,v,h=>by simp [tyV] at h; subst h; rfl
 | .unit,_,v,h=>by simp [tyV] at h
 | .pair a b,x,v,h=>by
  simp only [tyV,List.mem_append] at h
  exact h.elim (tyV_free a x.1 v) (tyV_free b x.2 v)
 | .osl t,x,v,h=>by
  simp only [tyV,List.mem_singleton] at h
  subst h
  cases x <;> rfl
 | .clo g t,x,v,h=>by
  simp only [tyV,List.mem_singleton] at h
  subst h
  show ((List.range t.w).any fun k=>tOwn ((tyV t 0 x).getD k .dead)) = false
  rw [List.any_eq_false]
  intro k hk
  have hk : k < (tyV t 0 x).length:=by rw [tyV_len]; exact List.mem_range.1 hk
  rw [List.getD_eq_getElem?_getD,List.getElem?_eq_getElem hk]
  simp [tyV_free t x _ (List.getElem_mem hk)]
theorem Cl.own_v {r : List Root} (c : Cl) : tOwn (c.v r) = c.own:=by
 cases c with
 | c t d x=>cases t <;> first | rfl | (show decide (0 < d) = _; cases d <;> rfl) | (cases x <;> cases d <;> rfl) | exact tyV_free (.clo _ _) x _ (List.mem_singleton.2 rfl)
 | _=>rfl
theorem aggOwn_v {r : List Root} (l : List Cl) : tOwn (mkMany (l.map (Cl.v r))) = l.any Cl.own:=by
 rw [tOwn_mk,List.any_map]
 congr 1
 funext c
 exact Cl.own_v c
theorem Sl.own_v {r : List Root} (s : Sl) : tOwn (s.v r) = s.own:=by
 cases s with
 | one c=>exact Cl.own_v c
 | new l=>rfl
 | agg l=>exact aggOwn_v l
 | pk t l=>
  show tOwn (pkL t (l.map (Cl.v r))) = l.any Cl.own
  rw [tOwn_pk,List.any_map]
  congr 1
  funext c
  exact Cl.own_v c
 | tup l=>
  show tOwn (tupV _) = l.any _
  rw [tOwn_tup,List.any_map]
  congr 1
  funext p
  obtain ⟨b,l⟩:=p
  cases b with
  | true=>exact aggOwn_v l
  | false=>
   show tOwn ((l.map (Cl.v r)).getD 0 .dead) = (l.getD 0 .dead).own
   rw [getD_mapV (f:=Cl.v r) (a:=.dead) rfl]
   exact Cl.own_v _

def Cl.ref (id : Nat) (q : Path) : Cl→Cl
 | .c (.sl _) (_ + 1) _=>.rf id q
 | .c (.ptr _) (_ + 1) _=>.rp id q 0 0
 | .c (.osl _) _ _=>.dead
 | .rf _ _=>.dead
 | .rs _ _ _ _=>.dead
 | .rp _ _ _ _=>.dead
 | y=>y
def Cl.ok : Cl→Bool
 | .c (.ptr t) (_ + 1) _=>Nat.blt 0 t.w
 | .c (.clo _ _) _ _=>false
 | .c (.osl _) _ _=>false
 | _=>true

theorem ref_v {r : List Root} {id : Nat} {q : Path} {ro : Bool} {c : Cl} (hc : c.ok = true) (h : nodeR r id q = c.node ro) : (c.ref id q).v r = toRef id q c.v0:=by
 cases c with
 | c t d x=>
  cases t <;> cases d <;> first | rfl | (cases hc; done) | (show V.rs id q 0 (nodeR r id q).len = _; rw [h]; rfl)
 | _=>rfl

theorem ok_v {c : Cl} (h : c.ok = true) : cellOK c.v0 = true:=by
 cases c with
 | c t d x=>
  cases t <;> try rfl
  ·rename_i t
   cases d with
   | zero=>rfl
   | succ d=>
    show decide (0 < (tyV t d x).length) = true
    rw [tyV_len]
    have h : Nat.ble 1 t.w = true:=h
    exact decide_eq_true (Nat.le_of_ble_eq_true h)
  ·cases h
  ·cases h
 | _=>rfl

theorem node_step {r : List Root} {id : Nat} {p : Path} {j k : Nat} : nodeR r id (p ++ [(j,k)]) = (((nodeR r id p).cells j).getD k .dead).node (nodeR r id p).ro:=by
 unfold nodeR
 rw [at_app]
 rfl

theorem cellAt_v {r : List Root} {id : Nat} {p : Path} {i k : Nat} (h : (nodeR r id p).live = true) : cellAt (r.map Root.v) id p i k = (((nodeR r id p).cells i).getD k .dead).v0:=by
 obtain ⟨s,sz,n,f,hv,hf,_⟩:=cells_v _ h
 unfold cellAt
 rw [sub_nodeR (live_ne h),hv]
 exact hf i k
def Root.w : Root→Nat
 | .obj _ l=>l.length
 | .arr _ t _ _=>t.w
 | .opt _ t _ _=>t.w
 | .dead=>0
theorem nodeSz_v {r : List Root} {id : Nat} {p : Path} (h : (nodeR r id p).live = true) : nodeSz (r.map Root.v) id p = (nodeR r id p).w:=by
 unfold nodeSz
 rw [sub_nodeR (live_ne h)]
 cases hn : nodeR r id p with
 | dead=>rw [hn] at h; cases h
 | opt=>rw [hn] at h; cases h
 | obj ro l=>exact List.length_map ..
 | arr ro t d xs=>rfl

inductive TR where
 | ok (y : Sl)
 | cnd (p : Prop) (dec : Decidable p) (y : Sl)
def TR.y : TR→Sl
 | .ok y=>y
 | .cnd _ _ y=>y
def TR.p : TR→Prop
 | .ok _=>True
 | .cnd p _ _=>p

def SK (s : St) (y : Sl) : V→Prop:=fun r0=>Sub r0 (y.v s.r)
def QS (P : Program) (s : St) (op : Op) (y : Sl) : Prop:=qop0 P (s.r.map Root.v) s.den.ev op (SK s y)

def tMove : Option Sl→Option TR
 | some y=>bif y.own then none else some (.ok y)
 | none=>none
def tPick : Option Sl→Option Sl→Option Sl→Option TR
 | some (.one (.c .bool _ b)),some (.one (.c t _ x)),some (.one (.c t' _ y))=>if h : t' = t then (bif Nat.beq t.dep 0 then some (.ok (.one (.c t 0 (bcond b x (h ▸ y))))) else none) else none
 | _,_,_=>none
def refL (id : Nat) (p : Path) (j : Nat) : Nat→List Cl→List Cl
 | _,[]=>[]
 | k,c :: l=>c.ref id (p ++ [(j,k)]) :: refL id p j (k + 1) l
def tLoad (s : St) : Option TI→Option Sl→Option TR
 | some i,some (.one (.c (.ptr t) 0 x))=>
  bif i.agg then (bif Nat.ble i.ty.w t.w then some (.ok (.agg ((cellsC t 0 x).take i.ty.w))) else none)
  else match cellsC t 0 x with
   | c :: _=>some (.ok (.one c))
   | []=>none
 | some i,some (.one (.rp id p j k))=>
  bif (nodeR s.r id p).live then
   bif i.agg then
    bif Nat.ble (k + i.ty.w) (nodeR s.r id p).w && ((((nodeR s.r id p).cells j).drop k).take i.ty.w).all Cl.ok && Nat.beq ((nodeR s.r id p).cells j).length (nodeR s.r id p).w then
     some (.ok (.agg (refL id p j k ((((nodeR s.r id p).cells j).drop k).take i.ty.w)))) else none
   else match ((nodeR s.r id p).cells j).getD k .dead with
    | .dead=>none
    | .c (.osl _) (_ + 1) x=>some (.cnd (isO x = true) inferInstance (.one (.rf id (p ++ [(j,k)]))))
    | c=>bif c.ok then some (.ok (.one (c.ref id (p ++ [(j,k)])))) else none
  else none
 | some i,some (.pk .bx l)=>
  bif i.agg then (bif Nat.ble i.ty.w l.length && !(l.take i.ty.w).any Cl.own then some (.ok (.agg (l.take i.ty.w))) else none)
  else match l with
   | c :: _=>bif c.own then none else some (.ok (.one c))
   | []=>none
 | _,_=>none

section sound
variable {P : Program} {Θ : Tab} {s : St}

theorem tMove_sound {x : Operand} {op : Op} {a : TR} (ho : op = .move x∨op = .assign x) (h : tMove (s.ev x) = some a) : QS P s op a.y:=by
 unfold tMove at h
 split at h <;> try (cases h; done)
 rename_i y hy
 cases hb : y.own with
 | true=>rw [hb] at h; cases h
 | false=>
  rw [hb] at h
  cases h
  have e:=ev_v hy
  have : qMove (s.den.ev x) (SK s y):=⟨by rw [e,Sl.own_v,hb],by rw [e]; exact Sub.refl (y.v s.r)⟩
  rcases ho with rfl | rfl <;> exact this

theorem own0 {t : Ty} (d : Nat) (x : t.T) (h : t.dep = 0) : (Cl.c t d x).own = false:=by
 cases t <;> first | rfl | (simp [Ty.dep] at h)
theorem cV_dep {t : Ty} {d d' : Nat} {x : t.T} (h : min d t.dep = min d' t.dep) : cV t d x = cV t d' x:=by
 have:=tyV_dep t d d' x h
 cases t <;> first | rfl | (simp only [tyV,List.cons.injEq,and_true] at this; exact this)

theorem tPick_sound {c x y : Operand} {a : TR} (h : tPick (s.ev c) (s.ev x) (s.ev y) = some a) : QS P s (.pick c x y) a.y:=by
 unfold tPick at h
 split at h <;> try (cases h; done)
 rename_i _ b t d x' t' d' y' hc hx hy
 split at h
 case isFalse=>cases h
 rename_i ht
 subst ht
 cases hd : Nat.beq t'.dep 0 with
 | false=>rw [hd] at h; cases h
 | true=>
  rw [hd] at h
  have hd:=Nat.eq_of_beq_eq_true hd
  cases h
  show qPick (s.den.ev c) (s.den.ev x) (s.den.ev y) (SK s _)
  rw [ev_v hc,ev_v hx,ev_v hy]
  refine ⟨by rw [Sl.own_v]; exact own0 _ _ hd,by rw [Sl.own_v]; exact own0 _ _ hd,?_,?_⟩
  ·rintro rfl
   exact Sub.of_eq (cV_dep (by rw [hd]; simp))
  ·rintro rfl
   exact Sub.of_eq (cV_dep (by rw [hd]; simp))

theorem tab_take {l : List V} : ∀ (n : Nat),n≤l.length→(tab n fun k=>l.getD k .dead) = l.take n:=by
 intro n
 induction n generalizing l with
 | zero=>intro _; rfl
 | succ n ih=>
  intro h
  cases l with
  | nil=>simp at h
  | cons v l=>
   unfold tab
   simp only [List.getD_cons_zero,List.getD_cons_succ,List.take_succ_cons]
   rw [ih (by simpa using h)]

theorem tab_congr {f g : Nat→V} : ∀ (n : Nat),(∀ k,k < n→f k = g k)→tab n f = tab n g:=by
 intro n
 induction n generalizing f g with
 | zero=>intro _; rfl
 | succ n ih=>intro h; unfold tab; rw [h 0 (by omega),ih fun k hk=>h (k + 1) (by omega)]

theorem Cl.v_c {r : List Root} : ∀ (t : Ty) (d : Nat) (x : t.T),(cellsC t d x).map (Cl.v r) = tyV t d x
 | .int _,_,_=>rfl
 | .bool,_,_=>rfl
 | .str,_,_=>rfl
 | .sl _,_,_=>rfl
 | .ptr _,_,_=>rfl
 | .unit,_,_=>rfl
 | .pair a b,d,x=>by simp [cellsC,tyV,Cl.v_c a,Cl.v_c b]
 | .clo _ _,_,_=>rfl
 | .osl _,_,_=>rfl

theorem refL_tab {r : List Root} {id : Nat} {p : Path} {j : Nat} : ∀ (l : List Cl) (k : Nat),(∀ c ∈ l,c.ok = true)→(∀ m,m < l.length→((nodeR r id p).cells j).getD (k + m) .dead = l.getD m .dead) →
  (refL id p j k l).map (Cl.v r) = tab l.length fun m=>toRef id (p ++ [(j,k + m)]) ((((nodeR r id p).cells j).getD (k + m) .dead).v0):=by
 intro l
 induction l with
 | nil=>intro k _ _; rfl
 | cons c l ih=>
  intro k hc h
  have h0:=h 0 (by simp)
  simp only [Nat.add_zero,List.getD_cons_zero] at h0
  unfold refL
  rw [List.map_cons,List.length_cons,tab]
  congr 1
  ·rw [Nat.add_zero,h0]
   exact ref_v (ro:=(nodeR r id p).ro) (hc c (List.mem_cons_self ..)) (by rw [node_step,h0])
  ·rw [ih (k + 1) (fun c h=>hc c (List.mem_cons_of_mem _ h)) fun m hm=>by
    have:=h (m + 1) (by simpa using hm)
    simp only [List.getD_cons_succ] at this
    rw [← this]; congr 1; omega]
   apply tab_congr
   intro m _
   rw [show k + 1 + m = k + (m + 1) by omega]

theorem tLoad_eq (hΘ : Θ.OK P) {t : TypeId} {x : Operand} {a : TR} (h : tLoad s (Θ.look t) (s.ev x) = some a) (hp : a.p) : qLoad (tyI P t) (s.r.map Root.v) (s.den.ev x) (fun r0=>r0 = a.y.v s.r):=by
 unfold tLoad at h
 split at h
 case h_4=>cases h
 ·rename_i i t' x' hi hx
  show qLoad (tyI P t) (s.r.map Root.v) (s.den.ev x) (fun r0=>r0 = a.y.v s.r)
  rw [hΘ.ty hi,ev_v hx]
  cases hag : i.agg with
  | true=>
   rw [hag] at h
   cases hw : Nat.ble i.ty.w t'.w with
   | false=>rw [hw] at h; cases h
   | true=>
    rw [hw] at h
    cases h
    have hw:=Nat.le_of_ble_eq_true hw
    show i.ty.w≤(tyV t' 0 x').length∧mkMany (tab i.ty.w fun k=>(tyV t' 0 x').getD k .dead) = mkMany (((cellsC t' 0 x').take i.ty.w).map (Cl.v s.r))
    refine ⟨by rw [tyV_len]; exact hw,?_⟩
    rw [tab_take _ (by rw [tyV_len]; exact hw),List.map_take,Cl.v_c]
  | false=>
   rw [hag] at h
   simp only [cond_false] at h
   split at h
   ·rename_i c l hc
    cases h
    show 0 < (tyV t' 0 x').length∧(tyV t' 0 x').getD 0 .dead = c.v s.r
    rw [← Cl.v_c (r:=s.r) t' 0 x',hc]
    exact ⟨by simp,rfl⟩
   ·cases h
 ·rename_i i id p j k hi hx
  show qLoad (tyI P t) (s.r.map Root.v) (s.den.ev x) (fun r0=>r0 = a.y.v s.r)
  rw [hΘ.ty hi,ev_v hx]
  cases hl : (nodeR s.r id p).live with
  | false=>rw [hl] at h; cases h
  | true=>
   rw [hl] at h
   have hne:=hl
   cases hag : i.agg with
   | true=>
    rw [hag] at h
    simp only [cond_true] at h
    cases hc : (Nat.ble (k + i.ty.w) (nodeR s.r id p).w && ((((nodeR s.r id p).cells j).drop k).take i.ty.w).all Cl.ok && Nat.beq ((nodeR s.r id p).cells j).length (nodeR s.r id p).w) with
    | false=>rw [hc] at h; cases h
    | true=>
     rw [hc] at h
     cases h
     simp only [Bool.and_eq_true] at hc
     obtain ⟨⟨h1,h2⟩,h3⟩:=hc
     have h1:=Nat.le_of_ble_eq_true h1
     have h3:=Nat.eq_of_beq_eq_true h3
     have hlen : ((((nodeR s.r id p).cells j).drop k).take i.ty.w).length = i.ty.w:=by
      rw [List.length_take,List.length_drop,h3]; omega
     have hget : ∀ m,m < i.ty.w→((((nodeR s.r id p).cells j).drop k).take i.ty.w).getD m .dead = ((nodeR s.r id p).cells j).getD (k + m) .dead:=by
      intro m hm
      simp [List.getElem?_take,hm]
     refine ⟨by rw [nodeSz_v hne]; exact h1,?_,?_⟩
     ·rw [List.all_eq_true]
      intro m hm
      have hm:=List.mem_range.1 hm
      show cellOK (cellAt (s.r.map Root.v) id p j (k + m)) = true
      rw [cellAt_v hne,← hget m hm]
      refine ok_v (List.all_eq_true.1 h2 _ ?_)
      rw [List.getD_eq_getElem?_getD,List.getElem?_eq_getElem (by rw [hlen]; exact hm)]
      exact List.getElem_mem _
     ·show _ = mkMany ((refL id p j k _).map (Cl.v s.r))
      rw [refL_tab _ k (List.all_eq_true.1 h2) fun m hm=>(hget m (by rw [hlen] at hm; exact hm)).symm,hlen]
      congr 1
      apply tab_congr
      intro m hm
      rw [cellAt_v hne]
   | false=>
    rw [hag] at h
    simp only [cond_true,cond_false] at h
    split at h
    ·cases h
    ·rename_i u d x hc
     cases h
     have hx : isO x = true:=hp
     obtain ⟨xs,rfl⟩ : ∃ xs,x = some xs:=by
      cases x with
      | none=>cases hx
      | some xs=>exact ⟨xs,rfl⟩
     refine ⟨by rw [cellAt_v hne,hc]; rfl,?_⟩
     rw [cellAt_v hne,hc]
     have e : nodeR s.r id (p ++ [(j,k)]) = .opt (nodeR s.r id p).ro u d (some xs):=by rw [node_step,hc]; rfl
     show V.rs id (p ++ [(j,k)]) 0 xs.length = V.rs id (p ++ [(j,k)]) 0 (nodeR s.r id (p ++ [(j,k)])).len
     rw [e]
     rfl
    ·rename_i c hn hc
     generalize hcd : ((nodeR s.r id p).cells j).getD k .dead = c' at h hc
     cases hok : c'.ok with
     | false=>rw [hok] at h; cases h
     | true=>
      rw [hok] at h
      cases h
      refine ⟨by rw [cellAt_v hne,hcd]; exact ok_v hok,?_⟩
      rw [cellAt_v hne,hcd]
      exact (ref_v (ro:=(nodeR s.r id p).ro) hok (by rw [node_step,hcd])).symm
 ·rename_i i l hi hx
  show qLoad (tyI P t) (s.r.map Root.v) (s.den.ev x) (fun r0=>r0 = a.y.v s.r)
  rw [hΘ.ty hi,ev_v hx]
  have hlen : (l.map (Cl.v s.r)).length = l.length:=by simp
  cases hag : i.agg with
  | true=>
   rw [hag] at h
   simp only [cond_true] at h
   cases hw : (Nat.ble i.ty.w l.length && !(l.take i.ty.w).any Cl.own) with
   | false=>rw [hw] at h; cases h
   | true=>
    rw [hw] at h
    cases h
    simp only [Bool.and_eq_true,Bool.not_eq_true'] at hw
    have hw1:=Nat.le_of_ble_eq_true hw.1
    show (i.ty.w≤(l.map (Cl.v s.r)).length∧_)∧mkMany (tab i.ty.w fun k=>(l.map (Cl.v s.r)).getD k .dead) = mkMany ((l.take i.ty.w).map (Cl.v s.r))
    refine ⟨⟨by rw [hlen]; exact hw1,?_⟩,?_⟩
    ·rw [List.all_eq_true]
     intro k hk
     have hk:=List.mem_range.1 hk
     show (!tOwn ((l.map (Cl.v s.r)).getD k .dead)) = true
     rw [getD_mapV (f:=Cl.v s.r) (a:=.dead) rfl,Cl.own_v]
     have h2:=List.any_eq_false.1 hw.2 (l.getD k .dead) (by
      rw [List.getD_eq_getElem?_getD,List.getElem?_eq_getElem (by omega)]
      exact List.mem_take_iff_getElem.2 ⟨k,by omega,rfl⟩)
     simpa using h2
    ·rw [tab_take _ (by rw [hlen]; exact hw1),List.map_take]
  | false=>
   rw [hag] at h
   simp only [cond_false] at h
   split at h
   ·rename_i c l
    cases ho : c.own with
    | true=>rw [ho] at h; cases h
    | false=>
     rw [ho] at h
     cases h
     show (0 < ((c :: l).map (Cl.v s.r)).length∧tOwn (c.v s.r) = false)∧c.v s.r = c.v s.r
     exact ⟨⟨by simp,by rw [Cl.own_v]; exact ho⟩,rfl⟩
   ·cases h
theorem qLoad_mono {ti : Option TyI} {σ : List V} {x : V} {K K' : V→Prop} (h : qLoad ti σ x K) (hK : ∀ r,K r→K' r) : qLoad ti σ x K':=by
 unfold qLoad at h ⊢
 split at h
 ·split at h
  ·exact ⟨h.1,hK _ h.2⟩
  ·exact ⟨h.1,hK _ h.2⟩
  ·exact ⟨h.1,hK _ h.2⟩
  ·exact h.elim
 ·split at h
  ·exact ⟨h.1,hK _ h.2⟩
  ·exact ⟨h.1,h.2.1,hK _ h.2.2⟩
  ·exact ⟨h.1,hK _ h.2⟩
  ·exact h.elim
 ·exact h.elim
theorem tLoad_sound (hΘ : Θ.OK P) {t : TypeId} {x : Operand} {a : TR} (h : tLoad s (Θ.look t) (s.ev x) = some a) (hp : a.p) : QS P s (.load t x) a.y:=
 qLoad_mono (tLoad_eq hΘ h hp) fun r0 hr=>by rw [hr]; exact Sub.refl _
end sound
end Go.Ve

