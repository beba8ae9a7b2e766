/- The typed machine: lists of quiet operations, guards; the head of a region that draws its order. -/
import Derived.Test.YtkafcpbbcpngdaaDoorTg
import Derived.Test.YtkafcpbbcpngdaaDoorTud
namespace Go.Ve
open RowKit (Below)

structure Env where
  Θ : Tab
  Γ : List En
  W : List EnW
  h : Hint

def callF : Op → Option (FuncId × Array Operand)
  | .call c => match c.callee with
    | .value (.func f) => some (f, c.args)
    | _ => none
  | _ => none
def Cl.live : Cl → Bool
  | .dead => false
  | .c t _ _ => t.one
  | _ => true
def liveO : Option Sl → Bool
  | some (.one y) => y.live
  | some _ => true
  | none => false
theorem live_v {s : St} {x : Operand} (h : liveO (s.ev x) = true) : s.den.ev x ≠ .dead := by
  unfold liveO at h
  split at h
  · rename_i y hy
    rw [ev_v hy]
    cases y with
    | c t d x =>
      have h : t.one = true := h
      cases t <;> first | (intro hc; cases hc; done) | cases h
    | dead => cases h
    | _ => intro hc; cases hc
  · rename_i y hne hy
    rw [ev_v hy]
    cases y with
    | one c => exact absurd rfl (hne c)
    | _ => intro hc; cases hc
  · cases h
def St.liveX (s : St) : Operand → Bool
  | .func _ => true
  | x => liveO (s.ev x)
theorem liveX_v {s : St} {x : Operand} (h : s.liveX x = true) : s.den.ev x ≠ .dead := by
  cases x with
  | func f => intro e; cases e
  | _ => exact live_v h
/-- The value of an operation goes to K. -/
def tres {R : Type} (E : Env) (s : St) (ty : TypeId) (op : Op) (K : Sl → Option R) : Option R := bif op.operands.toList.all s.liveX then (match callF op with
  | some (f, xs) => match tCall E.Γ s f (xs.toList.map s.ev) with
    | some a => obind a.o fun z => K (a.y z)
    | none => none
  | none => match tq E.Θ s ty op with
    | some (.ok y) => K y
    | some (.cnd p dec y) => oif p dec (K y)
    | none => none) else none

structure EOK (P : Program) (E : Env) : Prop where
  Θ : E.Θ.OK P
  Γ : EnsOK P E.Γ
  W : ∀ e ∈ E.W, e.OK P

theorem tres_sound {R : Type} {P : Program} {E : Env} (hE : EOK P E) {s : St} {ty : TypeId} {op : Op} {K : Sl → Option R} {z : R} (h : tres E s ty op K = some z) : (∀ x ∈ op.operands, s.den.ev x ≠ .dead) ∧ ∃ y, QS P s op y ∧ K y = some z := by
  unfold tres at h
  cases hl : op.operands.toList.all s.liveX with
  | false => rw [hl] at h; cases h
  | true =>
  rw [hl] at h
  simp only [cond_true] at h
  refine ⟨fun x hx => liveX_v (List.all_eq_true.1 hl x (by simpa using hx)), ?_⟩
  split at h
  · rename_i f xs hc
    split at h
    case h_2 => cases h
    rename_i a ha
    cases hu : a.o with
    | none => rw [hu] at h; cases h
    | some u =>
      rw [hu] at h
      refine ⟨a.y u, ?_, h⟩
      unfold callF at hc
      split at hc
      case h_2 => cases hc
      rename_i c
      obtain ⟨callee, args, ats⟩ := c
      split at hc
      case h_2 => cases hc
      rename_i f' hf
      have hf : callee = .value (.func f') := hf
      subst hf
      cases hc
      exact tCall_sound hE.Γ ha hu
  · split at h
    · rename_i y ha
      exact ⟨y, tq_sound hE.Θ ha trivial, h⟩
    · rename_i p dec y ha
      have h : @ite _ p dec (K y) none = some z := h
      by_cases hp : p
      · rw [if_pos hp] at h
        exact ⟨y, tq_sound hE.Θ ha hp, h⟩
      · rw [if_neg hp] at h; cases h
    · cases h

/-- in the head of a region that draws: what is owned stays in its slot -/
def St.putH (h : Hint) (s : St) (d : Option Nat) (y : Sl) : Option St := match d with
  | none => none
  | some d => bif Nat.blt d h.n then (bif h.fz.contains d then (match y.frz with
      | some y' => some ⟨updT s.t d y', s.r⟩
      | none => none) else some ⟨updT s.t d y, s.r⟩) else none
def St.putX (hd : Bool) (h : Hint) (s : St) (d : Option Nat) (y : Sl) : Option St := bif hd then s.putH h d y else s.put h d y

/-- pieces of a list of operations: one by itself; a guarded group and the choice behind it -/
inductive Seg where
  | one (o : Oper)
  | grp (j : Nat) (want : Bool) (g : List Oper) (pk : Oper)
def Seg.ops : Seg → List Oper
  | .one o => [o]
  | .grp _ _ g pk => g ++ [pk]
def isG (j : Nat) (want : Bool) (o : Oper) : Bool := match o.guard with
  | some (i, w) => Nat.beq i j && (w == want)
  | none => false
def takeG (j : Nat) (want : Bool) : List Oper → List Oper × List Oper
  | [] => ([], [])
  | o :: l => bif isG j want o then (o :: (takeG j want l).1, (takeG j want l).2) else ([], o :: l)
def segs : Nat → List Oper → List Seg
  | 0, l => l.map .one
  | _ + 1, [] => []
  | n + 1, o :: l => match o.guard with
    | none => .one o :: segs n l
    | some (j, want) => match takeG j want l with
      | (g, pk :: rest) => .grp j want (o :: g) pk :: segs n rest
      | (_, []) => (o :: l).map .one
theorem takeG_app (j : Nat) (want : Bool) : ∀ l, (takeG j want l).1 ++ (takeG j want l).2 = l ∧ ∀ o ∈ (takeG j want l).1, o.guard = some (j, want)
  | [] => ⟨rfl, fun _ h => by cases h⟩
  | o :: l => by
    obtain ⟨h1, h2⟩ := takeG_app j want l
    unfold takeG
    cases hb : isG j want o with
    | true =>
      refine ⟨by simp [h1], fun x hx => ?_⟩
      rcases List.mem_cons.1 hx with rfl | hx
      · unfold isG at hb
        split at hb
        · rename_i i w hg
          simp only [Bool.and_eq_true, beq_iff_eq] at hb
          rw [hg, Nat.eq_of_beq_eq_true hb.1, hb.2]
        · cases hb
      · exact h2 x hx
    | false => exact ⟨rfl, fun _ h => by cases h⟩
theorem one_flat : ∀ l : List Oper, (l.map Seg.one).flatMap Seg.ops = l
  | [] => rfl
  | o :: l => by rw [List.map_cons, List.flatMap_cons, one_flat l]; rfl
theorem segs_flat : ∀ (n : Nat) (l : List Oper), (segs n l).flatMap Seg.ops = l
  | 0, l => one_flat l
  | n + 1, [] => rfl
  | n + 1, o :: l => by
    unfold segs
    split
    · rw [List.flatMap_cons, segs_flat n l]; rfl
    · rename_i j want hg
      split
      · rename_i g pk rest ht
        rw [List.flatMap_cons, segs_flat n rest]
        have := (takeG_app j want l).1
        rw [ht] at this
        simp only at this
        rw [← this]
        simp [Seg.ops]
      · exact one_flat _
theorem segs_guard : ∀ (n : Nat) (l : List Oper) (j : Nat) (want : Bool) (g : List Oper) (pk : Oper), Seg.grp j want g pk ∈ segs n l → ∀ o ∈ g, o.guard = some (j, want)
  | 0, l, j, want, g, pk, h => by
    obtain ⟨o, _, ho⟩ := List.mem_map.1 h
    cases ho
  | n + 1, [], j, want, g, pk, h => by cases h
  | n + 1, o :: l, j, want, g, pk, h => by
    unfold segs at h
    split at h
    · rcases List.mem_cons.1 h with h | h
      · cases h
      · exact segs_guard n l j want g pk h
    · rename_i j' want' hg
      split at h
      · rename_i g' pk' rest ht
        rcases List.mem_cons.1 h with h | h
        · simp only [Seg.grp.injEq] at h
          obtain ⟨rfl, rfl, rfl, rfl⟩ := h
          intro x hx
          rcases List.mem_cons.1 hx with rfl | hx
          · exact hg
          · exact (takeG_app _ _ l).2 x (by rw [ht]; exact hx)
        · exact segs_guard n rest j want g pk h
      · obtain ⟨o', _, ho⟩ := List.mem_map.1 h
        cases ho

def gT (ops : Array Oper) (s : St) (j : Nat) : Option (Nat × Bool) := match (ops[j]?).bind (·.dst) with
  | some d => match s.t d with
    | .one (.c .bool _ b) => some (d, b)
    | _ => none
  | none => none
theorem gT_v {ops : Array Oper} {s : St} {j d : Nat} {b : Bool} (h : gT ops s j = some (d, b)) : gv s.den.t ops j = .c (.bool b) ∧ s.den.t d = .c (.bool b) ∧ (ops[j]?).bind (·.dst) = some d := by
  unfold gT at h
  split at h
  case h_2 => cases h
  rename_i d' hd
  split at h
  case h_2 => cases h
  rename_i dd b' hs
  cases h
  unfold gv
  rw [hd]
  have : s.den.t d = .c (.bool b) := by show (s.t d).v s.r = _; rw [hs]; rfl
  exact ⟨this, this, rfl⟩
def valB (s : St) (x : Operand) : Option Bool := match s.ev x with
  | some (.one (.c .bool _ b)) => some b
  | _ => none
theorem valB_v {s : St} {x : Operand} {b : Bool} (h : valB s x = some b) : s.den.ev x = .c (.bool b) := by
  unfold valB at h
  split at h
  · rename_i d b' hs
    cases h
    rw [ev_v hs]; rfl
  · cases h
/-- a guarded group, each operation by itself -/
def tgrp (E : Env) (hd : Bool) : List Oper → St → (St → Option Bool) → Option Bool
  | [], s, K => K s
  | o :: l, s, K => tres E s o.type o.op fun y => match (bif y.own then none else s.putX hd E.h o.dst y) with
    | some s' => tgrp E hd l s' K
    | none => none
def killD : List Oper → (Nat → Sl) → Nat → Sl
  | [], t => t
  | o :: l, t => match o.dst with
    | some d => killD l (updT t d (.one .dead))
    | none => killD l t
def noDst (g : List Oper) (d : Nat) : Bool := g.all fun o => match o.dst with
  | some e => !Nat.beq e d
  | none => true
/-- the truth value that a group and its choice yield: 'gd' is the guarded operand, 'u' the other -/
def grpB (E : Env) (hd : Bool) (s : St) (b want : Bool) (g : List Oper) (gd : Nat) (u : Value) : Option Bool := match valB s (.const u) with
  | some vu => bif want then bcond b (tgrp E hd g s (fun s' => bif Nat.beq s'.r.length s.r.length then valB s' (.tmp gd) else none)) (some vu)
    else bcond b (some vu) (tgrp E hd g s fun s' => bif Nat.beq s'.r.length s.r.length then valB s' (.tmp gd) else none)
  | none => none
/-- (slot, condition's slot, guarded slot, the other operand) -/
def pickOf (want : Bool) (o : Oper) : Option (Nat × Nat × Nat × Value) := match o.dst, o.op, o.guard with
  | some d, .pick (.tmp c) x y, none => match (bif want then x else y), (bif want then y else x) with
    | .tmp gd, .const w => some (d, c, gd, w)
    | _, _ => none
  | _, _, _ => none
/-- a part of several, as a slot's value -/
def partS : Bool × List Cl → Option Sl
  | (true, m) => some (.agg m)
  | (false, y :: _) => some (.one y)
  | (false, []) => none
/-- an operation that takes what the head owns: (its slot, what is left there, the slot that gets it, what it gets) -/
def mvF (E : Env) (ops : Array Oper) (s : St) (o : Oper) : Option (Nat × Sl × Nat × Sl) := match o.op, o.dst with
  | .assign (.tmp y), some d => bif (s.t y).own && Nat.blt d E.h.n && !E.h.fz.contains d && mvB ops o y then some (y, .one .dead, d, s.t y) else none
  | .move (.tmp y), some d => bif (s.t y).own && Nat.blt d E.h.n && !E.h.fz.contains d && mvB ops o y then some (y, .one .dead, d, s.t y) else none
  | .extract (.tmp y) c, some d => match s.t y with
    | .tup l => match l[c]? with
      | some q => match partS q with
        | some z => bif z.own && Nat.blt d E.h.n && !E.h.fz.contains d && exB ops o y c then some (y, .tup (l.set c (false, [])), d, z) else none
        | none => none
      | none => none
    | _ => none
  | _, _ => none
def notT (p : Nat) : Operand → Bool
  | .tmp y => !Nat.beq y p
  | _ => true
/-- an operation that builds or stores in the head: the slots that it empties, the struct that is stored and where, the slot that gets a value -/
def lqF (E : Env) (ops : Array Oper) (s : St) (o : Oper) : Option (List Nat × Option (Nat × Sl) × Option (Nat × Sl)) := match o.op, o.dst with
  | .build t ps, some d => bif apartO ((ps.toList.map (·.2)).map (ownS s)) && (match jsO ((ps.toList.map (·.2)).map (ownS s)) with
      | [] => false
      | a :: l => (a :: l).all (mvB ops o)) && Nat.blt d E.h.n then (match E.Θ.look t with
        | some i => bif i.agg then (match tFillO (fun k => i.flds[k]?) (zeroB i.ty) (ps.toList.map fun p => (p.1, s.ev p.2)) with
          | some l => some (jsO ((ps.toList.map (·.2)).map (ownS s)), none, some (d, .agg l))
          | none => none) else none
        | none => none) else none
  | .buildSlice t n ps, some d => bif apartO ((ps.toList.map (·.2)).map (ownS s)) && (match jsO ((ps.toList.map (·.2)).map (ownS s)) with
      | [] => false
      | a :: l => (a :: l).all (mvB ops o)) && Nat.blt d E.h.n then (match ((E.Θ.look t).bind (·.elem)).bind E.Θ.look with
        | some j => bif Nat.blt 0 j.ty.w && Nat.ble (n * j.ty.w) 16777216 then (match tFillO (fun i => some (i * j.ty.w, j.ty.w)) (repC n (zeroB j.ty)) (ps.toList.map fun p => (p.1, s.ev p.2)) with
          | some l => bif l.all Cl.keep then (match packN j.ty j.ty.dep n (l.map (fit j.ty.dep)) with
            | some xs => some (jsO ((ps.toList.map (·.2)).map (ownS s)), none, some (d, .one (.c (.sl j.ty) (j.ty.dep + 1) xs)))
            | none => none) else none
          | none => none) else none
        | none => none) else none
  | .store t (.tmp p) x, none => match s.t p, (s.ev x).bind Sl.cellsO, E.Θ.look t with
    | .new lp, some l, some i => bif mvB ops o p && Nat.blt p E.h.n && Nat.beq lp.length i.ty.w && Nat.beq l.length i.ty.w && l.all Cl.keep && (jsO ([x].map (ownS s))).all (mvB ops o) && notT p x then some (jsO ([x].map (ownS s)), some (p, .new (nrmL lp l)), none) else none
    | _, _, _ => none
  | _, _ => none
/-- an append -/
def appOp : Op → Option (TypeId × Operand × Operand)
  | .call c => match c.callee, c.args.toList, c.argTypes.toList with
    | .builtin .append, [x, y], [t, t'] => bif Nat.beq t t' then some (t, x, y) else none
    | _, _, _ => none
  | _ => none
theorem list2 {α : Type} {xs : Array α} {x y : α} (h : xs.toList = [x, y]) : xs = #[x, y] := by
  cases xs; simp at h; simp [h]
theorem appOp_v {op : Op} {t : TypeId} {x y : Operand} (h : appOp op = some (t, x, y)) : op = .call ⟨.builtin .append, #[x, y], #[t, t]⟩ := by
  unfold appOp at h
  split at h
  case h_2 => cases h
  rename_i c
  obtain ⟨callee, args, ats⟩ := c
  simp only at h
  split at h
  case h_2 => cases h
  rename_i x' y' t1 t2 hx hat
  cases hb : Nat.beq t1 t2 with
  | false => rw [hb] at h; cases h
  | true =>
    rw [hb] at h
    cases h
    have := Nat.eq_of_beq_eq_true hb
    subst this
    rw [list2 hx, list2 hat]
def xElems (t : Ty) (d' : Nat) : Option Sl → Option (Nat × List t.T)
  | some (.one (.c (.sl t') (d + 1) xs)) => if h : t' = t then some (d, h ▸ xs) else none
  | some (.one .nil) => some (d', [])
  | _ => none
def yElems (s : St) (t : Ty) : Option Sl → Option (Nat × List t.T)
  | some (.one (.c (.sl t') (d + 1) ys)) => if h : t' = t then some (d, h ▸ ys) else none
  | y => match appY s t s.r.length y with
    | some (d, ys, []) => some (d, ys)
    | _ => none
structure AO where
  p : Prop
  dec : Decidable p
  js : List Nat
  d : Nat
  y : Sl
/-- an append in the head: to what a slot owns -/
def appO (E : Env) (ops : Array Oper) (s : St) (o : Oper) : Option AO := match appOp o.op, o.dst with
  | some (t, x, y), some d => (match ((E.Θ.look t).bind (·.elem)).bind E.Θ.look with
    | some i => bif apartO ([x, y].map (ownS s)) && (match jsO ([x, y].map (ownS s)) with
        | [] => false
        | a :: l => (a :: l).all (mvB ops o)) && Nat.blt d E.h.n && Nat.blt 0 i.bytes && Nat.blt 0 i.ty.w then (match yElems s i.ty (s.ev y) with
      | some (d', ys) => match xElems i.ty d' (s.ev x) with
        | some (dx, xs) => bif dOK i.ty d' dx then some ⟨lenX xs + lenX ys ≤ lim47 i.bytes, inferInstance, jsO ([x, y].map (ownS s)), d, .one (.c (.sl i.ty) (dx + 1) (catX xs ys))⟩ else none
        | none => none
      | none => none) else none
    | none => none)
  | _, _ => none
def setO : Option (Nat × Sl) → (Nat → Sl) → Nat → Sl
  | some (d, y), t => updT t d y
  | none, t => t
def trun {R : Type} (E : Env) (hd : Bool) (ops : Array Oper) : List Seg → St → (St → Option R) → Option R
  | [], s, K => K s
  | .one o :: l, s, K => match o.guard with
    | none => match mvF E ops s o with
      | some (y, u, d, z) => trun E hd ops l ⟨updT (updT s.t y u) d z, s.r⟩ K
      | none => match (bif hd then lqF E ops s o else none) with
        | some (js, pu, ds) => trun E hd ops l ⟨setO ds (setO pu (deadL js s.t)), s.r⟩ K
        | none => match (bif hd then appO E ops s o else none) with
          | some A => oif A.p A.dec (trun E hd ops l ⟨updT (deadL A.js s.t) A.d A.y, s.r⟩ K)
          | none => tres E s o.type o.op fun y => match s.putX hd E.h o.dst y with
            | some s' => trun E hd ops l s' K
            | none => none
    | some _ => none
  | .grp j want g pk :: l, s, K => match gT ops s j, pickOf want pk with
    | some (dj, b), some (d, c, gd, u) => bif Nat.beq c dj && noDst g dj && !noDst g gd && Nat.blt d E.h.n && !E.h.fz.contains d then
        obind (grpB E hd s b want g gd u) fun v => trun E hd ops l ⟨updT (killD g s.t) d (.one (.c .bool 0 v)), s.r⟩ K
      else none
    | _, _ => none

theorem beq_ne {a b : Nat} (h : a ≠ b) : Nat.beq a b = false := by
  cases hx : Nat.beq a b with
  | false => rfl
  | true => exact absurd (Nat.eq_of_beq_eq_true hx) h
theorem killD_t : ∀ (g : List Oper) (t : Nat → Sl) (i : Nat), killD g t i = if noDst g i then t i else .one .dead
  | [], t, i => rfl
  | o :: g, t, i => by
    have hc : noDst (o :: g) i = ((match o.dst with
      | some e => !Nat.beq e i
      | none => true) && noDst g i) := rfl
    rw [hc]
    unfold killD
    cases hd : o.dst with
    | none =>
      simp only [Bool.true_and]
      exact killD_t g t i
    | some d =>
      simp only
      rw [killD_t g]
      by_cases hdi : d = i
      · subst hdi
        simp [updT]
      · have h1 : Nat.beq d i = false := beq_ne hdi
        have h2 : Nat.beq i d = false := beq_ne (Ne.symm hdi)
        simp [updT, h1, h2]

/-- As much is known, or less. -/
def le1 (v v' : V) : Prop := v = v' ∨ (v' = .dead ∧ tOwn v = false)
def VLe (t t' : Nat → V) : Prop := ∀ i, le1 (t i) (t' i)
theorem VLe.refl (t : Nat → V) : VLe t t := fun _ => .inl rfl
theorem VLe.upd {t t' : Nat → V} (h : VLe t t') {d : Nat} {v v' : V} (hv : le1 v v') : VLe (upd1 t d v) (upd1 t' d v') := by
  intro i
  unfold upd1
  split
  · exact hv
  · exact h i
theorem VLe.ev {t t' : Nat → V} {σ : List V} (h : VLe t t') (x : Operand) : le1 (Ms.ev ⟨t, σ⟩ x) (Ms.ev ⟨t', σ⟩ x) := by
  cases x with
  | tmp i => exact h i
  | _ => exact .inl rfl

theorem qop_le {P : Program} {σ : List V} {t t' : Nat → V} {op : Op} {K : V → Prop} (h : VLe t t') (hl : ∀ x ∈ op.operands, Ms.ev ⟨t', σ⟩ x ≠ .dead) (hq : qop0 P σ (Ms.ev ⟨t', σ⟩) op K) : qop0 P σ (Ms.ev ⟨t, σ⟩) op K :=
  qop0_congr (fun x hx => ((h.ev (σ := σ) x).resolve_right fun e => hl x hx e.1).symm) hq

section head
variable {P : Program} {E : Env}

theorem putH_v {s s' : St} {d : Option Nat} {y : Sl} {t : Nat → V} {K : (Nat → V) → Prop} (hp : s.putH E.h d y = some s') (ht : VLe t s.den.t) (hK : ∀ t', VLe t' s'.den.t → (∀ i, d ≠ some i → t' i = t i) → (∀ e, d = some e → y.own = false → tOwn (t' e) = false) → K t') : QK E.h d t K (y.v s.r) := by
  unfold St.putH at hp
  split at hp
  · cases hp
  · rename_i d
    cases hb : Nat.blt d E.h.n with
    | false => rw [hb] at hp; cases hp
    | true =>
      rw [hb] at hp
      simp only [cond_true] at hp
      have hfz : ∀ v : V, tOwn (frz v) = false := by
        intro v
        induction v with
        | many t n f ih => show ((List.range n).any fun k => tOwn (frz (f k))) = false; rw [List.any_eq_false]; intro k _; rw [ih k]; simp
        | nd => rfl
        | _ => rfl
      refine ⟨Nat.le_of_ble_eq_true hb, hK _ ?_ (fun i hi => if_neg fun e => hi (by rw [e])) fun e he ho => ?_⟩
      rotate_left
      · cases he
        unfold upd1
        rw [if_pos rfl]
        split
        · exact hfz _
        · rw [Sl.own_v]; exact ho
      cases hf : E.h.fz.contains d with
      | true =>
        rw [hf] at hp
        simp only [cond_true] at hp
        split at hp
        · rename_i y' hy
          cases hp
          simp only [if_true]
          rw [Sl.frz_v hy]
          show VLe _ (fun i => (updT s.t d y' i).v s.r)
          rw [updT_v]
          exact ht.upd (.inl rfl)
        · cases hp
      | false =>
        rw [hf] at hp
        simp only [cond_false, Option.some.injEq] at hp
        subst hp
        simp only [Bool.false_eq_true, if_false]
        show VLe _ (fun i => (updT s.t d y i).v s.r)
        rw [updT_v]
        exact ht.upd (.inl rfl)
theorem putH_r {s s' : St} {d : Option Nat} {y : Sl} (hp : s.putH E.h d y = some s') : s'.r = s.r ∧ ∃ e, d = some e ∧ ∀ i, i ≠ e → s'.t i = s.t i := by
  unfold St.putH at hp
  split at hp
  · cases hp
  · rename_i d
    have key : ∀ y' : Sl, ∀ i, i ≠ d → updT s.t d y' i = s.t i := fun y' i hi => by
      unfold updT
      cases hx : Nat.beq i d with
      | false => rfl
      | true => exact absurd (Nat.eq_of_beq_eq_true hx) hi
    cases hb : Nat.blt d E.h.n with
    | false => rw [hb] at hp; cases hp
    | true =>
      rw [hb] at hp
      simp only [cond_true] at hp
      cases hf : E.h.fz.contains d with
      | true =>
        rw [hf] at hp
        simp only [cond_true] at hp
        split at hp
        · cases hp; exact ⟨rfl, d, rfl, key _⟩
        · cases hp
      | false =>
        rw [hf] at hp
        simp only [cond_false, Option.some.injEq] at hp
        subst hp
        exact ⟨rfl, d, rfl, key _⟩

theorem noDst_cons {o : Oper} {g : List Oper} {d : Nat} (h : noDst (o :: g) d = true) : o.dst ≠ some d ∧ noDst g d = true := by
  have hc : noDst (o :: g) d = ((match o.dst with
    | some e => !Nat.beq e d
    | none => true) && noDst g d) := rfl
  rw [hc, Bool.and_eq_true] at h
  refine ⟨fun hd => ?_, h.2⟩
  rw [hd] at h
  have := h.1
  simp only [Nat.beq_refl, Bool.not_true] at this
  cases this


theorem getD_setV {l : List V} {c k : Nat} : (l.set c .dead).getD k .dead = if k = c then .dead else l.getD k .dead := by
  by_cases h : k = c
  · subst h
    rw [if_pos rfl]
    by_cases hl : k < l.length
    · simp [hl]
    · rw [List.set_eq_of_length_le (by omega), List.getD_eq_getElem?_getD, List.getElem?_eq_none (by omega)]; rfl
  · rw [if_neg h, getD_set_ne' (Ne.symm h)]
/-- What is taken, in the small machine. -/
theorem mvF_v {E : Env} {ops : Array Oper} {s : St} {o : Oper} {y d : Nat} {u z : Sl} {t : Nat → V} (ht : VLe t s.den.t) (h : mvF E ops s o = some (y, u, d, z)) :
    o.dst = some d ∧ d < E.h.n ∧ E.h.fz.contains d = false ∧ ∃ ys, (∀ p ∈ ys, takeB ops o p = true) ∧ mq t o ys (z.v s.r) ∧ VLe (upd1 (killM ys t) d (z.v s.r)) (St.den ⟨updT (updT s.t y u) d z, s.r⟩).t ∧
      ∃ e ∈ o.after, Region.binds .any e = true ∧ dstOf ops e.on = some y := by
  have own : ∀ y, (s.t y).own = true → t y = s.den.t y := by
    intro y hy
    rcases ht y with e | e
    · exact e
    · have h5 : tOwn (s.den.t y) = (s.t y).own := Sl.own_v (s.t y)
      rw [e.1, hy] at h5
      cases h5
  have vle : ∀ ys (V0 : V), (∀ x, killM ys t x = if x = y then V0 else t x) → le1 V0 (u.v s.r) → VLe (upd1 (killM ys t) d (z.v s.r)) (St.den ⟨updT (updT s.t y u) d z, s.r⟩).t := by
    intro ys V0 hk hu
    show VLe _ (fun i => (updT (updT s.t y u) d z i).v s.r)
    rw [updT_v]
    refine VLe.upd ?_ (.inl rfl)
    rw [updT_v]
    intro i
    rw [hk]
    unfold upd1
    split
    · exact hu
    · exact ht i
  have kM : ∀ (y : Nat) (tk : Tk) x, killM [(y, tk)] t x = if x = y then kapp tk (t y) else t x := by
    intro y tk x
    unfold killM
    by_cases hx : x = y
    · subst hx
      rw [if_pos rfl]
      show kap1 (if x = x then some tk else none) _ = _
      rw [if_pos rfl]; rfl
    · rw [if_neg hx]
      show kap1 (if y = x then some tk else none) _ = _
      rw [if_neg (Ne.symm hx)]; rfl
  have edge : ∀ y, mvB ops o y = true → ∃ e ∈ o.after, Region.binds .any e = true ∧ dstOf ops e.on = some y := by
    intro y hy
    unfold mvB at hy
    rw [Bool.and_eq_true] at hy
    exact edge_of hy.2
  have whole : ∀ (y' d' : Nat), (o.op = .assign (.tmp y') ∨ o.op = .move (.tmp y')) → o.dst = some d' → (bif (s.t y').own && Nat.blt d' E.h.n && !E.h.fz.contains d' && mvB ops o y' then some (y', Sl.one .dead, d', s.t y') else none) = some (y, u, d, z) →
      o.dst = some d ∧ d < E.h.n ∧ E.h.fz.contains d = false ∧ ∃ ys, (∀ p ∈ ys, takeB ops o p = true) ∧ mq t o ys (z.v s.r) ∧ VLe (upd1 (killM ys t) d (z.v s.r)) (St.den ⟨updT (updT s.t y u) d z, s.r⟩).t ∧
      ∃ e ∈ o.after, Region.binds .any e = true ∧ dstOf ops e.on = some y := by
    intro y' d' hop hdst h
    cases hb : ((s.t y').own && Nat.blt d' E.h.n && !E.h.fz.contains d' && mvB ops o y') with
    | false => rw [hb] at h; cases h
    | true =>
      rw [hb] at h
      simp only [cond_true, Option.some.injEq, Prod.mk.injEq] at h
      obtain ⟨rfl, rfl, rfl, rfl⟩ := h
      simp only [Bool.and_eq_true, Bool.not_eq_true'] at hb
      obtain ⟨⟨⟨h1, h2⟩, h3⟩, h4⟩ := hb
      exact ⟨hdst, Nat.le_of_ble_eq_true h2, h3, [(y', .all)], fun p hp => by rw [List.mem_singleton.1 hp]; exact h4, .inl ⟨y', hop, rfl, (own y' h1).symm⟩, vle _ .dead (fun x => kM y' .all x) (.inl rfl), edge y' h4⟩
  unfold mvF at h
  split at h
  · rename_i y' d' hop hdst
    exact whole y' d' (.inl hop) hdst h
  · rename_i y' d' hop hdst
    exact whole y' d' (.inr hop) hdst h
  · rename_i y' c d' hop hdst
    split at h
    case h_2 => cases h
    rename_i l hl
    split at h
    case h_2 => cases h
    rename_i q hq
    split at h
    case h_2 => cases h
    rename_i z' hz
    cases hb : (z'.own && Nat.blt d' E.h.n && !E.h.fz.contains d' && exB ops o y' c) with
    | false => rw [hb] at h; cases h
    | true =>
      rw [hb] at h
      simp only [cond_true, Option.some.injEq, Prod.mk.injEq] at h
      obtain ⟨rfl, rfl, rfl, rfl⟩ := h
      simp only [Bool.and_eq_true, Bool.not_eq_true'] at hb
      obtain ⟨⟨⟨h1, h2⟩, h3⟩, h4⟩ := hb
      obtain ⟨hc, hq'⟩ := List.getElem?_eq_some_iff.1 hq
      -- the part's value
      have hzv : z'.v s.r = (if q.1 then mkMany (q.2.map (Cl.v s.r)) else (q.2.map (Cl.v s.r)).getD 0 .dead) := by
        obtain ⟨b, m⟩ := q
        cases b with
        | true => cases hz; rfl
        | false => cases m with
          | nil => cases hz
          | cons a m => cases hz; rfl
      obtain ⟨L, hL⟩ : ∃ L : List V, L = l.map fun p => if p.1 then mkMany (p.2.map (Cl.v s.r)) else (p.2.map (Cl.v s.r)).getD 0 .dead := ⟨_, rfl⟩
      have hLc : L.getD c .dead = z'.v s.r := by
        rw [hL, hzv]
        simp [List.getElem?_map, hq]
      have hcL : c < L.length := by rw [hL]; simpa using hc
      have hden : s.den.t y' = tupV L := by
        show (s.t y').v s.r = _
        rw [hl, hL]; rfl
      have hown : (s.t y').own = true := by
        have h5 : tOwn (s.den.t y') = (s.t y').own := Sl.own_v (s.t y')
        rw [← h5, hden]
        have h6 : tOwn (z'.v s.r) = true := by rw [Sl.own_v]; exact h1
        show tOwn (V.many .tu L.length fun k => L.getD k .dead) = true
        simp only [tOwn]
        rw [List.any_eq_true]
        exact ⟨c, List.mem_range.2 hcL, by rw [hLc]; exact h6⟩
      have hty := own y' hown
      refine ⟨hdst, Nat.le_of_ble_eq_true h2, h3, [(y', .part c)], fun p hp => by rw [List.mem_singleton.1 hp]; exact h4, .inr ⟨y', c, L.length, fun k => L.getD k .dead, hop, rfl, hty.trans hden, hcL, hLc.symm⟩, vle _ _ (fun x => kM y' (.part c) x) (.inl ?_), ?_⟩
      · rw [hty, hden]
        show killC c (V.many .tu L.length fun k => L.getD k .dead) = tupV ((l.set c (false, [])).map fun p => if p.1 then mkMany (p.2.map (Cl.v s.r)) else (p.2.map (Cl.v s.r)).getD 0 .dead)
        rw [List.map_set, ← hL]
        show V.many _ _ _ = V.many _ (L.set c V.dead).length _
        rw [List.length_set]
        congr 1
        funext k
        exact getD_setV.symm
      · unfold exB at h4
        rw [Bool.and_eq_true] at h4
        exact edge_of h4.2
  · cases h
/-- What is built or stored, in the small machine. -/
theorem lqF_v {P : Program} {E : Env} (hE : EOK P E) {ops : Array Oper} {s : St} {o : Oper} {js : List Nat} {pu ds : Option (Nat × Sl)} {t : Nat → V} (ht : VLe t s.den.t) (h : lqF E ops s o = some (js, pu, ds)) :
    ∃ ys r, (∀ p ∈ ys, takeB ops o p = true) ∧ notEx o.op = true ∧ LQ P E.h.n s.den.σ o t ys r ∧ VLe (updD o.dst r (killM ys t)) (St.den ⟨setO ds (setO pu (deadL js s.t)), s.r⟩).t ∧
      (∀ i, noDst ops.toList i = true → o.dst ≠ some i → setO ds (setO pu (deadL js s.t)) i = s.t i) := by
  have own : ∀ y, tOwn (t y) = (s.t y).own := by
    intro y
    have h5 : tOwn (s.den.t y) = (s.t y).own := Sl.own_v (s.t y)
    rcases ht y with e | ⟨e1, e2⟩
    · rw [e]; exact h5
    · rw [e1] at h5; rw [e2, ← h5]; rfl
  have hev : ∀ x, s.den.ev x ≠ .dead → Ms.ev ⟨t, s.den.σ⟩ x = s.den.ev x := fun x hx => ((ht.ev (σ := s.den.σ) x).resolve_right fun e => hx e.1)
  have edge : ∀ y, mvB ops o y = true → ∃ e ∈ o.after, Region.binds .any e = true ∧ dstOf ops e.on = some y := by
    intro y hy
    unfold mvB at hy
    rw [Bool.and_eq_true] at hy
    exact edge_of hy.2
  have notW : ∀ y i, noDst ops.toList i = true → mvB ops o y = true → i ≠ y := by
    rintro y i hn hy rfl
    obtain ⟨e, _, _, hed⟩ := edge i hy
    unfold dstOf at hed
    rw [Option.bind_eq_some_iff] at hed
    obtain ⟨ok, hok, hokd⟩ := hed
    have hmem : ok ∈ ops.toList := by
      rw [← Array.getElem?_toList] at hok
      exact List.mem_of_getElem? hok
    have : noDst [ok] i = true := by
      unfold noDst at hn ⊢
      rw [List.all_eq_true] at hn ⊢
      exact fun o ho => hn o (by rw [List.mem_singleton.1 ho]; exact hmem)
    exact (noDst_cons this).1 hokd
  have deadN : ∀ (js : List Nat) i, (∀ y ∈ js, mvB ops o y = true) → noDst ops.toList i = true → deadL js s.t i = s.t i := by
    intro js i hj hn
    unfold deadL
    have : js.contains i = false := by
      cases hc : js.contains i with
      | false => rfl
      | true => exact absurd rfl (notW i i hn (hj i (by simpa using hc)))
    rw [this]; rfl
  have kill : ∀ (js : List Nat) (xs : List Operand), xs.map (ownY t) = xs.map (ownS s) → js = jsO (xs.map (ownS s)) → VLe (killM ((taken t xs).map fun y => (y, .all)) t) (fun i => (deadL js s.t i).v s.r) := by
    intro js xs hx hj i
    rw [killM_all, taken_jsO hx, ← hj]
    show le1 _ ((bif js.contains i then Sl.one Cl.dead else s.t i).v s.r)
    by_cases hi : i ∈ js
    · have : js.contains i = true := by simpa using hi
      rw [if_pos hi, this]; exact .inl rfl
    · have : js.contains i = false := by simpa using hi
      rw [if_neg hi, this]; exact ht i
  unfold lqF at h
  split at h
  case h_4 => cases h
  · -- a struct
    rename_i ty ps d hop hdst
    obtain ⟨xs, hxs⟩ : ∃ xs, xs = ps.toList.map (·.2) := ⟨_, rfl⟩
    rw [← hxs] at h
    have hmap := ownS_v own xs
    cases hb : (apartO (xs.map (ownS s)) && (match jsO (xs.map (ownS s)) with
      | [] => false
      | a :: l => (a :: l).all (mvB ops o)) && Nat.blt d E.h.n) with
    | false => rw [hb] at h; cases h
    | true =>
    rw [hb] at h
    simp only [cond_true] at h
    simp only [Bool.and_eq_true] at hb
    obtain ⟨⟨h1, h2⟩, h3⟩ := hb
    have h3 : d < E.h.n := Nat.le_of_ble_eq_true h3
    have hmv : ∀ y ∈ jsO (xs.map (ownS s)), mvB ops o y = true := by
      intro y hy
      split at h2
      · cases h2
      · rename_i a l e; rw [e] at hy; exact List.all_eq_true.1 h2 y hy
    split at h
    case h_2 => cases h
    rename_i i hi
    cases hag : i.agg with
    | false => rw [hag] at h; cases h
    | true =>
    rw [hag] at h
    simp only [cond_true] at h
    split at h
    case h_2 => cases h
    rename_i l hl
    cases h
    obtain ⟨k1, k2⟩ := tFillO_v (ev := Ms.ev ⟨t, s.den.σ⟩) _ _ _ (fun p _ => hev p.2) hl
    rw [zeroB_v] at k2
    have hbi := hE.Θ.bd hi
    rw [hag] at hbi
    refine ⟨_, _, fun p hp => ?_, by rw [hop]; rfl, LQ_build hop hdst h3 hbi (by rw [← hxs, hmap]; exact h1) k1 k2, ?_, fun i hn hd => ?_⟩
    · rw [← hxs, taken_jsO hmap] at hp
      obtain ⟨y, hy, rfl⟩ := List.mem_map.1 hp
      exact hmv y hy
    · rw [hdst, ← hxs]
      show VLe (upd1 _ d (mkMany (l.map (Cl.v s.r)))) (fun i => (updT (deadL _ s.t) d (.agg l) i).v s.r)
      rw [updT_v]
      exact (kill _ xs hmap rfl).upd (.inl rfl)
    · show updT (deadL _ s.t) d _ i = _
      unfold updT
      rw [beq_ne fun e => hd (by rw [hdst, e])]
      exact deadN _ i hmv hn
  · -- a slice's literal
    rename_i ty n ps d hop hdst
    obtain ⟨xs, hxs⟩ : ∃ xs, xs = ps.toList.map (·.2) := ⟨_, rfl⟩
    rw [← hxs] at h
    have hmap := ownS_v own xs
    cases hb : (apartO (xs.map (ownS s)) && (match jsO (xs.map (ownS s)) with
      | [] => false
      | a :: l => (a :: l).all (mvB ops o)) && Nat.blt d E.h.n) with
    | false => rw [hb] at h; cases h
    | true =>
    rw [hb] at h
    simp only [cond_true] at h
    simp only [Bool.and_eq_true] at hb
    obtain ⟨⟨h1, h2⟩, h3⟩ := hb
    have h3 : d < E.h.n := Nat.le_of_ble_eq_true h3
    have hmv : ∀ y ∈ jsO (xs.map (ownS s)), mvB ops o y = true := by
      intro y hy
      split at h2
      · cases h2
      · rename_i a l e; rw [e] at hy; exact List.all_eq_true.1 h2 y hy
    split at h
    case h_2 => cases h
    rename_i j hj
    obtain ⟨e, hsl, _⟩ := elemOf hE.Θ hj
    cases hb2 : (Nat.blt 0 j.ty.w && Nat.ble (n * j.ty.w) 16777216) with
    | false => rw [hb2] at h; cases h
    | true =>
    rw [hb2] at h
    simp only [cond_true] at h
    simp only [Bool.and_eq_true] at hb2
    have hw := blt0 hb2.1
    have hnw := Nat.le_of_ble_eq_true hb2.2
    split at h
    case h_2 => cases h
    rename_i l hl
    cases hk : l.all Cl.keep with
    | false => rw [hk] at h; cases h
    | true =>
    rw [hk] at h
    simp only [cond_true] at h
    split at h
    case h_2 => cases h
    rename_i zs hzs
    cases h
    obtain ⟨k1, k2⟩ := tFillO_v (ev := Ms.ev ⟨t, s.den.σ⟩) _ _ _ (fun p _ => hev p.2) hl
    rw [repC_v s.r j.ty n hw] at k2
    obtain ⟨p1, p2, p3⟩ := packN_v s.r n _ zs hzs
    have hsub : Sub (.nd true true j.ty.w n fun i k => (l.map (Cl.v s.r)).getD (i * j.ty.w + k) .dead) (cV (.sl j.ty) (j.ty.dep + 1) zs) := by
      show Sub _ (V.nd true true j.ty.w zs.length _)
      rw [p1]
      refine ⟨_, rfl, fun i k hi hk => ?_⟩
      have := p3 i k hi hk
      rw [List.map_map] at this
      have e : (Cl.v s.r ∘ fit j.ty.dep) = Cl.v s.r := funext fun y => (fitO_v _ s.r y).1
      rw [e] at this
      exact this
    refine ⟨_, _, fun p hp => ?_, by rw [hop]; rfl, (LQ_buildSlice hop hdst h3 hsl hw hnw (by rw [← hxs, hmap]; exact h1) k1 k2 ?_).sub (fun _ _ => Sub.refl _) hsub, ?_, fun i hn hd => ?_⟩
    · rw [← hxs, taken_jsO hmap] at hp
      obtain ⟨y, hy, rfl⟩ := List.mem_map.1 hp
      exact hmv y hy
    · intro v hv
      obtain ⟨y, hy, rfl⟩ := List.mem_map.1 hv
      exact (keep_v (List.all_eq_true.1 hk y hy)).1
    · rw [hdst, ← hxs]
      show VLe (upd1 _ d _) (fun i => (updT (deadL _ s.t) d _ i).v s.r)
      rw [updT_v]
      exact (kill _ xs hmap rfl).upd (.inl rfl)
    · show updT (deadL _ s.t) d _ i = _
      unfold updT
      rw [beq_ne fun e => hd (by rw [hdst, e])]
      exact deadN _ i hmv hn
  · -- a store
    rename_i ty p x hop hdst
    split at h
    case h_2 => cases h
    rename_i lp l i hp hl hi
    cases hb : (mvB ops o p && Nat.blt p E.h.n && Nat.beq lp.length i.ty.w && Nat.beq l.length i.ty.w && l.all Cl.keep && (jsO ([x].map (ownS s))).all (mvB ops o) && notT p x) with
    | false => rw [hb] at h; cases h
    | true =>
    rw [hb] at h
    simp only [cond_true, Option.some.injEq, Prod.mk.injEq] at h
    obtain ⟨rfl, rfl, rfl⟩ := h
    simp only [Bool.and_eq_true] at hb
    obtain ⟨⟨⟨⟨⟨⟨h1, h2⟩, h3⟩, h4⟩, h5⟩, h6⟩, h7⟩ := hb
    have h2 : p < E.h.n := Nat.le_of_ble_eq_true h2
    have h3 := Nat.eq_of_beq_eq_true h3
    have h4 := Nat.eq_of_beq_eq_true h4
    obtain ⟨y, hy, hyl⟩ := Option.bind_eq_some_iff.1 hl
    obtain ⟨g1, g2, g3⟩ := cellsO_v (r := s.r) hyl
    have hx : Ms.ev ⟨t, s.den.σ⟩ x = y.v s.r := by
      rw [← ev_v hy]
      refine hev x ?_
      rw [ev_v hy]
      intro e
      rw [e] at g1
      cases g1
    have htp : t p = objL true (lp.map Cl.v0) := by
      have e : s.den.t p = objL true (lp.map Cl.v0) := by show (s.t p).v s.r = _; rw [hp]; rfl
      rcases ht p with h | ⟨h, _⟩
      · rw [h, e]
      · rw [e] at h; cases h
    have hxp : x ≠ .tmp p := by
      rintro rfl
      have h7 : (!Nat.beq p p) = true := h7
      rw [Nat.beq_refl] at h7
      cases h7
    have hmap := ownS_v own [x]
    have hlv : l.map (Cl.v s.r) = l.map Cl.v0 := List.map_congr_left fun c hc => (keep_v (List.all_eq_true.1 h5 c hc)).2
    have hmv : ∀ y ∈ jsO ([x].map (ownS s)), mvB ops o y = true := List.all_eq_true.1 h6
    have hti := hE.Θ.ty hi
    have hlq := LQ_store (P := P) (N := E.h.n) (σ := s.den.σ) (t := t) hop hdst hti htp (by simpa using h3) h2 hxp (by rw [hx]; exact g1) (by rw [hx, g2]; simpa using h4)
      (by
        rw [hx, g2]
        intro v hv
        obtain ⟨c, hc, rfl⟩ := List.mem_map.1 hv
        exact (keep_v (List.all_eq_true.1 h5 c hc)).1)
      (by
        rw [hx, g2]
        intro v hv
        obtain ⟨c, hc, rfl⟩ := List.mem_map.1 hv
        exact g3 c hc)
    rw [hx, g2, hlv] at hlq
    have hnp : p ∉ taken t [x] := by
      intro hm
      rw [taken_jsO hmap] at hm
      cases x with
      | tmp z =>
        have hz : z ≠ p := fun e => hxp (by rw [e])
        have hm : p ∈ jsO [bif (s.t z).own then some z else none] := hm
        cases ho : (s.t z).own with
        | true => rw [ho] at hm; exact hz (List.mem_singleton.1 hm).symm
        | false => rw [ho] at hm; cases hm
      | const v => cases hm
      | global g => cases hm
      | func f => cases hm
    have hsub : Sub (objL true (l.map Cl.v0)) (objL true ((nrmL lp l).map Cl.v0)) := by
      unfold objL
      have e : ((nrmL lp l).map Cl.v0).length = (l.map Cl.v0).length := by simp [nrmL_len]
      rw [e]
      refine ⟨_, rfl, fun i k hi hk => ?_⟩
      obtain rfl : i = 0 := by omega
      exact nrmL_v lp l k
    refine ⟨(p, .put (objL true ((nrmL lp l).map Cl.v0))) :: (taken t [x]).map fun y => (y, .all), .dead, fun q hq => ?_, by rw [hop]; rfl, hlq.sub (fun z v => ?_) (Sub.refl _), ?_, fun i hn hd => ?_⟩
    · rcases List.mem_cons.1 hq with rfl | hq
      · exact h1
      · rw [taken_jsO hmap] at hq
        obtain ⟨y, hy, rfl⟩ := List.mem_map.1 hq
        exact hmv y hy
    · by_cases hz : z = p
      · subst hz; rw [lookM_eq, lookM_eq]; exact hsub
      · rw [lookM_ne hz, lookM_ne hz]; exact Sub.refl _
    · rw [hdst]
      show VLe (killM _ t) (fun i => (updT (deadL _ s.t) p (.new (nrmL lp l)) i).v s.r)
      rw [updT_v]
      have hk := kill _ [x] hmap rfl
      intro i
      unfold upd1
      by_cases hi : i = p
      · subst hi
        rw [if_pos rfl]
        unfold killM
        rw [lookM_eq]
        exact .inl rfl
      · rw [if_neg hi]
        have := hk i
        unfold killM at this ⊢
        rw [lookM_ne hi]
        exact this
    · show updT (deadL _ s.t) p _ i = _
      unfold updT
      rw [beq_ne (notW p i hn h1)]
      exact deadN _ i hmv hn

theorem own_le {s : St} {t : Nat → V} (ht : VLe t s.den.t) (y : Nat) : tOwn (t y) = (s.t y).own := by
  have h5 : tOwn (s.den.t y) = (s.t y).own := Sl.own_v (s.t y)
  rcases ht y with e | ⟨e1, e2⟩
  · rw [e]; exact h5
  · rw [e1] at h5; rw [e2, ← h5]; rfl
theorem mv_notW {ops : Array Oper} {o : Oper} {y i : Nat} (hn : noDst ops.toList i = true) (hy : mvB ops o y = true) : i ≠ y := by
  rintro rfl
  unfold mvB at hy
  rw [Bool.and_eq_true] at hy
  obtain ⟨e, _, _, hed⟩ := edge_of hy.2
  unfold dstOf at hed
  rw [Option.bind_eq_some_iff] at hed
  obtain ⟨ok, hok, hokd⟩ := hed
  have hmem : ok ∈ ops.toList := by
    rw [← Array.getElem?_toList] at hok
    exact List.mem_of_getElem? hok
  have : noDst [ok] i = true := by
    unfold noDst at hn ⊢
    rw [List.all_eq_true] at hn ⊢
    exact fun o ho => hn o (by rw [List.mem_singleton.1 ho]; exact hmem)
  exact (noDst_cons this).1 hokd
theorem deadL_n {ops : Array Oper} {o : Oper} {s : St} {js : List Nat} {i : Nat} (hj : ∀ y ∈ js, mvB ops o y = true) (hn : noDst ops.toList i = true) : deadL js s.t i = s.t i := by
  unfold deadL
  have : js.contains i = false := by
    cases hc : js.contains i with
    | false => rfl
    | true => exact absurd rfl (mv_notW hn (hj i (by simpa using hc)))
  rw [this]; rfl
theorem deadL_v {s : St} {t : Nat → V} (ht : VLe t s.den.t) {js : List Nat} {xs : List Operand} (hx : xs.map (ownY t) = xs.map (ownS s)) (hj : js = jsO (xs.map (ownS s))) : VLe (killM ((taken t xs).map fun y => (y, .all)) t) (fun i => (deadL js s.t i).v s.r) := by
  intro i
  rw [killM_all, taken_jsO hx, ← hj]
  show le1 _ ((bif js.contains i then Sl.one Cl.dead else s.t i).v s.r)
  by_cases hi : i ∈ js
  · have : js.contains i = true := by simpa using hi
    rw [if_pos hi, this]; exact .inl rfl
  · have : js.contains i = false := by simpa using hi
    rw [if_neg hi, this]; exact ht i

def onlyS (s : St) (y : Operand) : St := ⟨fun i => match y with
  | .tmp z => bif Nat.beq i z then s.t i else .one .dead
  | _ => .one .dead, s.r⟩
theorem yElems_read {N : Nat} {s : St} {t : Nat → V} (ht : VLe t s.den.t) {op : Op} {ty : Ty} {x y : Operand} {d : Nat} {ys : List ty.T} (hyo : y ∈ op.operands) (h : yElems s ty (s.ev y) = some (d, ys)) :
    ∀ (C : Ctx) (ρ : Nat → Value) (F : Nat → Nat → Prop) (a : Act) (w : World) (D : Nat → Prop) (T : Nat → Nat → Prop) (t' : Nat → V), (∀ z ∈ opLooks op, t' z = t z) → PR C N s.den.σ ρ F t' a w D T →
      ∃ Fy, ReadN D w ty.w ys.length (fun i k => (tyV ty d (ys.getD i ty.dflt)).getD k .dead) (a.eval y) Fy ∧ (∀ i k c, i < ys.length → k < ty.w → Fy i k c → opF t' T [x, y] 1 c) ∧
        ∀ i k i' k' c, i < ys.length → k < ty.w → i' < ys.length → k' < ty.w → (i ≠ i' ∨ k ≠ k') → Fy i k c → ¬ Fy i' k' c := by
  intro C ρ F a w D T t' hag hp
  have hev : ∀ v, s.ev y = some v → v.v s.r ≠ .dead → Ms.ev ⟨t', s.den.σ⟩ y = v.v s.r := by
    intro v hv hne
    rw [← ev_v hv] at hne ⊢
    have h1 : Ms.ev ⟨t, s.den.σ⟩ y = s.den.ev y := ((ht.ev (σ := s.den.σ) y).resolve_right fun e => hne e.1)
    rw [← h1]
    cases y with
    | tmp z => exact hag z (looks_of hyo)
    | const v => rfl
    | global g => rfl
    | func f => rfl
  unfold yElems at h
  split at h
  · rename_i t1 d1 ys1 hy
    split at h
    case isFalse => cases h
    rename_i e
    subst e
    cases h
    have hv := hev _ hy (by intro e; cases e)
    have hr := hp.opF_rel (xs := [x, y]) (j := 1) (x := y) rfl
    rw [hv] at hr
    exact readN_own (R := RefOK s.den.σ ρ w) hr fun i k hi hk => oneV_tyV _ _ _ k hk
  · rename_i hne
    split at h
    case h_2 => cases h
    rename_i d1 ys1 hy
    cases h
    -- the value's slot owns nothing
    obtain ⟨s2, hs2d⟩ : ∃ s2, s2 = onlyS s y := ⟨_, rfl⟩
    have hσ2 : s2.den.σ = s.den.σ := by rw [hs2d]; rfl
    have hs2 : s2.ev y = s.ev y := by
      rw [hs2d]
      cases y with
      | tmp z =>
        show some (bif Nat.beq z z then s.t z else .one .dead) = some (s.t z)
        rw [Nat.beq_refl]; rfl
      | const v => rfl
      | global g => rfl
      | func f => rfl
    have hdn : ∀ z, y = .tmp z → (t' z = s.den.t z ∧ (s.t z).own = false ∧ z < N) := by
      intro z hz
      subst hz
      have hy : appY s ty s.r.length (some (s.t z)) = some (d, ys, []) := hy
      have hnotown : (s.t z).own = false := by
        unfold appY at hy
        split at hy
        case h_4 => cases hy
        · rename_i e; rw [Option.some.inj e]; rfl
        · rename_i e; rw [Option.some.inj e]; rfl
        · rename_i e; rw [Option.some.inj e]; rfl
      have hlive : (s.t z).v s.r ≠ .dead := by
        unfold appY at hy
        split at hy
        case h_4 => cases hy
        · rename_i e; rw [Option.some.inj e]; intro e'; cases e'
        · rename_i e; rw [Option.some.inj e]; intro e'; cases e'
        · rename_i e; rw [Option.some.inj e]; intro e'; cases e'
      have e1 : t' z = s.den.t z := hev (s.t z) rfl hlive
      refine ⟨e1, hnotown, Nat.lt_of_not_le fun hz => ?_⟩
      have := hp.dd z hz
      rw [e1] at this
      exact hlive this
    have hden : ∀ i, s2.den.t i = .dead ∨ (s2.den.t i = t' i ∧ tOwn (t' i) = false) := by
      intro i
      rw [hs2d]
      cases y with
      | tmp z =>
        show (bif Nat.beq i z then s.t i else .one .dead).v s.r = .dead ∨ _
        by_cases hiz : i = z
        · subst hiz
          obtain ⟨e1, e2, _⟩ := hdn i rfl
          right
          refine ⟨?_, ?_⟩
          · show (bif Nat.beq i i then s.t i else .one .dead).v s.r = _
            rw [Nat.beq_refl, e1]; rfl
          · rw [e1]
            have h5 : tOwn (s.den.t i) = (s.t i).own := Sl.own_v (s.t i)
            rw [h5]; exact e2
        · rw [beq_ne hiz]; exact .inl rfl
      | const v => exact .inl rfl
      | global g => exact .inl rfl
      | func f => exact .inl rfl
    have hcr := hp.cr (t2 := s2.den.t) hden
    have hdd : ∀ i, N ≤ i → s2.den.t i = .dead := by
      intro i hi
      rcases hden i with h | ⟨h, _⟩
      · exact h
      · rw [h]; exact hp.dd i hi
    have hy2 : appY s2 ty s.r.length (s2.ev y) = some (d, ys, []) := by rw [hs2, hs2d]; exact hy
    rw [← hσ2] at hcr
    obtain ⟨⟨Fy, h1, h2, h3⟩, _⟩ := appY_ok (s := s2) hcr hdd hy2
    exact ⟨Fy, h1, fun i k c hi hk hF => (by obtain ⟨j, hj, _⟩ := h2 i k c hi hk hF; cases hj), h3⟩

theorem xElems_v {s : St} {t : Nat → V} (ht : VLe t s.den.t) {ty : Ty} {x : Operand} {d' dx : Nat} {xs : List ty.T} (hxs : xElems ty d' (s.ev x) = some (dx, xs)) :
    Sub (Ms.ev ⟨t, s.den.σ⟩ x) (.nd true true ty.w xs.length fun i k => (tyV ty dx (xs.getD i ty.dflt)).getD k .dead) := by
  have hev : ∀ v, s.ev x = some v → v.v s.r ≠ .dead → Ms.ev ⟨t, s.den.σ⟩ x = v.v s.r := by
    intro v hv hne
    rw [← ev_v hv] at hne ⊢
    exact (ht.ev (σ := s.den.σ) x).resolve_right fun e => hne e.1
  unfold xElems at hxs
  split at hxs
  · rename_i t1 d1 xs1 hx
    split at hxs
    case isFalse => cases hxs
    rename_i e
    subst e
    cases hxs
    rw [hev _ hx (by intro e; cases e)]
    exact Sub.refl _
  · rename_i hx
    cases hxs
    rw [hev _ hx (by intro e; cases e)]
    exact .inr ⟨rfl, _, _, _, rfl⟩
  · cases hxs

/-- An append in the head, in the small machine. -/
theorem appO_v {P : Program} {E : Env} (hE : EOK P E) {ops : Array Oper} {s : St} {o : Oper} {A : AO} {t : Nat → V} (ht : VLe t s.den.t) (h : appO E ops s o = some A) (hA : A.p) :
    ∃ ys r, (∀ p ∈ ys, takeB ops o p = true) ∧ notEx o.op = true ∧ LQ P E.h.n s.den.σ o t ys r ∧ VLe (updD o.dst r (killM ys t)) (St.den ⟨updT (deadL A.js s.t) A.d A.y, s.r⟩).t ∧
      (∀ i, noDst ops.toList i = true → o.dst ≠ some i → updT (deadL A.js s.t) A.d A.y i = s.t i) := by
  unfold appO at h
  split at h
  case h_2 => cases h
  rename_i ty x y d hop hdst
  have hop := appOp_v hop
  split at h
  case h_2 => cases h
  rename_i j hj
  obtain ⟨e, hsl, _⟩ := elemOf hE.Θ hj
  have hmap := ownS_v (own_le ht) [x, y]
  cases hb : (apartO ([x, y].map (ownS s)) && (match jsO ([x, y].map (ownS s)) with
        | [] => false
        | a :: l => (a :: l).all (mvB ops o)) && Nat.blt d E.h.n && Nat.blt 0 j.bytes && Nat.blt 0 j.ty.w) with
  | false => rw [hb] at h; cases h
  | true =>
  rw [hb] at h
  simp only [cond_true] at h
  simp only [Bool.and_eq_true] at hb
  obtain ⟨⟨⟨⟨h1, h2⟩, h3⟩, h4⟩, h5⟩ := hb
  have h3 : d < E.h.n := Nat.le_of_ble_eq_true h3
  have hby := blt0 h4
  have hw := blt0 h5
  have hmv : ∀ y' ∈ jsO ([x, y].map (ownS s)), mvB ops o y' = true := by
    intro y' hy
    split at h2
    · cases h2
    · rename_i a l e; rw [e] at hy; exact List.all_eq_true.1 h2 y' hy
  split at h
  case h_2 => cases h
  rename_i d' ys hys
  split at h
  case h_2 => cases h
  rename_i dx xs hxs
  cases hdk : dOK j.ty d' dx with
  | false => rw [hdk] at h; cases h
  | true =>
  rw [hdk] at h
  cases h
  have hA : xs.length + ys.length ≤ lim47 j.bytes := hA
  have hb : (xs.length + ys.length) * j.bytes ≤ 140737488355328 := by
    rw [Nat.mul_comm]
    exact (Nat.mul_comm _ _ ▸ (Nat.le_div_iff_mul_le hby).1 hA)
  have h63 : xs.length + ys.length ≤ maxLen := by
    have : xs.length + ys.length ≤ (xs.length + ys.length) * j.bytes := Nat.le_mul_of_pos_right _ hby
    simp only [maxLen]; omega
  have hx := xElems_v ht hxs
  have ee : tyV j.ty d' = tyV j.ty dx := funext fun z => tyV_dep _ _ _ z (dOK_min hdk)
  have hread := yElems_read (N := E.h.n) (x := x) ht (op := o.op) (by rw [hop]; simp [Op.operands, Call.operands]) hys
  rw [ee] at hread
  have hlq := LQ_append (P := P) (N := E.h.n) (σ := s.den.σ) (t := t) hop hdst h3 hsl hw hx (by rw [hmap]; exact h1) hread h63 hb
  refine ⟨_, _, fun p hp => ?_, by rw [hop]; rfl, hlq.sub (fun _ _ => Sub.refl _) (catV_sub rfl rfl (fun _ _ _ => rfl) (fun _ _ _ => rfl)), ?_, fun i hn hd => ?_⟩
  · rw [taken_jsO hmap] at hp
    obtain ⟨y', hy, rfl⟩ := List.mem_map.1 hp
    exact hmv y' hy
  · rw [hdst]
    show VLe (upd1 _ d _) (fun i => (updT (deadL _ s.t) d _ i).v s.r)
    rw [updT_v]
    exact (deadL_v ht hmap rfl).upd (.inl rfl)
  · show updT (deadL _ s.t) d _ i = _
    unfold updT
    rw [beq_ne fun e => hd (by rw [hdst, e])]
    exact deadL_n hmv hn

theorem noDst_sub {g l : List Oper} (h : ∀ o ∈ g, o ∈ l) {i : Nat} (hn : noDst l i = true) : noDst g i = true := by
  unfold noDst at hn ⊢
  rw [List.all_eq_true] at hn ⊢
  exact fun o ho => hn o (h o ho)
/-- a group that is passed by -/
theorem skipg {ops : Array Oper} {Kt : (Nat → V) → Prop} {rest : List Oper} {j dj : Nat} {b : Bool} {σ : List V} (hj : (ops[j]?).bind (·.dst) = some dj) : ∀ (g : List Oper) (t : Nat → V), (∀ o ∈ g, o.guard = some (j, !b)) → noDst g dj = true → t dj = .c (.bool b) →
    (∀ t', (∀ i, noDst g i = true → t' i = t i) → (∀ i, noDst g i = false → t' i = .dead) → vq P E.h ops σ rest Kt t') → vq P E.h ops σ (g ++ rest) Kt t := by
  intro g
  induction g with
  | nil => intro t _ _ hb h; exact h t (fun _ _ => rfl) fun i hi => by cases hi
  | cons o g ih =>
    intro t hg hd hb h
    have hgo : o.guard = some (j, !b) := hg o (List.mem_cons_self ..)
    obtain ⟨hd1, hd2⟩ := noDst_cons hd
    rw [List.cons_append]
    unfold vq
    rw [hgo]
    have hgv : gv t ops j = .c (.bool b) := by unfold gv; rw [hj]; exact hb
    simp only [hgv]
    refine ⟨(fun hn => by cases b <;> cases hn), fun _ => ?_⟩
    have hc : ∀ i, noDst (o :: g) i = ((match o.dst with
      | some e => !Nat.beq e i
      | none => true) && noDst g i) := fun _ => rfl
    cases hdo : o.dst with
    | none =>
      refine ih t (fun o ho => hg o (List.mem_cons_of_mem _ ho)) hd2 hb fun t' h1 h2 => h t' (fun i hi => h1 i ?_) fun i hi => h2 i ?_
      · rw [hc, hdo] at hi; simpa using hi
      · rw [hc, hdo] at hi; simpa using hi
    | some d =>
      have hne : dj ≠ d := fun e => hd1 (by rw [hdo, e])
      refine ih (upd1 t d .dead) (fun o ho => hg o (List.mem_cons_of_mem _ ho)) hd2 (by unfold upd1; rw [if_neg hne]; exact hb) fun t' h1 h2 => h t' (fun i hi => ?_) fun i hi => ?_
      · rw [hc, hdo, Bool.and_eq_true] at hi
        rw [h1 i hi.2]
        unfold upd1
        rw [if_neg]
        rintro rfl
        have := hi.1
        simp only [Nat.beq_refl, Bool.not_true] at this
        cases this
      · by_cases hg2 : noDst g i = true
        · rw [h1 i hg2]
          rw [hc, hdo, hg2, Bool.and_true] at hi
          have hdi : d = i := Nat.eq_of_beq_eq_true (by simpa using hi)
          unfold upd1
          rw [if_pos hdi.symm]
        · exact h2 i (by simpa using hg2)


variable (hE : EOK P E)
include hE

/-- one operation of the head -/
theorem stepq {R : Type} {s : St} {o : Oper} {f : Sl → Option St} {K : St → Option R} {z : R} {t : Nat → V} {Kt : (Nat → V) → Prop} (ht : VLe t s.den.t) (h : (tres E s o.type o.op fun y => match f y with
      | some s' => K s'
      | none => none) = some z) (hf : ∀ y s', f y = some s' → s.putX true E.h o.dst y = some s')
    (hK : ∀ s' t' y, s'.r = s.r → (∀ i, o.dst ≠ some i → s'.t i = s.t i ∧ t' i = t i) → VLe t' s'.den.t → f y = some s' → (∀ e, o.dst = some e → y.own = false → tOwn (t' e) = false) → K s' = some z → Kt t') : qop P s.den.σ (Ms.ev ⟨t, s.den.σ⟩) o.op (QK E.h o.dst t Kt) := by
  obtain ⟨hl, y, hq, hy⟩ := tres_sound hE h
  split at hy
  case h_2 => cases hy
  rename_i s' hs'
  have hp := hf y s' hs'
  obtain ⟨hr, e, he, hi⟩ := putH_r hp
  refine qop_le ht hl (qop0_mono hq fun r0 hr0 => ⟨y.v s.r, hr0, putH_v hp ht fun t' ht' h1 h2 => hK s' t' y hr (fun i hn => ⟨hi i fun h => hn (by rw [he, h]), h1 i hn⟩) ht' hs' h2 hy⟩)

/-- a group that is run -/
theorem rung {ops : Array Oper} {z : Bool} {Kt : (Nat → V) → Prop} {rest : List Oper} {j dj : Nat} {b : Bool} (hj : (ops[j]?).bind (·.dst) = some dj) : ∀ (g : List Oper) (s : St) (t : Nat → V) (K : St → Option Bool), (∀ o ∈ g, o.guard = some (j, b)) → noDst g dj = true →
    s.den.t dj = .c (.bool b) → VLe t s.den.t → tgrp E true g s K = some z →
    (∀ s' t', s'.r = s.r → (∀ i, noDst g i = true → s'.t i = s.t i ∧ t' i = t i) → (∀ i, noDst g i = false → tOwn (t' i) = false) → VLe t' s'.den.t → K s' = some z → vq P E.h ops s.den.σ rest Kt t') → vq P E.h ops s.den.σ (g ++ rest) Kt t := by
  intro g
  induction g with
  | nil => intro s t K _ _ hb ht h hK; exact hK s t rfl (fun _ _ => ⟨rfl, rfl⟩) (fun i hi => by cases hi) ht h
  | cons o g ih =>
    intro s t K hg hd hb ht h hK
    have hgo : o.guard = some (j, b) := hg o (List.mem_cons_self ..)
    obtain ⟨hd1, hd2⟩ := noDst_cons hd
    unfold tgrp at h
    rw [List.cons_append]
    unfold vq
    rw [hgo]
    have hgv : gv t ops j = .c (.bool b) := by
      unfold gv; rw [hj]
      rcases ht dj with e | e
      · rw [← hb]; exact e
      · rw [hb] at e; cases e.1
    simp only [hgv]
    refine ⟨fun _ => stepq hE (f := fun y => bif y.own then none else s.putX true E.h o.dst y) (K := fun s' => tgrp E true g s' K) ht h (fun y s' hy => ?_) fun s' t' y hr hi ht' hfy ho hy => ?_, (fun hn => by cases b <;> cases hn)⟩
    · cases hyo : y.own with
      | true => rw [hyo] at hy; cases hy
      | false => rw [hyo] at hy; exact hy
    have hyo : y.own = false := by
      cases hyo : y.own with
      | true => rw [hyo] at hfy; cases hfy
      | false => rfl
    have hσ : s'.den.σ = s.den.σ := by show s'.r.map Root.v = s.r.map Root.v; rw [hr]
    rw [← hσ]
    refine ih s' t' K (fun o ho => hg o (List.mem_cons_of_mem _ ho)) hd2 ?_ ht' hy fun s2 t2 h2 h3 h3' h4 h5 => ?_
    · show (s'.t dj).v s'.r = _
      rw [(hi dj hd1).1, hr]; exact hb
    · rw [hσ]
      refine hK s2 t2 (h2.trans hr) (fun i hn => ?_) (fun i hn => ?_) h4 h5
      · obtain ⟨n1, n2⟩ := noDst_cons hn
        exact ⟨(h3 i n2).1.trans (hi i n1).1, (h3 i n2).2.trans (hi i n1).2⟩
      · by_cases hg2 : noDst g i = true
        · rw [(h3 i hg2).2]
          have hc : noDst (o :: g) i = ((match o.dst with
            | some e => !Nat.beq e i
            | none => true) && noDst g i) := rfl
          rw [hc, hg2, Bool.and_true] at hn
          split at hn
          · rename_i e he
            have : e = i := Nat.eq_of_beq_eq_true (by simpa using hn)
            subst this
            exact ho e he hyo
          · cases hn
        · exact h3' i (by simpa using hg2)
/-- The quiet head, typed, is the small machine's. -/
theorem thead_vq {R : Type} {ops : Array Oper} {K : St → Option R} {z : R} {Kt : (Nat → V) → Prop} : ∀ (l : List Seg) (s : St) (t : Nat → V), (∀ o ∈ l.flatMap Seg.ops, o ∈ ops.toList) → (∀ j want g pk, Seg.grp j want g pk ∈ l → ∀ o ∈ g, o.guard = some (j, want)) → VLe t s.den.t →
    trun E true ops l s K = some z → (∀ s' t', s'.r = s.r → (∀ i, noDst ops.toList i = true → s'.t i = s.t i) → VLe t' s'.den.t → K s' = some z → Kt t') → vq P E.h ops s.den.σ (l.flatMap Seg.ops) Kt t := by
  intro l
  induction l with
  | nil => intro s t _ _ ht h hK; exact hK s t rfl (fun _ _ => rfl) ht h
  | cons sg l ih =>
    intro s t hsub hgl ht h hK
    rw [List.flatMap_cons] at hsub
    have hsub1 : ∀ o ∈ sg.ops, o ∈ ops.toList := fun o ho => hsub o (List.mem_append_left _ ho)
    have hsub2 : ∀ o ∈ l.flatMap Seg.ops, o ∈ ops.toList := fun o ho => hsub o (List.mem_append_right _ ho)
    have hgl' : ∀ j want g pk, Seg.grp j want g pk ∈ l → ∀ o ∈ g, o.guard = some (j, want) := fun j want g pk hm => hgl j want g pk (List.mem_cons_of_mem _ hm)
    cases sg with
    | one o =>
      unfold trun at h
      split at h
      case h_2 => cases h
      rename_i hg
      rw [List.flatMap_cons]
      show vq P E.h ops s.den.σ (o :: l.flatMap Seg.ops) Kt t
      unfold vq
      rw [hg]
      have nd : ∀ i, noDst ops.toList i = true → o.dst ≠ some i := fun i hn => (noDst_cons (o := o) (g := []) (noDst_sub (g := [o]) (fun o' ho' => hsub1 o' ho') hn)).1
      split at h
      · rename_i y u d z' hmv
        obtain ⟨hdst, hdn, hfz, ys, hys, hmq, hvl, e, he, hb, hed⟩ := mvF_v ht hmv
        refine .inr (.inl ⟨ys, d, z'.v s.r, hdst, hdn, hfz, hys, hmq, ?_⟩)
        refine ih ⟨updT (updT s.t y u) d z', s.r⟩ _ hsub2 hgl' hvl h fun s2 t2 h2 h2' h3 h4 => hK s2 t2 h2 (fun i hn => ?_) h3 h4
        rw [h2' i hn]
        have hid : i ≠ d := fun e => nd i hn (by rw [hdst, e])
        have hiy : i ≠ y := by
          rintro rfl
          unfold dstOf at hed
          rw [Option.bind_eq_some_iff] at hed
          obtain ⟨ok, hok, hokd⟩ := hed
          have hmem : ok ∈ ops.toList := by
            rw [← Array.getElem?_toList] at hok
            exact List.mem_of_getElem? hok
          exact (noDst_cons (o := ok) (g := []) (noDst_sub (g := [ok]) (fun o' ho' => by rw [List.mem_singleton.1 ho']; exact hmem) hn)).1 hokd
        show updT (updT s.t y u) d z' i = s.t i
        unfold updT
        rw [beq_ne hid]
        show (bif Nat.beq i y then _ else s.t i) = s.t i
        rw [beq_ne hiy]; rfl
      split at h
      · rename_i js pu ds hlq
        obtain ⟨ys, r, hys, hne, hq, hvl, hnw⟩ := lqF_v hE ht hlq
        refine .inr (.inr ⟨ys, r, hys, hne, hq, ?_⟩)
        refine ih ⟨setO ds (setO pu (deadL js s.t)), s.r⟩ _ hsub2 hgl' hvl h fun s2 t2 h2 h2' h3 h4 => hK s2 t2 h2 (fun i hn => ?_) h3 h4
        rw [h2' i hn]
        exact hnw i hn (nd i hn)
      split at h
      · rename_i A ha
        have h : @ite _ A.p A.dec (trun E true ops l ⟨updT (deadL A.js s.t) A.d A.y, s.r⟩ K) none = some z := h
        by_cases hA : A.p
        case neg => rw [if_neg hA] at h; cases h
        rw [if_pos hA] at h
        obtain ⟨ys, r, hys, hne, hq, hvl, hnw⟩ := appO_v hE ht ha hA
        refine .inr (.inr ⟨ys, r, hys, hne, hq, ?_⟩)
        refine ih ⟨updT (deadL A.js s.t) A.d A.y, s.r⟩ _ hsub2 hgl' hvl h fun s2 t2 h2 h2' h3 h4 => hK s2 t2 h2 (fun i hn => ?_) h3 h4
        rw [h2' i hn]
        exact hnw i hn (nd i hn)
      refine .inl (stepq hE (f := fun y => s.putX true E.h o.dst y) ht h (fun _ _ h => h) fun s' t' _ hr hi ht' _ _ hy => ?_)
      have hσ : s'.den.σ = s.den.σ := by show s'.r.map Root.v = s.r.map Root.v; rw [hr]
      rw [← hσ]
      exact ih s' t' hsub2 hgl' ht' hy fun s2 t2 h2 h2' h3 h4 => hK s2 t2 (h2.trans hr) (fun i hn => by
        rw [h2' i hn, (hi i (nd i hn)).1]) h3 h4
    | grp j want g pk =>
      have hgg := hgl j want g pk (List.mem_cons_self ..)
      unfold trun at h
      split at h
      case h_2 => cases h
      rename_i dj b d c gd u hgt hpk
      cases hb : (Nat.beq c dj && noDst g dj && !noDst g gd && Nat.blt d E.h.n && !E.h.fz.contains d) with
      | false => rw [hb] at h; cases h
      | true =>
        rw [hb] at h
        simp only [Bool.and_eq_true, Bool.not_eq_true'] at hb
        obtain ⟨⟨⟨⟨h1, h2⟩, h2'⟩, h3⟩, h4⟩ := hb
        have h1 := Nat.eq_of_beq_eq_true h1
        have h3 : d < E.h.n := Nat.le_of_ble_eq_true h3
        subst h1
        simp only [cond_true] at h
        obtain ⟨g1, g2, g3⟩ := gT_v hgt
        cases hv : grpB E true s b want g gd u with
        | none => rw [hv] at h; cases h
        | some v =>
          rw [hv] at h
          simp only [Option.bind_some] at h
          rw [List.flatMap_cons]
          show vq P E.h ops s.den.σ ((g ++ [pk]) ++ l.flatMap Seg.ops) Kt t
          rw [List.append_assoc]
          have htc : t c = .c (.bool b) := by
            rcases ht c with e | e
            · rw [e]; exact g2
            · rw [g2] at e; cases e.1
          -- the choice, and what is behind it
          have hpd : pk.dst = some d := by
            unfold pickOf at hpk
            split at hpk
            case h_2 => cases hpk
            rename_i e1 _ _
            split at hpk
            case h_2 => cases hpk
            cases hpk
            exact e1
          have pick : ∀ (t' : Nat → V), (∀ i, noDst g i = true → le1 (t' i) (s.den.t i)) → (∀ i, noDst g i = false → tOwn (t' i) = false) → t' c = .c (.bool b) →
              (b = want → t' gd = .c (.bool v)) → (b ≠ want → t' gd = .dead ∧ constV u = .c (.bool v)) → tOwn (constV u) = false → vq P E.h ops s.den.σ ([pk] ++ l.flatMap Seg.ops) Kt t' := by
            intro t' ht' hown hc hw hnw hu
            have hgd : tOwn (t' gd) = false := by
              by_cases e : b = want
              · rw [hw e]; rfl
              · rw [(hnw e).1]; rfl
            have key : ∀ x y : Operand, (bif want then x else y) = .tmp gd → (bif want then y else x) = .const u → qPick (t' c) (Ms.ev ⟨t', s.den.σ⟩ x) (Ms.ev ⟨t', s.den.σ⟩ y) (fun r0 => ∃ r, Sub r0 r ∧ QK E.h (some d) t' (vq P E.h ops s.den.σ (l.flatMap Seg.ops) Kt) r) := by
              intro x y hgx hux
              have fin : ∃ r, Sub (.c (.bool v)) r ∧ QK E.h (some d) t' (vq P E.h ops s.den.σ (l.flatMap Seg.ops) Kt) r := by
                refine ⟨_, Sub.refl _, h3, ?_⟩
                simp only [h4, Bool.false_eq_true, if_false]
                have := ih ⟨updT (killD g s.t) d (.one (.c .bool 0 v)), s.r⟩ (upd1 t' d (.c (.bool v))) hsub2 hgl' ?_ h fun s2 t2 h2 h2' h3 h4 => hK s2 t2 h2 (fun i hn0 => by
                  have hn : noDst ((g ++ [pk]) ++ l.flatMap Seg.ops) i = true := noDst_sub hsub hn0
                  unfold noDst at hn
                  rw [List.all_append, List.all_append, Bool.and_eq_true, Bool.and_eq_true] at hn
                  rw [h2' i hn0]
                  show updT (killD g s.t) d (.one (.c .bool 0 v)) i = s.t i
                  have hid : i ≠ d := by
                    rintro rfl
                    have := hn.1.2
                    simp only [List.all_cons, List.all_nil, Bool.and_true, hpd, Nat.beq_refl, Bool.not_true] at this
                    cases this
                  unfold updT
                  rw [beq_ne hid]
                  show killD g s.t i = s.t i
                  rw [killD_t, if_pos (show noDst g i = true from hn.1.1)]) h3 h4
                · exact this
                · show VLe _ (fun i => (updT (killD g s.t) d (.one (.c .bool 0 v)) i).v s.r)
                  rw [updT_v]
                  refine VLe.upd ?_ (.inl rfl)
                  intro i
                  simp only [killD_t]
                  by_cases hn : noDst g i = true
                  · rw [if_pos hn]; exact ht' i hn
                  · rw [if_neg hn]; exact .inr ⟨rfl, hown i (by simpa using hn)⟩
              rw [hc]
              cases want with
              | true =>
                simp only [cond_true] at hgx hux
                subst hgx; subst hux
                refine ⟨hgd, hu, fun e => ?_, fun e => ?_⟩
                · show ∃ r, Sub (t' gd) r ∧ _
                  rw [hw e]; exact fin
                · show ∃ r, Sub (constV u) r ∧ _
                  rw [(hnw (by rw [e]; simp)).2]; exact fin
              | false =>
                simp only [cond_false] at hgx hux
                subst hgx; subst hux
                refine ⟨hu, hgd, fun e => ?_, fun e => ?_⟩
                · show ∃ r, Sub (constV u) r ∧ _
                  rw [(hnw (by rw [e]; simp)).2]; exact fin
                · show ∃ r, Sub (t' gd) r ∧ _
                  rw [hw e]; exact fin
            unfold pickOf at hpk
            split at hpk
            case h_2 => cases hpk
            rename_i d' c' x y e1 e2 e3
            split at hpk
            case h_2 => cases hpk
            rename_i gd' w' hgd' hw'
            cases hpk
            show vq P E.h ops s.den.σ (pk :: l.flatMap Seg.ops) Kt t'
            unfold vq
            rw [e3]
            simp only
            left
            rw [e1]
            show qop0 P s.den.σ _ pk.op _
            rw [e2]
            exact key x y hgd' hw'
          unfold grpB at hv
          split at hv
          case h_2 => cases hv
          rename_i vu hvu
          have hu : constV u = .c (.bool vu) := valB_v hvu
          by_cases hbw : b = want
          · subst hbw
            have hrun : tgrp E true g s (fun s' => bif Nat.beq s'.r.length s.r.length then valB s' (.tmp gd) else none) = some v := by
              cases b <;> exact hv
            refine rung hE g3 g s t _ hgg h2 g2 ht hrun fun s' t' hr hi ho ht' hs' => ?_
            rw [hr, Nat.beq_refl] at hs'
            have hgdv := valB_v hs'
            have hgd2 : t' gd = .c (.bool v) := by
              rcases ht' gd with e | e
              · rw [e]; exact hgdv
              · have : s'.den.t gd = .c (.bool v) := hgdv
                rw [this] at e; cases e.1
            refine pick t' (fun i hn => ?_) ho ?_ (fun _ => hgd2) (fun hn => absurd rfl hn) ?_
            · rw [(hi i hn).2]; exact ht i
            · rw [(hi c h2).2]; exact htc
            · rw [hu]; rfl
          · have hvv : vu = v := by
              cases b <;> cases want <;> first | exact absurd rfl hbw | (cases hv; rfl)
            subst hvv
            refine skipg g3 g t (fun o ho => by rw [hgg o ho]; cases b <;> cases want <;> first | rfl | exact absurd rfl hbw) h2 htc fun t' hi hd => ?_
            refine pick t' (fun i hn => by rw [hi i hn]; exact ht i) (fun i hn => by rw [hd i hn]; rfl) ?_ (fun e => absurd e hbw) (fun _ => ⟨hd gd h2', hu⟩) (by rw [hu]; rfl)
            rw [hi c h2]; exact htc
end head
end Go.Ve

