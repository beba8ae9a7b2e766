/- Regions that draw their order: quiet operations in whatever order, then a tail in order. -/
import Derived.Test.YtkafcpbbcpngdaaVp
import Derived.StillTail
namespace Go.Ve
open RowKit (Below)

theorem qop0_congr {P : Program} {σ : List V} {ev ev' : Operand → V} {op : Op} {K : V → Prop} (h : ∀ x ∈ op.operands, ev x = ev' x) (hq : qop0 P σ ev op K) : qop0 P σ ev' op K := by
  have pairs : ∀ ps : Array (Nat × Operand), (∀ x ∈ (ps.toList.map (·.2)).toArray, ev x = ev' x) → (ps.toList.map fun p => (p.1, ev p.2)) = ps.toList.map fun p => (p.1, ev' p.2) := by
    intro ps hp
    apply List.map_congr_left
    intro p hm
    rw [hp p.2 (by simp only [List.mem_toArray, List.mem_map]; exact ⟨p, hm, rfl⟩)]
  unfold qop0 at hq ⊢
  cases op <;> simp only [Op.operands] at h <;> simp only at hq ⊢ <;> try exact hq
  case call c =>
    obtain ⟨callee, args, ats⟩ := c
    have hm : args.toList.map ev = args.toList.map ev' := List.map_congr_left fun x hx => h x (by simp [Call.operands]; right; simpa using hx)
    cases callee with
    | value f => cases f <;> simp only at hq ⊢ <;> first | exact hq | (rw [← hm]; exact hq)
    | invoke r m => exact hq
    | builtin b => simp only at hq ⊢; rw [← hm]; exact hq
  case build t ps => rw [← pairs ps h]; exact hq
  case buildSlice t n ps => rw [← pairs ps h]; exact hq
  case slice t x lo hi mx =>
    have h1 : lo.map ev = lo.map ev' := by cases lo with | none => rfl | some y => simp; exact h y (by simp)
    have h2 : hi.map ev = hi.map ev' := by cases hi with | none => rfl | some y => simp; exact h y (by simp)
    rw [← h1, ← h2, ← h x (by simp)]; exact hq
  all_goals (simp at h; simp_all)

/-- The value is told by the operation alone. -/
theorem qop0_det {P : Program} {σ : List V} {ev : Operand → V} {op : Op} {K : V → Prop} (hq : qop0 P σ ev op K) : ∃ r, K r ∧ ∀ K' : V → Prop, K' r → qop0 P σ ev op K' := by
  unfold qop0 at hq ⊢
  cases op <;> simp only at hq ⊢ <;> try exact hq.elim
  case move x => exact ⟨_, hq.2, fun K' h' => ⟨hq.1, h'⟩⟩
  case assign x => exact ⟨_, hq.2, fun K' h' => ⟨hq.1, h'⟩⟩
  case pick c x y =>
    unfold qPick at hq ⊢
    split at hq <;> try exact hq.elim
    rename_i b hb
    obtain ⟨h1, h2, h3, h4⟩ := hq
    cases b
    · exact ⟨_, h4 rfl, fun K' h' => ⟨h1, h2, (fun h => by cases h), fun _ => h'⟩⟩
    · exact ⟨_, h3 rfl, fun K' h' => ⟨h1, h2, fun _ => h', (fun h => by cases h)⟩⟩
  case load t x =>
    unfold qLoad at hq ⊢
    split at hq <;> try exact hq.elim
    · split at hq <;> try exact hq.elim
      · exact ⟨_, hq.2, fun K' h' => ⟨hq.1, h'⟩⟩
      · exact ⟨_, hq.2, fun K' h' => ⟨hq.1, h'⟩⟩
      · exact ⟨_, hq.2, fun K' h' => ⟨hq.1, h'⟩⟩
    · split at hq <;> try exact hq.elim
      · exact ⟨_, hq.2, fun K' h' => ⟨hq.1, h'⟩⟩
      · exact ⟨_, hq.2.2, fun K' h' => ⟨hq.1, hq.2.1, h'⟩⟩
      · exact ⟨_, hq.2, fun K' h' => ⟨hq.1, h'⟩⟩
  case fieldAddr t x k =>
    unfold qField at hq ⊢
    split at hq <;> try exact hq.elim
    split at hq <;> try exact hq.elim
    · exact ⟨_, hq.2, fun K' h' => ⟨hq.1, h'⟩⟩
    · exact ⟨_, hq.2, fun K' h' => ⟨hq.1, h'⟩⟩
    · exact ⟨_, hq.2, fun K' h' => ⟨hq.1, h'⟩⟩
  case indexAddr t x i =>
    unfold qIndexAddr at hq ⊢
    split at hq <;> try exact hq.elim
    split at hq <;> try exact hq.elim
    · exact ⟨_, hq.2.2.2, fun K' h' => ⟨hq.1, hq.2.1, hq.2.2.1, h'⟩⟩
    · exact ⟨_, hq.2.2.2, fun K' h' => ⟨hq.1, hq.2.1, hq.2.2.1, h'⟩⟩
  case index t x i =>
    unfold qIndex at hq ⊢
    obtain ⟨h1, hq⟩ := hq
    split at hq <;> try exact hq.elim
    exact ⟨_, hq.2, fun K' h' => ⟨h1, hq.1, h'⟩⟩
  case nilCheck x =>
    unfold qNil at hq ⊢
    split at hq <;> try exact hq.elim
    · exact ⟨_, hq, fun K' h' => h'⟩
    · exact ⟨_, hq, fun K' h' => h'⟩
    · exact ⟨_, hq.2, fun K' h' => ⟨hq.1, h'⟩⟩
  case binOp op t x y yt =>
    unfold qBin at hq ⊢
    split at hq
    · split at hq
      · rename_i h; exact ⟨_, hq.2, fun K' h' => by first | exact ⟨hq.1, h'⟩ | (simp only [h]; exact ⟨hq.1, h'⟩)⟩
      · rename_i h; obtain ⟨z, h1, h2, h3, hK⟩ := hq; exact ⟨z, hK, fun K' h' => by first | exact ⟨z, h1, h2, h3, h'⟩ | (simp only [h]; exact ⟨z, h1, h2, h3, h'⟩)⟩
    · obtain ⟨z, h1, h2, h3, hK⟩ := hq; exact ⟨z, hK, fun K' h' => ⟨z, h1, h2, h3, h'⟩⟩
  case unOp op t x =>
    unfold qUn at hq ⊢
    split at hq <;> try exact hq.elim
    · exact ⟨_, hq, fun K' h' => h'⟩
    · exact ⟨_, hq, fun K' h' => h'⟩
  case convert s d x =>
    unfold qConv at hq ⊢
    split at hq
    · exact ⟨_, hq, fun K' h' => h'⟩
    · exact ⟨_, hq, fun K' h' => h'⟩
    · obtain ⟨z, h1, h2, hK⟩ := hq; exact ⟨z, hK, fun K' h' => ⟨z, h1, h2, h'⟩⟩
  case extract x i =>
    unfold qExtract at hq ⊢
    split at hq <;> try exact hq.elim
    exact ⟨_, hq.2.2, fun K' h' => ⟨hq.1, hq.2.1, h'⟩⟩
  case build t ps =>
    unfold qBuild at hq ⊢
    split at hq <;> try exact hq.elim
    obtain ⟨h1, hq⟩ := hq
    split at hq <;> try exact hq.elim
    rename_i h
    exact ⟨_, hq, fun K' h' => ⟨h1, h'⟩⟩
  case buildSlice t n ps =>
    unfold qBuildSlice at hq ⊢
    split at hq <;> try exact hq.elim
    obtain ⟨h1, h2, hq⟩ := hq
    split at hq <;> try exact hq.elim
    rename_i h
    exact ⟨_, hq.2, fun K' h' => ⟨h1, h2, hq.1, h'⟩⟩
  case alloc t =>
    unfold qAlloc at hq ⊢
    split at hq <;> try exact hq.elim
    exact ⟨_, hq.2, fun K' h' => ⟨hq.1, h'⟩⟩
  case box t x =>
    obtain ⟨h1, h2 | h2⟩ := hq
    · exact ⟨_, h2.2, fun K' h' => ⟨h1, .inl ⟨h2.1, h'⟩⟩⟩
    · exact ⟨_, h2, fun K' h' => ⟨h1, .inr h'⟩⟩
  case makeSlice t l c =>
    unfold qMake at hq ⊢
    split at hq <;> try exact hq.elim
    exact ⟨_, hq.2.2, fun K' h' => ⟨hq.1, hq.2.1, h'⟩⟩
  case slice t x lo hi mx =>
    obtain ⟨h0, hq⟩ := hq
    unfold qSlice at hq ⊢
    split at hq <;> try exact hq.elim
    all_goals
      split at hq <;> try exact hq.elim
      rename_i h1 h2
    · exact ⟨_, hq.2, fun K' h' => ⟨h0, hq.1, h'⟩⟩
    · exact ⟨_, hq.2.2, fun K' h' => ⟨h0, hq.1, hq.2.1, h'⟩⟩
    · exact ⟨_, hq.2.2, fun K' h' => ⟨h0, hq.1, hq.2.1, h'⟩⟩
  case call c =>
    obtain ⟨callee, args, ats⟩ := c
    simp only at hq ⊢
    split at hq
    · obtain ⟨r, h1, h2, hK⟩ := hq; exact ⟨r, hK, fun K' h' => ⟨r, h1, h2, h'⟩⟩
    · unfold qBuiltin at hq ⊢
      split at hq <;> try exact hq.elim
      · obtain ⟨h1, hq⟩ := hq
        unfold qLen at hq ⊢
        split at hq <;> first | exact hq.elim | exact ⟨_, hq, fun K' h' => ⟨h1, h'⟩⟩
      · unfold qMinMax at hq ⊢
        split at hq <;> first | exact hq.elim | exact ⟨_, hq, fun K' h' => h'⟩
      · unfold qMinMax at hq ⊢
        split at hq <;> first | exact hq.elim | exact ⟨_, hq, fun K' h' => h'⟩
    · exact hq.elim

theorem qop_congr {P : Program} {σ : List V} {ev ev' : Operand → V} {op : Op} {K : V → Prop} (h : ∀ x ∈ op.operands, ev x = ev' x) (hq : qop P σ ev op K) : qop P σ ev' op K := qop0_congr h hq
theorem qop_det {P : Program} {σ : List V} {ev : Operand → V} {op : Op} {K : V → Prop} (hq : qop P σ ev op K) : ∃ r, K r ∧ qop P σ ev op (fun r' => r' = r) := by
  obtain ⟨r0, ⟨r, hs, hK⟩, hd⟩ := qop0_det hq
  exact ⟨r, hK, hd _ ⟨r, hs, rfl⟩⟩

theorem qop0_mono {P : Program} {σ : List V} {ev : Operand → V} {op : Op} {K K' : V → Prop} (hq : qop0 P σ ev op K) (h : ∀ r, K r → K' r) : qop0 P σ ev op K' := by
  obtain ⟨r, hK, hd⟩ := qop0_det hq
  exact hd K' (h r hK)
end Go.Ve


namespace Go.Ve
open RowKit (Below)

/-- The quiet head, in the order of the text: what is owned stays in the temporaries. -/
def QK (h : Hint) (d : Option Nat) (t : Nat → V) (K : (Nat → V) → Prop) (r : V) : Prop :=
  match d with
  | some d => d < h.n ∧ K (upd1 t d (if h.fz.contains d then frz r else r))
  | none => False
def skipT (t : Nat → V) (d : Option Nat) : Nat → V :=
  match d with
  | some d => upd1 t d .dead
  | none => t
def vq (P : Program) (h : Hint) (ops : Array Oper) (σ : List V) : List Oper → ((Nat → V) → Prop) → (Nat → V) → Prop
  | [], K, t => K t
  | o :: rest, K, t => match o.guard with
    | none => qop P σ (Ms.ev ⟨t, σ⟩) o.op (QK h o.dst t (vq P h ops σ rest K))
    | some (j, want) => match gv t ops j with
      | .c (.bool b) => (b = want → qop P σ (Ms.ev ⟨t, σ⟩) o.op (QK h o.dst t (vq P h ops σ rest K))) ∧ (b = (!want) → vq P h ops σ rest K (skipT t o.dst))
      | _ => False

def dstOf (ops : Array Oper) (i : Nat) : Option Nat := (ops[i]?).bind (·.dst)

/-- What the head owns gets its numbers. -/
def promA : List (Option Nat) → Ms → Ms
  | [], S => S
  | none :: ds, S => promA ds S
  | some d :: ds, S => if tOwn (S.t d) then promA ds ⟨upd1 S.t d (prom (S.t d) S.σ.length).1, S.σ ++ (prom (S.t d) S.σ.length).2⟩ else promA ds S

/-- The head's operations write their own slots, once, and wait for what they read; the tail comes behind it, in order. -/
def quietOK (ops : Array Oper) (n : Nat) : Bool :=
  decide (n ≤ ops.size) &&
  (List.range n).all (fun i => match ops[i]? with
    | none => false
    | some oi => match oi.dst with
      | none => false
      | some d => !(oi.looksAt ops).contains d && (List.range n).all fun j => j == i || match ops[j]? with
        | none => false
        | some oj => oj.dst != some d && (!(oj.looksAt ops).contains d || Region.waitsFor .any ops j i)) &&
  (List.range ops.size).all (fun j => match ops[j]? with
    | some o => o.after.toList.all fun e => !Region.binds .any e || decide (e.on < j)
    | none => false) &&
  (n == ops.size || (Region.sinkB .any ops n && Region.chainB .any ops n))

structure QOK (ops : Array Oper) (n : Nat) : Prop where
  le : n ≤ ops.size
  dst : ∀ i, i < n → ∃ oi d, ops[i]? = some oi ∧ oi.dst = some d ∧ d ∉ oi.looksAt ops
  ne : ∀ i j d oj, i < n → j < n → i ≠ j → dstOf ops i = some d → ops[j]? = some oj → oj.dst ≠ some d ∧ (d ∈ oj.looksAt ops → ∃ e ∈ oj.after, Region.binds .any e = true ∧ e.on = i)
  back : ∀ j o e, ops[j]? = some o → e ∈ o.after → Region.binds .any e = true → e.on < j
  tail : n = ops.size ∨ (Region.sinkB .any ops n = true ∧ Region.chainB .any ops n = true)

theorem quietOK_spec {ops : Array Oper} {n : Nat} (h : quietOK ops n = true) : QOK ops n := by
  simp only [quietOK, Bool.and_eq_true, decide_eq_true_eq, Bool.or_eq_true, beq_iff_eq] at h
  obtain ⟨⟨⟨h1, h2⟩, h3⟩, h4⟩ := h
  have hd : ∀ i, i < n → ∃ oi d, ops[i]? = some oi ∧ oi.dst = some d ∧ d ∉ oi.looksAt ops ∧ ∀ j, j < n → j ≠ i → ∃ oj, ops[j]? = some oj ∧ oj.dst ≠ some d ∧ (d ∈ oj.looksAt ops → Region.waitsFor .any ops j i = true) := by
    intro i hi
    have := List.all_eq_true.1 h2 i (List.mem_range.2 hi)
    split at this
    · cases this
    · rename_i oi hoi
      split at this
      · cases this
      · rename_i d hd
        simp only [Bool.and_eq_true, Bool.not_eq_true'] at this
        obtain ⟨ha, hb⟩ := this
        refine ⟨oi, d, hoi, hd, by simpa using ha, fun j hj hne => ?_⟩
        have hj2 := List.all_eq_true.1 hb j (List.mem_range.2 hj)
        simp only [Bool.or_eq_true, beq_iff_eq, hne, false_or] at hj2
        split at hj2
        · cases hj2
        · rename_i oj hoj
          simp only [Bool.and_eq_true, bne_iff_ne, ne_eq, Bool.or_eq_true, Bool.not_eq_true'] at hj2
          refine ⟨oj, hoj, hj2.1, fun hm => ?_⟩
          rcases hj2.2 with h | h
          · simp at h; exact absurd hm h
          · exact h
  refine ⟨h1, fun i hi => ?_, fun i j d oj hi hj hij hdi hoj => ?_, fun j o e hj he hb => ?_, h4⟩
  · obtain ⟨oi, d, a, b, c, _⟩ := hd i hi; exact ⟨oi, d, a, b, c⟩
  · obtain ⟨oi, d', hoi, hd', _, hall⟩ := hd i hi
    have : d' = d := by simp [dstOf, hoi, hd'] at hdi; exact hdi
    subst this
    obtain ⟨oj', hoj', g1, g2⟩ := hall j hj (Ne.symm hij)
    have : oj' = oj := Option.some.inj (hoj'.symm.trans hoj)
    subst this
    refine ⟨g1, fun hm => ?_⟩
    obtain ⟨oj2, hoj2, e, he, hb, hon⟩ := Region.waitsFor_spec (g2 hm)
    have : oj2 = oj' := Option.some.inj (hoj2.symm.trans hoj)
    subst this
    exact ⟨e, he, hb, hon⟩
  · have hlt : j < ops.size := (Array.getElem?_eq_some_iff.1 hj).1
    have := List.all_eq_true.1 h3 j (List.mem_range.2 hlt)
    rw [hj] at this
    have := List.all_eq_true.1 this e (by simpa using he)
    simp [hb] at this
    exact this

/-- One operation of the head, as the text's order has it. -/
def StepQ (P : Program) (h : Hint) (ops : Array Oper) (σ : List V) (o : Oper) (t : Nat → V) (r : V) : Prop :=
  ∃ d : Nat, o.dst = some d ∧
    (d < h.n ∧ ((o.guard = none ∨ ∃ j want, o.guard = some (j, want) ∧ gv t ops j = .c (.bool want)) ∧ ∃ r', qop P σ (Ms.ev ⟨t, σ⟩) o.op (fun x => x = r') ∧ r = (if h.fz.contains d then frz r' else r')) ∨
     (∃ j want, o.guard = some (j, want) ∧ gv t ops j = .c (.bool (!want)) ∧ r = .dead))

def runT (ops : Array Oper) (r : Nat → V) (t : Nat → V) : Nat → (Nat → V)
  | 0 => t
  | i + 1 => match dstOf ops i with
    | some d => upd1 (runT ops r t i) d (r i)
    | none => runT ops r t i

theorem vq_trace {P : Program} {h : Hint} {ops : Array Oper} {σ : List V} {t0 : Nat → V} {K : (Nat → V) → Prop} {n : Nat} (hn : n ≤ ops.size) (hq : QOK ops n) : ∀ (k i : Nat) (r : Nat → V), i + k = n →
    vq P h ops σ ((ops.toList.drop i).take k) K (runT ops r t0 i) → (∀ j, j < i → ∀ o, ops[j]? = some o → StepQ P h ops σ o (runT ops r t0 j) (r j)) →
    ∃ r' : Nat → V, (∀ j, j < n → ∀ o, ops[j]? = some o → StepQ P h ops σ o (runT ops r' t0 j) (r' j)) ∧ K (runT ops r' t0 n) := by
  intro k
  induction k with
  | zero =>
    intro i r hi hv hs
    obtain rfl : i = n := by omega
    simp [vq] at hv
    exact ⟨r, hs, hv⟩
  | succ k ih =>
    intro i r hi hv hs
    have hlt : i < ops.toList.length := by simp; omega
    rw [List.drop_eq_getElem_cons hlt, List.take_succ_cons] at hv
    obtain ⟨oi, d, hoi, hd, hnl⟩ := hq.dst i (by omega)
    have he : ops.toList[i] = oi := by
      have := hoi
      rw [← Array.getElem?_toList, List.getElem?_eq_getElem hlt] at this
      exact Option.some.inj this
    rw [he] at hv
    -- go on with the value v at place i
    have go : ∀ v, StepQ P h ops σ oi (runT ops r t0 i) v → vq P h ops σ ((ops.toList.drop (i + 1)).take k) K (upd1 (runT ops r t0 i) d v) → ∃ r' : Nat → V, (∀ j, j < n → ∀ o, ops[j]? = some o → StepQ P h ops σ o (runT ops r' t0 j) (r' j)) ∧ K (runT ops r' t0 n) := by
      intro v hst hv
      have same : ∀ j, j ≤ i → runT ops (fun x => if x = i then v else r x) t0 j = runT ops r t0 j := by
        intro j
        induction j with
        | zero => intro _; rfl
        | succ j ihj =>
          intro hj
          have h1 : j ≠ i := by omega
          simp only [runT, ihj (by omega), h1, if_false]
      refine ih (i + 1) (fun x => if x = i then v else r x) (by omega) ?_ ?_
      · have : runT ops (fun x => if x = i then v else r x) t0 (i + 1) = upd1 (runT ops r t0 i) d v := by
          have hdo : dstOf ops i = some d := by simp [dstOf, hoi, hd]
          simp only [runT, hdo, same i (Nat.le_refl _), if_true]
        rw [this]; exact hv
      · intro j hj o ho
        by_cases hji : j = i
        · subst hji
          have : o = oi := Option.some.inj (ho.symm.trans hoi)
          subst this
          rw [same j (Nat.le_refl _)]
          simpa using hst
        · rw [same j (by omega)]
          simp only [hji, if_false]
          exact hs j (by omega) o ho
    unfold vq at hv
    split at hv
    · rename_i hg
      obtain ⟨r', hK, hdet⟩ := qop_det hv
      rw [hd] at hK
      obtain ⟨hdn, hK⟩ := hK
      exact go _ ⟨d, hd, .inl ⟨hdn, .inl hg, r', hdet, rfl⟩⟩ hK
    · rename_i j want hg
      split at hv
      · rename_i b hb
        by_cases hbw : b = want
        · obtain ⟨r', hK, hdet⟩ := qop_det (hv.1 hbw)
          rw [hd] at hK
          obtain ⟨hdn, hK⟩ := hK
          exact go _ ⟨d, hd, .inl ⟨hdn, .inr ⟨j, want, hg, by rw [hb, hbw]⟩, r', hdet, rfl⟩⟩ hK
        · have hbn : b = (!want) := by cases b <;> cases want <;> simp_all
          have hK := hv.2 hbn
          rw [hd] at hK
          exact go .dead ⟨d, hd, .inr ⟨j, want, hg, by rw [hb, hbn], rfl⟩⟩ hK
      · exact hv.elim

/-- Which operation of the head writes the slot. -/
def owner (ops : Array Oper) (n x : Nat) : Option Nat := (List.range n).find? fun i => dstOf ops i == some x

theorem owner_some {ops : Array Oper} {n x i : Nat} (h : owner ops n x = some i) : i < n ∧ dstOf ops i = some x := by
  unfold owner at h
  have h1 := List.find?_some h
  have h2 := List.mem_of_find?_eq_some h
  exact ⟨List.mem_range.1 h2, by simpa using h1⟩
theorem owner_none {ops : Array Oper} {n x : Nat} (h : owner ops n x = none) : ∀ i, i < n → dstOf ops i ≠ some x := by
  unfold owner at h
  intro i hi he
  have := List.find?_eq_none.1 h i (List.mem_range.2 hi)
  simp [he] at this
theorem owner_of {ops : Array Oper} {n x i : Nat} (hq : QOK ops n) (hi : i < n) (h : dstOf ops i = some x) : owner ops n x = some i := by
  cases ho : owner ops n x with
  | none => exact absurd h (owner_none ho i hi)
  | some j =>
    obtain ⟨hj, hdj⟩ := owner_some ho
    by_cases he : j = i
    · rw [he]
    · obtain ⟨oi, d, hoi, _, _⟩ := hq.dst i hi
      have := (hq.ne j i x oi hj hi he hdj hoi).1
      simp [dstOf, hoi] at h
      exact absurd h this

/-- What the slots hold when the operations 'listed' have been carried out. -/
def pt (ops : Array Oper) (n : Nat) (r : Nat → V) (t0 : Nat → V) (listed : Array Bool) (x : Nat) : V :=
  match owner ops n x with
  | some i => if listed.getD i false then r i else .dead
  | none => t0 x

theorem runT_get {ops : Array Oper} {n : Nat} (hq : QOK ops n) (r t0 : Nat → V) (x : Nat) : ∀ j, j ≤ n → runT ops r t0 j x = match owner ops n x with
    | some i => if i < j then r i else t0 x
    | none => t0 x := by
  intro j
  induction j with
  | zero => intro _; cases owner ops n x <;> simp [runT]
  | succ j ih =>
    intro hj
    obtain ⟨oj, d, hoj, hd, _⟩ := hq.dst j (by omega)
    have hdo : dstOf ops j = some d := by simp [dstOf, hoj, hd]
    simp only [runT, hdo, upd1]
    by_cases hx : x = d
    · subst hx
      rw [owner_of hq (by omega) hdo]
      simp
    · simp only [hx, if_false]
      rw [ih (by omega)]
      cases ho : owner ops n x with
      | none => rfl
      | some i =>
        have : i ≠ j := by
          rintro rfl
          have := (owner_some ho).2
          rw [hdo] at this
          exact hx (Option.some.inj this).symm
        simp only
        by_cases h1 : i < j
        · rw [if_pos h1, if_pos (by omega)]
        · rw [if_neg h1, if_neg (by omega)]

/-- The relation while the head runs. -/
structure PR (C : Ctx) (N : Nat) (σ : List V) (ρ : Nat → Value) (F : Nat → Nat → Prop) (t : Nat → V) (a : Act) (w : World) (D : Nat → Prop) (T : Nat → Nat → Prop) : Prop where
  df : a.defers = []
  sz : a.tmps.size = N
  dd : ∀ x, N ≤ x → t x = .dead
  wr : WRel σ w D ρ F
  tm : ∀ x, x < N → Rel D w (RefOK σ ρ w) (t x) (a.tmps.getD x undef) (T x)
  tD : ∀ x b, T x b → ¬ D b
  tF : ∀ i x b, F i b → ¬ T x b
  tT : ∀ x y b, x ≠ y → T x b → ¬ T y b
  tn : ∀ x b, T x b → C.w0.heap.size ≤ b
  fr : Fr C.w0 w C.W
  Fn : ∀ i b, F i b → C.W b ∨ C.w0.heap.size ≤ b
  D1 : ∀ b, C.D0 b → D b
  D2 : ∀ b, D b → b < C.w0.heap.size → C.D0 b ∨ C.W b
  rt : ∀ i, i < C.m → ρ i = C.ρ0 i
  ml : C.m ≤ σ.length
  tx : ∀ x b, N ≤ x → ¬ T x b

theorem PR.ev {C : Ctx} {N : Nat} {σ : List V} {ρ : Nat → Value} {F : Nat → Nat → Prop} {t : Nat → V} {a : Act} {w : World} {D : Nat → Prop} {T : Nat → Nat → Prop} (h : PR C N σ ρ F t a w D T) (x : Operand) : OpR σ w D ρ F (Ms.ev ⟨t, σ⟩ x) (a.eval x) := by
  have plain : ∀ v cv, Rel D w (RefOK σ ρ w) v cv noF → OpR σ w D ρ F v cv := fun v cv hr => ⟨noF, hr, fun _ h => h.elim, fun _ _ _ h => h⟩
  cases x with
  | tmp y =>
    by_cases hy : y < N
    · exact ⟨T y, h.tm y hy, h.tD y, fun i b hb => h.tF i y b hb⟩
    · refine plain _ _ ?_
      show Rel D w _ (t y) _ noF
      rw [h.dd y (Nat.le_of_not_lt hy)]
      exact fun _ h => h
  | const v => exact plain _ _ (constV_rel v)
  | global g => exact plain _ _ ⟨rfl, rfl, fun _ h => h⟩
  | func f => exact plain _ _ ⟨rfl, rfl, fun _ h => h⟩

theorem PR.gv {C : Ctx} {N : Nat} {σ : List V} {ρ : Nat → Value} {F : Nat → Nat → Prop} {t : Nat → V} {a : Act} {w : World} {D : Nat → Prop} {T : Nat → Nat → Prop} (h : PR C N σ ρ F t a w D T) {ops : Array Oper} {j : Nat} {b : Bool} (hg : Go.Ve.gv t ops j = .c (.bool b)) : yielded ops a.tmps j = some b := by
  unfold Go.Ve.gv at hg
  split at hg
  · rename_i d hd
    have hlt : d < N := by
      rcases Nat.lt_or_ge d N with h' | h'
      · exact h'
      · rw [h.dd d h'] at hg; cases hg
    have h1 := h.tm d hlt
    rw [hg] at h1
    have h2 : d < a.tmps.size := by rw [h.sz]; exact hlt
    have h3 : a.tmps[d]? = some (.bool b) := by
      have := h1.1
      simp [h2] at this ⊢
      exact this
    unfold yielded
    rw [hd]
    simp [h3]
  · cases hg

/-- A slot gets a value. -/
theorem PR.put {C : Ctx} {N : Nat} {σ : List V} {ρ : Nat → Value} {F : Nat → Nat → Prop} {t : Nat → V} {a : Act} {w w' : World} {D D' : Nat → Prop} {T : Nat → Nat → Prop} (h : PR C N σ ρ F t a w D T) {r : V} {v' : Value} {fp : Nat → Prop} {d : Nat} (hB : Below w.heap.size w w') (hr : Rel D' w' (RefOK σ ρ w') r v' fp)
    (hf : ∀ b, fp b → w.heap.size ≤ b) (hd1 : ∀ b, D b → D' b) (hd2 : ∀ b, D' b → D b ∨ w.heap.size ≤ b) (hd3 : ∀ b, D' b → b < w'.heap.size ∧ ¬ fp b) (hdn : d < N) :
    PR C N σ ρ F (upd1 t d r) (a.put (some d) v') w' D' (fun x => if x = d then fp else T x) := by
  have hFlt : ∀ i b, F i b → b < w.heap.size := h.wr.lt
  have hTlt : ∀ x b, T x b → b < w.heap.size := by
    intro x b hb
    by_cases hx : x < N
    · exact Rel.lt _ _ _ (h.tm x hx) b hb
    · exact absurd hb (h.tx x b (Nat.le_of_not_lt hx))
  have wr' : WRel σ w' D' ρ F := by
    have h1 := h.wr.below hB
    refine ⟨fun i hi => Rel.mono hd1 (fun _ _ h => h) _ _ _ (fun _ _ => rfl) (h1.rel i hi), h1.disj, fun i b hb hD => ?_, fun b hb => (hd3 b hb).1, h1.out⟩
    rcases hd2 b hD with h2 | h2
    · exact h1.dD i b hb h2
    · have := hFlt i b hb; omega
  refine ⟨h.df, by rw [put_tmps]; simpa using h.sz, fun x hx => ?_, wr', fun x hx => ?_, fun x b hb => ?_, fun i x b hb hT => ?_, fun x y b hxy h1 h2 => ?_, fun x b hb => ?_, h.fr.below hB, h.Fn, fun b hb => hd1 b (h.D1 b hb), fun b hb hlt => ?_, h.rt, h.ml, fun x b hx hb => ?_⟩
  · have : ¬ x = d := by omega
    simp only [upd1, this, if_false]; exact h.dd x hx
  · have hlt : x < a.tmps.size := by rw [h.sz]; exact hx
    rw [put_tmps]
    by_cases he : x = d
    · subst he
      simp only [upd1, if_true]
      simpa [hlt] using hr
    · simp only [upd1, he, if_false]
      rw [Array.getD_eq_getD_getElem?, Array.getElem?_setIfInBounds_ne (Ne.symm he), ← Array.getD_eq_getD_getElem?]
      refine Rel.mono hd1 (fun v cv hv => RefOK.same h.wr (fun i b hb => hB.block b (hFlt i b hb)) v cv hv) _ _ _ (fun b hb => hB.block b ?_) (h.tm x hx)
      exact hb.elim (h.wr.Dlt b) (hTlt x b)
  · split at hb
    · exact fun hD => (hd3 b hD).2 hb
    · intro hD
      rcases hd2 b hD with h2 | h2
      · exact h.tD x b hb h2
      · have := hTlt x b hb; omega
  · split at hT
    · have := hFlt i b hb; have := hf b hT; omega
    · exact h.tF i x b hb hT
  · split at h1 <;> split at h2
    · omega
    · have := hf b h1; have := hTlt y b h2; omega
    · have := hf b h2; have := hTlt x b h1; omega
    · exact h.tT x y b hxy h1 h2
  · split at hb
    · exact Nat.le_trans h.fr.size (hf b hb)
    · exact h.tn x b hb
  · rcases hd2 b hb with h2 | h2
    · exact h.D2 b h2 hlt
    · have := h.fr.size; omega
  · have : ¬ x = d := by omega
    simp only [this, if_false] at hb
    exact h.tx x b hx hb

end Go.Ve


namespace Go.Ve
open RowKit (Below)

theorem Below.drew (w : World) : Below w.heap.size w { w with drawn := w.drawn + 1 } :=
  ⟨rfl, rfl, rfl, Nat.le_refl _, fun _ _ => rfl⟩

theorem put_big {a : Act} {d : Nat} {v : Value} (h : a.tmps.size ≤ d) : a.put (some d) v = a := by
  have : a.tmps.setIfInBounds d v = a.tmps := Array.setIfInBounds_eq_of_size_le h
  unfold Act.put
  simp only [this]

section
variable {P : Program} {C : Ctx} {h : Hint} {ops : Array Oper} {σ : List V} {ρ : Nat → Value} {F : Nat → Nat → Prop} {t0 r : Nat → V} {n : Nat}

theorem pt_set (hq : QOK ops n) {listed : Array Bool} (hl : listed.size = ops.size) {i d : Nat} (hi : i < n) (hd : dstOf ops i = some d) :
    pt ops n r t0 (listed.setIfInBounds i true) = upd1 (pt ops n r t0 listed) d (r i) := by
  funext x
  unfold upd1
  by_cases hx : x = d
  · subst hx
    unfold pt
    rw [owner_of hq hi hd]
    have : i < listed.size := by rw [hl]; exact Nat.lt_of_lt_of_le hi hq.le
    simp [this]
  · simp only [if_neg hx]
    unfold pt
    cases ho : owner ops n x with
    | none => rfl
    | some k =>
      have hne : i ≠ k := by
        rintro rfl
        have := (owner_some ho).2
        rw [hd] at this
        exact hx (Option.some.inj this).symm
      simp only
      rw [getD_set_ne false hne]

theorem agree (hq : QOK ops n) {listed : Array Bool} {i : Nat} {oi : Oper} (hoi : ops[i]? = some oi) (hi : i < n) (hr : i ∈ Region.ready .any ops listed) {x : Nat} (hx : x ∈ oi.looksAt ops) :
    runT ops r t0 i x = pt ops n r t0 listed x := by
  rw [runT_get hq r t0 x i (Nat.le_of_lt hi)]
  unfold pt
  cases ho : owner ops n x with
  | none => rfl
  | some k =>
    obtain ⟨hk, hdk⟩ := owner_some ho
    obtain ⟨oi', d, hoi', hd, hnl⟩ := hq.dst i hi
    obtain rfl : oi' = oi := Option.some.inj (hoi'.symm.trans hoi)
    have hne : k ≠ i := by
      rintro rfl
      have : d = x := by simpa [dstOf, hoi, hd] using hdk
      exact hnl (this ▸ hx)
    obtain ⟨e, he, hb, hon⟩ := (hq.ne k i x oi' hk hi hne hdk hoi).2 hx
    obtain ⟨_, o2, ho2, hall⟩ := mem_ready.1 hr
    obtain rfl : o2 = oi' := Option.some.inj (ho2.symm.trans hoi)
    have h1 := hall e he hb
    rw [hon] at h1
    have h2 := hq.back i o2 e hoi he hb
    rw [hon] at h2
    simp only [h1, h2, if_true]

theorem PR.skip {T : Nat → Nat → Prop} {D : Nat → Prop} {a : Act} {w : World} {N : Nat} {t : Nat → V} (hp : PR C N σ ρ F t a w D T) (d : Nat) (v : Value) :
    ∃ T', PR C N σ ρ F (upd1 t d .dead) (a.put (some d) v) w D T' ∧ ∀ x b, T' x b → T x b := by
  by_cases hdn : d < N
  · exact ⟨_, hp.put (r := .dead) (v' := v) (fp := noF) (Below.refl _ _) (fun _ h => h) (fun _ h => h.elim) (fun _ h => h) (fun _ h => .inl h) (fun b hb => ⟨hp.wr.Dlt b hb, fun h => h⟩) hdn, fun x b hb => by split at hb; exact hb.elim; exact hb⟩
  · have e1 : upd1 t d .dead = t := by
      funext x
      unfold upd1
      split
      · rename_i hx; subst hx; exact (hp.dd x (Nat.le_of_not_lt hdn)).symm
      · rfl
    rw [e1, put_big (by rw [hp.sz]; exact Nat.le_of_not_lt hdn)]
    exact ⟨T, hp, fun _ _ h => h⟩

theorem head_step {Q : Exit → Act → World → Prop} {K : Act → World → Prop} (hq : QOK ops n) {listed : Array Bool} (hl : listed.size = ops.size) {i : Nat} (hi : i < n) (hr : i ∈ Region.ready .any ops listed)
    (hst : ∀ j, j < n → ∀ o, ops[j]? = some o → StepQ P h ops σ o (runT ops r t0 j) (r j)) {D : Nat → Prop} {T : Nat → Nat → Prop} {a : Act} {w : World}
    (hp : PR C h.n σ ρ F (pt ops n r t0 listed) a w D T) (hT : ∀ x b, T x b → ∃ i, i < n ∧ dstOf ops i = some x)
    (hK : ∀ a' w' D' T', PR C h.n σ ρ F (pt ops n r t0 (listed.setIfInBounds i true)) a' w' D' T' → (∀ x b, T' x b → ∃ i, i < n ∧ dstOf ops i = some x) → K a' w') : wpOp P ops Q i K a w := by
  obtain ⟨oi, d, hoi, hd, hnl⟩ := hq.dst i hi
  have hdo : dstOf ops i = some d := by simp [dstOf, hoi, hd]
  rw [pt_set hq hl hi hdo] at hK
  have hT' : ∀ (fp : Nat → Prop) x b, (if x = d then fp else T x) b → ∃ i, i < n ∧ dstOf ops i = some x := by
    intro fp x b hb
    split at hb
    · rename_i hx; subst hx; exact ⟨i, hi, hdo⟩
    · exact hT x b hb
  have hgv : ∀ j want, oi.guard = some (j, want) → gv (pt ops n r t0 listed) ops j = gv (runT ops r t0 i) ops j := by
    intro j want hg
    unfold gv
    split
    · rename_i x hx
      refine (agree hq hoi hi hr ?_).symm
      unfold Oper.looksAt
      rw [hg]
      simp [hx]
    · rfl
  unfold wpOp
  simp only [hoi]
  obtain ⟨d', hd', hs⟩ := hst i hi oi hoi
  obtain rfl : d' = d := Option.some.inj (hd'.symm.trans hd)
  rcases hs with ⟨hdn, hg, r', hqop, hri⟩ | ⟨j, want, hg, hgj, hri⟩
  · have hw : Region.wanted oi (yielded ops a.tmps) = true := by
      rcases hg with hg | ⟨j, want, hg, hgj⟩
      · simp [Region.wanted, hg]
      · rw [← hgv j want hg] at hgj
        simp [Region.wanted, hg, hp.gv hgj]
    rw [if_pos hw]
    refine .inl ?_
    have hqop' : qop P σ (Ms.ev ⟨pt ops n r t0 listed, σ⟩) oi.op (fun x => x = r') := by
      refine qop_congr (fun x hx => ?_) hqop
      cases x with
      | tmp y =>
        show runT ops r t0 i y = pt ops n r t0 listed y
        refine agree hq hoi hi hr ?_
        unfold Oper.looksAt
        refine List.mem_append_left _ ?_
        rw [List.mem_filterMap]
        exact ⟨.tmp y, by simpa using hx, rfl⟩
      | const v => rfl
      | global g => rfl
      | func f => rfl
    obtain ⟨r2, rfl, hy⟩ := qop_sound (o := oi) hp.wr (fun x _ => hp.ev x) hqop'
    refine hy K Q fun v' w' D' fp hB hr' hf hd1 hd2 hd3 => ?_
    rw [hd]
    rw [hri] at hK
    split at hK
    · refine hK _ _ _ _ (hp.put (D' := fun b => D' b ∨ fp b) (fp := noF) hB (Rel.frz _ _ _ hr') (fun _ h => h.elim) (fun b hb => .inl (hd1 b hb)) (fun b hb => ?_) (fun b hb => ⟨?_, fun h => h⟩) hdn) (hT' _)
      · rcases hb with hb | hb
        · exact hd2 b hb
        · exact .inr (hf b hb)
      · rcases hb with hb | hb
        · exact (hd3 b hb).1
        · exact Rel.lt _ _ _ hr' b hb
    · exact hK _ _ _ _ (hp.put hB hr' hf hd1 hd2 hd3 hdn) (hT' _)
  · have hgj' := hgj
    rw [← hgv j want hg] at hgj'
    have hw : Region.wanted oi (yielded ops a.tmps) = false := by
      have := hp.gv hgj'
      cases want <;> simp [Region.wanted, hg, this]
    rw [if_neg (by simp [hw]), hd]
    rw [hri] at hK
    obtain ⟨T', hp', hsub⟩ := hp.skip d' undef
    exact hK _ _ _ _ hp' fun x b hb => hT x b (hsub x b hb)

/-- The tail, one behind the other. -/
theorem tail_go {Q : Exit → Act → World → Prop} (hq : QOK ops n) : ∀ (fuel m : Nat) (listed : Array Bool) (a : Act) (w : World), n ≤ m → m ≤ ops.size → ops.size ≤ m + fuel → listed.size = ops.size →
    (∀ j, j < ops.size → listed.getD j true = decide (j < m)) → wpList P ops Q (ops.toList.drop m) a w → wpAny P .any ops Q fuel listed a w := by
  have fals : ∀ {listed : Array Bool} {j m : Nat}, listed.size = ops.size → (∀ j, j < ops.size → listed.getD j true = decide (j < m)) → j < ops.size → listed.getD j false = decide (j < m) := by
    intro listed j m hs hl hj
    have := hl j hj
    rw [← hs] at hj
    simp [hj] at this ⊢
    exact this
  intro fuel
  induction fuel with
  | zero =>
    intro m listed a w hnm hm hf hs hl hw
    obtain rfl : m = ops.size := by omega
    refine ⟨?_, ?_⟩
    · cases hr : Region.ready .any ops listed with
      | nil => rfl
      | cons j js =>
        have hj : j ∈ Region.ready .any ops listed := by rw [hr]; simp
        obtain ⟨h1, o, ho, _⟩ := mem_ready.1 hj
        have hlt : j < ops.size := (Array.getElem?_eq_some_iff.1 ho).1
        rw [hl j hlt] at h1
        simp [hlt] at h1
    · have : ops.toList.drop ops.size = [] := by simp
      rw [this] at hw; exact hw
  | succ f ih =>
    intro m listed a w hnm hm hf hs hl hw
    by_cases hms : m = ops.size
    · subst hms
      have hnil : Region.ready .any ops listed = [] := by
        cases hr : Region.ready .any ops listed with
        | nil => rfl
        | cons j js =>
          have hj : j ∈ Region.ready .any ops listed := by rw [hr]; simp
          obtain ⟨h1, o, ho, _⟩ := mem_ready.1 hj
          have hlt : j < ops.size := (Array.getElem?_eq_some_iff.1 ho).1
          rw [hl j hlt] at h1
          simp [hlt] at h1
      refine ⟨fun _ => ?_, fun i hi => by rw [hnil] at hi; cases hi⟩
      have : ops.toList.drop ops.size = [] := by simp
      rw [this] at hw; exact hw
    · have hlt : m < ops.size := by omega
      have hom : ops[m]? = some ops[m] := by simp [hlt]
      have hmr : m ∈ Region.ready .any ops listed := by
        refine mem_ready.2 ⟨by rw [hl m hlt]; simp, ops[m], hom, fun e he hb => ?_⟩
        have h1 := hq.back m ops[m] e hom he hb
        rw [fals hs hl (by omega)]
        simp [h1]
      refine ⟨fun h0 => (by rw [h0] at hmr; cases hmr), fun i hi => ?_⟩
      have him : i = m := by
        obtain ⟨h1, o, ho, hall⟩ := mem_ready.1 hi
        have hil : i < ops.size := (Array.getElem?_eq_some_iff.1 ho).1
        rw [hl i hil] at h1
        simp at h1
        by_cases he : i = m
        · exact he
        · rcases hq.tail with ht | ⟨_, hc⟩
          · omega
          · have h2 := List.all_eq_true.1 hc i (List.mem_range.2 hil)
            simp only [Bool.or_eq_true, decide_eq_true_eq] at h2
            rcases h2 with h2 | h2
            · omega
            · obtain ⟨o', ho', e, he', hb, hon⟩ := Region.waitsFor_spec h2
              obtain rfl : o' = o := Option.some.inj (ho'.symm.trans ho)
              have h3 := hall e he' hb
              rw [hon, fals hs hl (by omega)] at h3
              simp at h3
              omega
      subst him
      have hdrop : ops.toList.drop i = ops[i] :: ops.toList.drop (i + 1) := by
        have := List.drop_eq_getElem_cons (l := ops.toList) (i := i) (by simpa using hlt)
        simpa using this
      rw [hdrop] at hw
      have hw' : wpOp P ops Q i (wpList P ops Q (ops.toList.drop (i + 1))) a w := by
        unfold wpOp; simp only [hom]; exact hw
      refine wpOp_mono (fun a' w' h' => ih (i + 1) _ a' w' (by omega) (by omega) (by omega) (by simpa using hs) (fun j hj => ?_) h') hw'
      by_cases hij : i = j
      · subst hij
        have : i < listed.size := by rw [hs]; exact hlt
        simp [this]
      · rw [getD_set_ne true hij, hl j hj]
        have : (j < i) = (j < i + 1) := by
          apply propext
          constructor <;> intro _ <;> omega
        simp [this]

def unl (listed : Array Bool) (n : Nat) : Nat := (List.range n).countP fun i => !listed.getD i true

theorem unl_set {listed : Array Bool} {i : Nat} (hi : i < listed.size) (hu : listed.getD i true = false) : ∀ n, unl (listed.setIfInBounds i true) n + (if i < n then 1 else 0) = unl listed n := by
  intro n
  induction n with
  | zero => simp [unl]
  | succ n ih =>
    unfold unl at ih ⊢
    rw [List.range_succ, List.countP_append, List.countP_append]
    simp only [List.countP_singleton]
    by_cases hin : i = n
    · subst hin
      have e : (listed.setIfInBounds i true).getD i true = true := by simp [hi]
      simp only [Nat.lt_irrefl, if_false] at ih
      simp [e, hu] at ih ⊢
      exact ih
    · rw [getD_set_ne true hin]
      have : (i < n + 1) = (i < n) := by
        apply propext
        constructor <;> intro _ <;> omega
      simp only [this]
      omega

theorem unl_pos {listed : Array Bool} {i : Nat} (hu : listed.getD i true = false) : ∀ n, i < n → 0 < unl listed n := by
  intro n hn
  unfold unl
  rw [List.countP_pos_iff]
  exact ⟨i, List.mem_range.2 hn, by simp [hu]⟩

theorem head_go {Q : Exit → Act → World → Prop} (hq : QOK ops n)
    (hst : ∀ j, j < n → ∀ o, ops[j]? = some o → StepQ P h ops σ o (runT ops r t0 j) (r j))
    (hend : ∀ a w D T, PR C h.n σ ρ F (runT ops r t0 n) a w D T → (∀ x b, T x b → ∃ i, i < n ∧ dstOf ops i = some x) → wpList P ops Q (ops.toList.drop n) a w) :
    ∀ (fuel : Nat) (listed : Array Bool) (a : Act) (w : World) (D : Nat → Prop) (T : Nat → Nat → Prop), HeadInv .any ops n listed → unl listed n + (ops.size - n) ≤ fuel →
      PR C h.n σ ρ F (pt ops n r t0 listed) a w D T → (∀ x b, T x b → ∃ i, i < n ∧ dstOf ops i = some x) → wpAny P .any ops Q fuel listed a w := by
  intro fuel
  induction fuel with
  | zero =>
    intro listed a w D T inv hf hp hT
    have hle := hq.le
    have hall : ∀ i, i < n → listed.getD i true = true := by
      intro i hi
      cases hu : listed.getD i true with
      | true => rfl
      | false => have := unl_pos hu n hi; omega
    have hpt : pt ops n r t0 listed = runT ops r t0 n := by
      funext x
      rw [runT_get hq r t0 x n (Nat.le_refl _)]
      unfold pt
      cases ho : owner ops n x with
      | none => rfl
      | some k =>
        have hk := (owner_some ho).1
        have h1 := hall k hk
        have h2 : k < listed.size := by rw [inv.size]; omega
        simp [h2] at h1 ⊢
        simp [h1, hk]
    rw [hpt] at hp
    refine tail_go hq 0 n listed a w (Nat.le_refl _) hle (by omega) inv.size (fun j hj => ?_) (hend _ _ _ _ hp hT)
    by_cases hjn : j < n
    · rw [hall j hjn]; simp [hjn]
    · rw [inv.tail j (by omega) hj]; simp [hjn]
  | succ f ih =>
    intro listed a w D T inv hf hp hT
    have hle := hq.le
    by_cases hall : ∀ i, i < n → listed.getD i true = true
    · have hpt : pt ops n r t0 listed = runT ops r t0 n := by
        funext x
        rw [runT_get hq r t0 x n (Nat.le_refl _)]
        unfold pt
        cases ho : owner ops n x with
        | none => rfl
        | some k =>
          have hk := (owner_some ho).1
          have h1 := hall k hk
          have h2 : k < listed.size := by rw [inv.size]; omega
          simp [h2] at h1 ⊢
          simp [h1, hk]
      rw [hpt] at hp
      refine tail_go hq (f + 1) n listed a w (Nat.le_refl _) hle (by omega) inv.size (fun j hj => ?_) (hend _ _ _ _ hp hT)
      by_cases hjn : j < n
      · rw [hall j hjn]; simp [hjn]
      · rw [inv.tail j (by omega) hj]; simp [hjn]
    · have hex : ∃ i, i < n ∧ listed.getD i true = false := by
        apply Classical.byContradiction
        intro hno
        apply hall
        intro i hi
        cases hu : listed.getD i true with
        | true => rfl
        | false => exact absurd ⟨i, hi, hu⟩ hno
      obtain ⟨i, ⟨hin, hun⟩, hmin⟩ := least hex
      have hoi : ops[i]? = some ops[i] := by
        have : i < ops.size := by omega
        simp [this]
      have hir : i ∈ Region.ready .any ops listed := by
        refine mem_ready.2 ⟨hun, ops[i], hoi, fun e he hb => ?_⟩
        have h1 := hq.back i ops[i] e hoi he hb
        have h2 := hmin e.on h1
        have h3 : e.on < listed.size := by rw [inv.size]; omega
        cases hu : listed.getD e.on true with
        | false => exact absurd ⟨by omega, hu⟩ h2
        | true => simp [h3] at hu ⊢; exact hu
      refine ⟨fun h0 => (by rw [h0] at hir; cases hir), fun j hj => ?_⟩
      have hjs : j < ops.size := by
        obtain ⟨_, o, ho, _⟩ := mem_ready.1 hj
        exact (Array.getElem?_eq_some_iff.1 ho).1
      have hjn : j < n := by
        rcases Nat.lt_or_ge j n with h1 | h1
        · exact h1
        · rcases hq.tail with ht | ⟨hs, hc⟩
          · omega
          · exact absurd hj (tail_waits hs hc (by omega) inv _ i rfl hin hun j h1)
      have hju := (mem_ready.1 hj).1
      have hcount := unl_set (by rw [inv.size]; exact hjs) hju n
      rw [if_pos hjn] at hcount
      exact head_step hq inv.size hjn hj hst hp hT fun a' w' D' T' hp' hT' => ih _ a' w' D' T' (inv.set hj hjn) (by omega) hp' hT'

/-- A slot's own parts get their numbers. -/
theorem PR.prom {N : Nat} {t : Nat → V} {a : Act} {w : World} {D : Nat → Prop} {T : Nat → Nat → Prop} (hp : PR C N σ ρ F t a w D T) {d : Nat} (hdn : d < N) :
    ∃ ρ' F', PR C N (σ ++ (Go.Ve.prom (t d) σ.length).2) ρ' F' (upd1 t d (Go.Ve.prom (t d) σ.length).1) a w D (fun x => if x = d then noF else T x) := by
  obtain ⟨ρ', F', ok, hr'⟩ := prom_sound (t d) σ ρ F _ (T d) hp.wr (hp.tm d hdn) (hp.tD d) (fun i b hb => hp.tF i d b hb)
  refine ⟨ρ', F', hp.df, hp.sz, fun x hx => ?_, ok.wr, fun x hx => ?_, fun x b hb => ?_, fun i x b hb hT => ?_, fun x y b hxy h1 h2 => ?_, fun x b hb => ?_, hp.fr, fun i b hb => ?_, hp.D1, hp.D2,
    fun i hi => (ok.rt i (Nat.lt_of_lt_of_le hi hp.ml)).trans (hp.rt i hi), by have := hp.ml; simp; omega, fun x b hx hb => ?_⟩
  · have : ¬ x = d := by omega
    simp only [upd1, this, if_false]; exact hp.dd x hx
  · by_cases hxd : x = d
    · subst hxd; simp only [upd1, if_true]; exact hr'
    · simp only [upd1, hxd, if_false]
      exact Rel.mono (fun _ h => h) (fun v cv hv => RefOK.ext ok.rt _ _ hv) _ _ _ (fun _ _ => rfl) (hp.tm x hx)
  · split at hb
    · exact hb.elim
    · exact hp.tD x b hb
  · split at hT
    · exact hT
    · rename_i hxd
      by_cases hi : i < σ.length
      · rw [ok.old i hi] at hb; exact hp.tF i x b hb hT
      · exact hp.tT d x b (Ne.symm hxd) (ok.new i b (Nat.le_of_not_lt hi) hb) hT
  · split at h1
    · exact h1
    · split at h2
      · exact h2
      · exact hp.tT x y b hxy h1 h2
  · split at hb
    · exact hb.elim
    · exact hp.tn x b hb
  · by_cases hi : i < σ.length
    · rw [ok.old i hi] at hb; exact hp.Fn i b hb
    · exact .inr (hp.tn d b (ok.new i b (Nat.le_of_not_lt hi) hb))
  · split at hb
    · exact hb
    · exact hp.tx x b hx hb

end

theorem PR.close {C : Ctx} {N : Nat} {a : Act} {w : World} {D : Nat → Prop} : ∀ (ds : List (Option Nat)) (t : Nat → V) (σ : List V) (ρ : Nat → Value) (F : Nat → Nat → Prop) (T : Nat → Nat → Prop), PR C N σ ρ F t a w D T →
    (∀ x b, T x b → some x ∈ ds) → SRel C N (promA ds ⟨t, σ⟩) a w := by
  intro ds
  induction ds with
  | nil =>
    intro t σ ρ F T hp ho
    refine ⟨hp.df, hp.dd, D, ρ, F, hp.wr, by simpa using hp.sz, fun x hx => ?_, hp.fr, hp.Fn, hp.D1, hp.D2, hp.rt, hp.ml⟩
    have hx' : x < N := by simpa using hx
    have h1 := hp.tm x hx'
    have e : T x = noF := noF_eq (fun b hb => by cases ho x b hb)
    rw [e] at h1
    show Rel D w _ (((List.range N).map t).getD x .dead) _ noF
    rw [range_getD hx']
    exact h1
  | cons d ds ih =>
    intro t σ ρ F T hp ho
    cases d with
    | none =>
      refine ih t σ ρ F T hp fun x b h => ?_
      have := ho x b h
      simpa using this
    | some d =>
      unfold promA
      split
      · rename_i hown
        have hdn : d < N := by
          rcases Nat.lt_or_ge d N with h | h
          · exact h
          · simp only [hp.dd d h] at hown; cases hown
        obtain ⟨ρ', F', hp'⟩ := hp.prom hdn
        refine ih _ _ ρ' F' _ hp' fun x b h => ?_
        split at h
        · exact h.elim
        · rename_i hxd
          have := ho x b h
          simpa [hxd] using this
      · rename_i hown
        refine ih t σ ρ F T hp fun x b h => ?_
        have := ho x b h
        rcases List.mem_cons.1 this with he | he
        · cases he
          by_cases hx : d < N
          · exact absurd h (tOwn_free _ _ _ (by simpa using hown) (hp.tm d hx) b)
          · exact absurd h (hp.tx d b (Nat.le_of_not_lt hx))
        · exact he

/-- Behind the head: its trees get their numbers, then the tail. -/
def drawK (P : Program) (h : Hint) (ops : Array Oper) (n : Nat) (K : Ms → Prop) (σ : List V) (t : Nat → V) : Prop :=
  vops P h ops (ops.toList.drop n) K (promA ((ops.toList.take n).map (·.dst)) ⟨t, σ⟩)
/-- A region that draws its order. -/
theorem vdraw {P : Program} {h : Hint} {id : Nat} {ops : Array Oper} {K : Ms → Prop} {S : Ms} (n : Nat) (hm : P.follows .mixedOrders = true) (hok : quietOK ops n = true)
    (hv : vq P h ops S.σ (ops.toList.take n) (drawK P h ops n K S.σ) S.t) : Drawn P h id ops K S := by
  intro C Q a w hQ hs
  have hq := quietOK_spec hok
  refine wp_region_any hm ?_
  obtain ⟨hdf, hdd, D, ρ, F, hcr⟩ := hs
  obtain ⟨r, hst, hK⟩ := vq_trace (n := n) (t0 := S.t) (K := drawK P h ops n K S.σ) hq.le hq n 0 (fun _ => .dead) (by omega) (by simpa [runT] using hv) (fun j hj => by omega)
  have hcr' := hcr.below (Below.drew w)
  have inv0 : HeadInv .any ops n (Array.replicate ops.size false) :=
    ⟨by simp, fun j oj _ hl => (by rw [getD_replicate_false] at hl; cases hl), fun t _ ht => getD_in (by simpa using ht) (getD_replicate_false _ _)⟩
  have hsz : a.tmps.size = h.n := by simpa using hcr.sz
  have hp0 : ∃ D ρ F T, PR C h.n S.σ ρ F (pt ops n r S.t (Array.replicate ops.size false)) a { w with drawn := w.drawn + 1 } D T ∧ ∀ x b, T x b → ∃ i, i < n ∧ dstOf ops i = some x := by
    obtain ⟨D, ρ, F, hcr'⟩ : CRel C S.σ ((List.range h.n).map S.t) a.tmps { w with drawn := w.drawn + 1 } := hcr'
    refine ⟨D, ρ, F, fun _ => noF, ⟨hdf, hsz, fun x hx => ?_, hcr'.wr, fun x hx => ?_, fun _ _ h => h.elim, fun _ _ _ _ h => h, fun _ _ _ _ h => h.elim, fun _ _ h => h.elim, hcr'.fr, hcr'.Fn, hcr'.D1, hcr'.D2, hcr'.rt, hcr'.ml, fun _ _ _ h => h⟩, fun _ _ h => h.elim⟩
    · unfold pt
      split
      · rw [getD_replicate_false]; rfl
      · exact hdd x hx
    · unfold pt
      split
      · rw [getD_replicate_false]; exact fun _ h => h
      · have h1 := hcr'.tm x (by simpa using hx)
        rw [range_getD hx] at h1
        exact h1
  obtain ⟨D, ρ, F, T, hp, hT0⟩ := hp0
  refine head_go hq hst ?_ ops.size _ a _ D T inv0 ?_ hp hT0
  · intro a w D T hp hT
    refine vops_sound hQ _ _ a w hK (PR.close _ _ _ _ _ _ hp fun x b ho => ?_)
    obtain ⟨i, hi, hd⟩ := hT x b ho
    obtain ⟨oi, d, hoi, hd', _⟩ := hq.dst i hi
    refine List.mem_map.2 ⟨oi, ?_, by simpa [dstOf, hoi] using hd⟩
    refine List.mem_of_getElem? (i := i) ?_
    rw [List.getElem?_take, if_pos hi, Array.getElem?_toList]
    exact hoi
  · have : unl (Array.replicate ops.size false) n ≤ n := by
      unfold unl
      have := List.countP_le_length (p := fun i => !(Array.replicate ops.size false).getD i true) (l := List.range n)
      simpa using this
    have := hq.le
    omega

end Go.Ve

