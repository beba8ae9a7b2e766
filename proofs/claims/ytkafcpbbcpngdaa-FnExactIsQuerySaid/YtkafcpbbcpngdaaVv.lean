/- Regions that draw their order: the theorem. -/
import Derived.Test.YtkafcpbbcpngdaaVu
import Derived.Test.YtkafcpbbcpngdaaVq
namespace Go.Ve
open RowKit (Below)

/-- The quiet head, in the order of the text: what is owned stays in the temporaries. -/
def QK (h : Hint) (d : Option Nat) (t : Nat → V) (K : (Nat → V) → Prop) (r : V) : Prop :=
  match d with
  | some d => d < h.n ∧ K (upd1 t d (if h.fz.contains d then frz r else r))
  | none => False
def skipT (t : Nat → V) (d : Option Nat) : Nat → V :=
  match d with
  | some d => upd1 t d .dead
  | none => t
def vq (P : Program) (h : Hint) (ops : Array Oper) (σ : List V) : List Oper → ((Nat → V) → Prop) → (Nat → V) → Prop
  | [], K, t => K t
  | o :: rest, K, t => match o.guard with
    | none => qop P σ (Ms.ev ⟨t, σ⟩) o.op (QK h o.dst t (vq P h ops σ rest K))
    | some (j, want) => match gv t ops j with
      | .c (.bool b) => (b = want → qop P σ (Ms.ev ⟨t, σ⟩) o.op (QK h o.dst t (vq P h ops σ rest K))) ∧ (b = (!want) → vq P h ops σ rest K (skipT t o.dst))
      | _ => False

def dstOf (ops : Array Oper) (i : Nat) : Option Nat := (ops[i]?).bind (·.dst)

/-- What the head owns gets its numbers. -/
def promA : List (Option Nat) → Ms → Ms
  | [], S => S
  | none :: ds, S => promA ds S
  | some d :: ds, S => if tOwn (S.t d) then promA ds ⟨upd1 S.t d (prom (S.t d) S.σ.length).1, S.σ ++ (prom (S.t d) S.σ.length).2⟩ else promA ds S

/-- The head's operations write their own slots, once, and wait for what they read; the tail comes behind it, in order. -/
def quietOK (ops : Array Oper) (n : Nat) : Bool :=
  decide (n ≤ ops.size) &&
  (List.range n).all (fun i => match ops[i]? with
    | none => false
    | some oi => match oi.dst with
      | none => false
      | some d => !(oi.looksAt ops).contains d && (List.range n).all fun j => j == i || match ops[j]? with
        | none => false
        | some oj => oj.dst != some d && (!(oj.looksAt ops).contains d || Region.waitsFor .any ops j i)) &&
  (List.range ops.size).all (fun j => match ops[j]? with
    | some o => o.after.toList.all fun e => !Region.binds .any e || decide (e.on < j)
    | none => false) &&
  (n == ops.size || (Region.sinkB .any ops n && Region.chainB .any ops n))

structure QOK (ops : Array Oper) (n : Nat) : Prop where
  le : n ≤ ops.size
  dst : ∀ i, i < n → ∃ oi d, ops[i]? = some oi ∧ oi.dst = some d ∧ d ∉ oi.looksAt ops
  ne : ∀ i j d oj, i < n → j < n → i ≠ j → dstOf ops i = some d → ops[j]? = some oj → oj.dst ≠ some d ∧ (d ∈ oj.looksAt ops → ∃ e ∈ oj.after, Region.binds .any e = true ∧ e.on = i)
  back : ∀ j o e, ops[j]? = some o → e ∈ o.after → Region.binds .any e = true → e.on < j
  tail : n = ops.size ∨ (Region.sinkB .any ops n = true ∧ Region.chainB .any ops n = true)

theorem quietOK_spec {ops : Array Oper} {n : Nat} (h : quietOK ops n = true) : QOK ops n := by
  simp only [quietOK, Bool.and_eq_true, decide_eq_true_eq, Bool.or_eq_true, beq_iff_eq] at h
  obtain ⟨⟨⟨h1, h2⟩, h3⟩, h4⟩ := h
  have hd : ∀ i, i < n → ∃ oi d, ops[i]? = some oi ∧ oi.dst = some d ∧ d ∉ oi.looksAt ops ∧ ∀ j, j < n → j ≠ i → ∃ oj, ops[j]? = some oj ∧ oj.dst ≠ some d ∧ (d ∈ oj.looksAt ops → Region.waitsFor .any ops j i = true) := by
    intro i hi
    have := List.all_eq_true.1 h2 i (List.mem_range.2 hi)
    split at this
    · cases this
    · rename_i oi hoi
      split at this
      · cases this
      · rename_i d hd
        simp only [Bool.and_eq_true, Bool.not_eq_true'] at this
        obtain ⟨ha, hb⟩ := this
        refine ⟨oi, d, hoi, hd, by simpa using ha, fun j hj hne => ?_⟩
        have hj2 := List.all_eq_true.1 hb j (List.mem_range.2 hj)
        simp only [Bool.or_eq_true, beq_iff_eq, hne, false_or] at hj2
        split at hj2
        · cases hj2
        · rename_i oj hoj
          simp only [Bool.and_eq_true, bne_iff_ne, ne_eq, Bool.or_eq_true, Bool.not_eq_true'] at hj2
          refine ⟨oj, hoj, hj2.1, fun hm => ?_⟩
          rcases hj2.2 with h | h
          · simp at h; exact absurd hm h
          · exact h
  refine ⟨h1, fun i hi => ?_, fun i j d oj hi hj hij hdi hoj => ?_, fun j o e hj he hb => ?_, h4⟩
  · obtain ⟨oi, d, a, b, c, _⟩ := hd i hi; exact ⟨oi, d, a, b, c⟩
  · obtain ⟨oi, d', hoi, hd', _, hall⟩ := hd i hi
    have : d' = d := by simp [dstOf, hoi, hd'] at hdi; exact hdi
    subst this
    obtain ⟨oj', hoj', g1, g2⟩ := hall j hj (Ne.symm hij)
    have : oj' = oj := Option.some.inj (hoj'.symm.trans hoj)
    subst this
    refine ⟨g1, fun hm => ?_⟩
    obtain ⟨oj2, hoj2, e, he, hb, hon⟩ := Region.waitsFor_spec (g2 hm)
    have : oj2 = oj' := Option.some.inj (hoj2.symm.trans hoj)
    subst this
    exact ⟨e, he, hb, hon⟩
  · have hlt : j < ops.size := (Array.getElem?_eq_some_iff.1 hj).1
    have := List.all_eq_true.1 h3 j (List.mem_range.2 hlt)
    rw [hj] at this
    have := List.all_eq_true.1 this e (by simpa using he)
    simp [hb] at this
    exact this

/-- One operation of the head, as the text's order has it. -/
def StepQ (P : Program) (h : Hint) (ops : Array Oper) (σ : List V) (o : Oper) (t : Nat → V) (r : V) : Prop :=
  ∃ d : Nat, o.dst = some d ∧
    (d < h.n ∧ ((o.guard = none ∨ ∃ j want, o.guard = some (j, want) ∧ gv t ops j = .c (.bool want)) ∧ ∃ r', qop P σ (Ms.ev ⟨t, σ⟩) o.op (fun x => x = r') ∧ r = (if h.fz.contains d then frz r' else r')) ∨
     (∃ j want, o.guard = some (j, want) ∧ gv t ops j = .c (.bool (!want)) ∧ r = .dead))

def runT (ops : Array Oper) (r : Nat → V) (t : Nat → V) : Nat → (Nat → V)
  | 0 => t
  | i + 1 => match dstOf ops i with
    | some d => upd1 (runT ops r t i) d (r i)
    | none => runT ops r t i

theorem vq_trace {P : Program} {h : Hint} {ops : Array Oper} {σ : List V} {t0 : Nat → V} {K : (Nat → V) → Prop} {n : Nat} (hn : n ≤ ops.size) (hq : QOK ops n) : ∀ (k i : Nat) (r : Nat → V), i + k = n →
    vq P h ops σ ((ops.toList.drop i).take k) K (runT ops r t0 i) → (∀ j, j < i → ∀ o, ops[j]? = some o → StepQ P h ops σ o (runT ops r t0 j) (r j)) →
    ∃ r' : Nat → V, (∀ j, j < n → ∀ o, ops[j]? = some o → StepQ P h ops σ o (runT ops r' t0 j) (r' j)) ∧ K (runT ops r' t0 n) := by
  intro k
  induction k with
  | zero =>
    intro i r hi hv hs
    obtain rfl : i = n := by omega
    simp [vq] at hv
    exact ⟨r, hs, hv⟩
  | succ k ih =>
    intro i r hi hv hs
    have hlt : i < ops.toList.length := by simp; omega
    rw [List.drop_eq_getElem_cons hlt, List.take_succ_cons] at hv
    obtain ⟨oi, d, hoi, hd, hnl⟩ := hq.dst i (by omega)
    have he : ops.toList[i] = oi := by
      have := hoi
      rw [← Array.getElem?_toList, List.getElem?_eq_getElem hlt] at this
      exact Option.some.inj this
    rw [he] at hv
    -- go on with the value v at place i
    have go : ∀ v, StepQ P h ops σ oi (runT ops r t0 i) v → vq P h ops σ ((ops.toList.drop (i + 1)).take k) K (upd1 (runT ops r t0 i) d v) → ∃ r' : Nat → V, (∀ j, j < n → ∀ o, ops[j]? = some o → StepQ P h ops σ o (runT ops r' t0 j) (r' j)) ∧ K (runT ops r' t0 n) := by
      intro v hst hv
      have same : ∀ j, j ≤ i → runT ops (fun x => if x = i then v else r x) t0 j = runT ops r t0 j := by
        intro j
        induction j with
        | zero => intro _; rfl
        | succ j ihj =>
          intro hj
          have h1 : j ≠ i := by omega
          simp only [runT, ihj (by omega), h1, if_false]
      refine ih (i + 1) (fun x => if x = i then v else r x) (by omega) ?_ ?_
      · have : runT ops (fun x => if x = i then v else r x) t0 (i + 1) = upd1 (runT ops r t0 i) d v := by
          have hdo : dstOf ops i = some d := by simp [dstOf, hoi, hd]
          simp only [runT, hdo, same i (Nat.le_refl _), if_true]
        rw [this]; exact hv
      · intro j hj o ho
        by_cases hji : j = i
        · subst hji
          have : o = oi := Option.some.inj (ho.symm.trans hoi)
          subst this
          rw [same j (Nat.le_refl _)]
          simpa using hst
        · rw [same j (by omega)]
          simp only [hji, if_false]
          exact hs j (by omega) o ho
    unfold vq at hv
    split at hv
    · rename_i hg
      obtain ⟨r', hK, hdet⟩ := qop_det hv
      rw [hd] at hK
      obtain ⟨hdn, hK⟩ := hK
      exact go _ ⟨d, hd, .inl ⟨hdn, .inl hg, r', hdet, rfl⟩⟩ hK
    · rename_i j want hg
      split at hv
      · rename_i b hb
        by_cases hbw : b = want
        · obtain ⟨r', hK, hdet⟩ := qop_det (hv.1 hbw)
          rw [hd] at hK
          obtain ⟨hdn, hK⟩ := hK
          exact go _ ⟨d, hd, .inl ⟨hdn, .inr ⟨j, want, hg, by rw [hb, hbw]⟩, r', hdet, rfl⟩⟩ hK
        · have hbn : b = (!want) := by cases b <;> cases want <;> simp_all
          have hK := hv.2 hbn
          rw [hd] at hK
          exact go .dead ⟨d, hd, .inr ⟨j, want, hg, by rw [hb, hbn], rfl⟩⟩ hK
      · exact hv.elim

/-- Which operation of the head writes the slot. -/
def owner (ops : Array Oper) (n x : Nat) : Option Nat := (List.range n).find? fun i => dstOf ops i == some x

theorem owner_some {ops : Array Oper} {n x i : Nat} (h : owner ops n x = some i) : i < n ∧ dstOf ops i = some x := by
  unfold owner at h
  have h1 := List.find?_some h
  have h2 := List.mem_of_find?_eq_some h
  exact ⟨List.mem_range.1 h2, by simpa using h1⟩
theorem owner_none {ops : Array Oper} {n x : Nat} (h : owner ops n x = none) : ∀ i, i < n → dstOf ops i ≠ some x := by
  unfold owner at h
  intro i hi he
  have := List.find?_eq_none.1 h i (List.mem_range.2 hi)
  simp [he] at this
theorem owner_of {ops : Array Oper} {n x i : Nat} (hq : QOK ops n) (hi : i < n) (h : dstOf ops i = some x) : owner ops n x = some i := by
  cases ho : owner ops n x with
  | none => exact absurd h (owner_none ho i hi)
  | some j =>
    obtain ⟨hj, hdj⟩ := owner_some ho
    by_cases he : j = i
    · rw [he]
    · obtain ⟨oi, d, hoi, _, _⟩ := hq.dst i hi
      have := (hq.ne j i x oi hj hi he hdj hoi).1
      simp [dstOf, hoi] at h
      exact absurd h this

/-- What the slots hold when the operations 'listed' have been carried out. -/
def pt (ops : Array Oper) (n : Nat) (r : Nat → V) (t0 : Nat → V) (listed : Array Bool) (x : Nat) : V :=
  match owner ops n x with
  | some i => if listed.getD i false then r i else .dead
  | none => t0 x

theorem runT_get {ops : Array Oper} {n : Nat} (hq : QOK ops n) (r t0 : Nat → V) (x : Nat) : ∀ j, j ≤ n → runT ops r t0 j x = match owner ops n x with
    | some i => if i < j then r i else t0 x
    | none => t0 x := by
  intro j
  induction j with
  | zero => intro _; cases owner ops n x <;> simp [runT]
  | succ j ih =>
    intro hj
    obtain ⟨oj, d, hoj, hd, _⟩ := hq.dst j (by omega)
    have hdo : dstOf ops j = some d := by simp [dstOf, hoj, hd]
    simp only [runT, hdo, upd1]
    by_cases hx : x = d
    · subst hx
      rw [owner_of hq (by omega) hdo]
      simp
    · simp only [hx, if_false]
      rw [ih (by omega)]
      cases ho : owner ops n x with
      | none => rfl
      | some i =>
        have : i ≠ j := by
          rintro rfl
          have := (owner_some ho).2
          rw [hdo] at this
          exact hx (Option.some.inj this).symm
        simp only
        by_cases h1 : i < j
        · rw [if_pos h1, if_pos (by omega)]
        · rw [if_neg h1, if_neg (by omega)]

/-- The relation while the head runs. -/
structure PR (C : Ctx) (N : Nat) (σ : List V) (ρ : Nat → Value) (F : Nat → Nat → Prop) (t : Nat → V) (a : Act) (w : World) (D : Nat → Prop) (T : Nat → Nat → Prop) : Prop where
  df : a.defers = []
  sz : a.tmps.size = N
  dd : ∀ x, N ≤ x → t x = .dead
  wr : WRel σ w D ρ F
  tm : ∀ x, x < N → Rel D w (RefOK σ ρ w) (t x) (a.tmps.getD x undef) (T x)
  tD : ∀ x b, T x b → ¬ D b
  tF : ∀ i x b, F i b → ¬ T x b
  tT : ∀ x y b, x ≠ y → T x b → ¬ T y b
  tn : ∀ x b, T x b → C.w0.heap.size ≤ b
  fr : Fr C.w0 w C.W
  Fn : ∀ i b, F i b → C.W b ∨ C.w0.heap.size ≤ b
  D1 : ∀ b, C.D0 b → D b
  D2 : ∀ b, D b → b < C.w0.heap.size → C.D0 b ∨ C.W b
  rt : ∀ i, i < C.m → ρ i = C.ρ0 i
  ml : C.m ≤ σ.length
  tx : ∀ x b, N ≤ x → ¬ T x b

theorem PR.ev {C : Ctx} {N : Nat} {σ : List V} {ρ : Nat → Value} {F : Nat → Nat → Prop} {t : Nat → V} {a : Act} {w : World} {D : Nat → Prop} {T : Nat → Nat → Prop} (h : PR C N σ ρ F t a w D T) (x : Operand) : OpR σ w D ρ F (Ms.ev ⟨t, σ⟩ x) (a.eval x) := by
  have plain : ∀ v cv, Rel D w (RefOK σ ρ w) v cv noF → OpR σ w D ρ F v cv := fun v cv hr => ⟨noF, hr, fun _ h => h.elim, fun _ _ _ h => h⟩
  cases x with
  | tmp y =>
    by_cases hy : y < N
    · exact ⟨T y, h.tm y hy, h.tD y, fun i b hb => h.tF i y b hb⟩
    · refine plain _ _ ?_
      show Rel D w _ (t y) _ noF
      rw [h.dd y (Nat.le_of_not_lt hy)]
      exact fun _ h => h
  | const v => exact plain _ _ (constV_rel v)
  | global g => exact plain _ _ ⟨rfl, rfl, fun _ h => h⟩
  | func f => exact plain _ _ ⟨rfl, rfl, fun _ h => h⟩

theorem PR.gv {C : Ctx} {N : Nat} {σ : List V} {ρ : Nat → Value} {F : Nat → Nat → Prop} {t : Nat → V} {a : Act} {w : World} {D : Nat → Prop} {T : Nat → Nat → Prop} (h : PR C N σ ρ F t a w D T) {ops : Array Oper} {j : Nat} {b : Bool} (hg : Go.Ve.gv t ops j = .c (.bool b)) : yielded ops a.tmps j = some b := by
  unfold Go.Ve.gv at hg
  split at hg
  · rename_i d hd
    have hlt : d < N := by
      rcases Nat.lt_or_ge d N with h' | h'
      · exact h'
      · rw [h.dd d h'] at hg; cases hg
    have h1 := h.tm d hlt
    rw [hg] at h1
    have h2 : d < a.tmps.size := by rw [h.sz]; exact hlt
    have h3 : a.tmps[d]? = some (.bool b) := by
      have := h1.1
      simp [h2] at this ⊢
      exact this
    unfold yielded
    rw [hd]
    simp [h3]
  · cases hg

/-- A slot gets a value. -/
theorem PR.put {C : Ctx} {N : Nat} {σ : List V} {ρ : Nat → Value} {F : Nat → Nat → Prop} {t : Nat → V} {a : Act} {w w' : World} {D D' : Nat → Prop} {T : Nat → Nat → Prop} (h : PR C N σ ρ F t a w D T) {r : V} {v' : Value} {fp : Nat → Prop} {d : Nat} (hB : Below w.heap.size w w') (hr : Rel D' w' (RefOK σ ρ w') r v' fp)
    (hf : ∀ b, fp b → w.heap.size ≤ b) (hd1 : ∀ b, D b → D' b) (hd2 : ∀ b, D' b → D b ∨ w.heap.size ≤ b) (hd3 : ∀ b, D' b → b < w'.heap.size ∧ ¬ fp b) (hdn : d < N) :
    PR C N σ ρ F (upd1 t d r) (a.put (some d) v') w' D' (fun x => if x = d then fp else T x) := by
  have hFlt : ∀ i b, F i b → b < w.heap.size := h.wr.lt
  have hTlt : ∀ x b, T x b → b < w.heap.size := by
    intro x b hb
    by_cases hx : x < N
    · exact Rel.lt _ _ _ (h.tm x hx) b hb
    · exact absurd hb (h.tx x b (Nat.le_of_not_lt hx))
  have wr' : WRel σ w' D' ρ F := by
    have h1 := h.wr.below hB
    refine ⟨fun i hi => Rel.mono hd1 (fun _ _ h => h) _ _ _ (fun _ _ => rfl) (h1.rel i hi), h1.disj, fun i b hb hD => ?_, fun b hb => (hd3 b hb).1, h1.out⟩
    rcases hd2 b hD with h2 | h2
    · exact h1.dD i b hb h2
    · have := hFlt i b hb; omega
  refine ⟨h.df, by rw [put_tmps]; simpa using h.sz, fun x hx => ?_, wr', fun x hx => ?_, fun x b hb => ?_, fun i x b hb hT => ?_, fun x y b hxy h1 h2 => ?_, fun x b hb => ?_, h.fr.below hB, h.Fn, fun b hb => hd1 b (h.D1 b hb), fun b hb hlt => ?_, h.rt, h.ml, fun x b hx hb => ?_⟩
  · have : ¬ x = d := by omega
    simp only [upd1, this, if_false]; exact h.dd x hx
  · have hlt : x < a.tmps.size := by rw [h.sz]; exact hx
    rw [put_tmps]
    by_cases he : x = d
    · subst he
      simp only [upd1, if_true]
      simpa [hlt] using hr
    · simp only [upd1, he, if_false]
      rw [Array.getD_eq_getD_getElem?, Array.getElem?_setIfInBounds_ne (Ne.symm he), ← Array.getD_eq_getD_getElem?]
      refine Rel.mono hd1 (fun v cv hv => RefOK.same h.wr (fun i b hb => hB.block b (hFlt i b hb)) v cv hv) _ _ _ (fun b hb => hB.block b ?_) (h.tm x hx)
      exact hb.elim (h.wr.Dlt b) (hTlt x b)
  · split at hb
    · exact fun hD => (hd3 b hD).2 hb
    · intro hD
      rcases hd2 b hD with h2 | h2
      · exact h.tD x b hb h2
      · have := hTlt x b hb; omega
  · split at hT
    · have := hFlt i b hb; have := hf b hT; omega
    · exact h.tF i x b hb hT
  · split at h1 <;> split at h2
    · omega
    · have := hf b h1; have := hTlt y b h2; omega
    · have := hf b h2; have := hTlt x b h1; omega
    · exact h.tT x y b hxy h1 h2
  · split at hb
    · exact Nat.le_trans h.fr.size (hf b hb)
    · exact h.tn x b hb
  · rcases hd2 b hb with h2 | h2
    · exact h.D2 b h2 hlt
    · have := h.fr.size; omega
  · have : ¬ x = d := by omega
    simp only [this, if_false] at hb
    exact h.tx x b hx hb

end Go.Ve
