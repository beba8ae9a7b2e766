/- Fractions: squares. -/
import Derived.Test.YtcdekmccongjgaaOad
namespace Go.Ve.D
open Go Go.Ve

theorem homL_get {c : Cat} {x y : Int} {i : Nat} (hi : i < (homL c x y).length) : ∃ f : Nat, f < ar c ∧ (homL c x y).getD i 0 = (f : Int) := by
  have hm : (homL c x y).getD i 0 ∈ homL c x y := getD_mem' 0 hi
  obtain ⟨f, hf, e⟩ := List.mem_map.1 hm
  exact ⟨f, List.mem_range.1 (List.mem_filter.1 hf).1, e.symm⟩
theorem homL_len {c : Cat} {x y : Int} : (homL c x y).length ≤ ar c := by
  unfold homL
  rw [List.length_map]
  have := List.length_filter_le (fun f => decide (fT c f = x) && decide (tT c f = y)) (List.range (ar c))
  rwa [List.length_range] at this
/-- the arrows b of the set and a complete f and v to a square -/
def hit (c : Cat) (w : List Int) (f v : Nat) (b a : Int) : Bool := w.contains b && decide (T c b.toNat f = T c a.toNat v)
def sqS (c : Cat) (w : List Int) (f v : Nat) (s : Nat) : Bool := (homL c (s : Int) (fT c f)).any fun b => (homL c (s : Int) (fT c v)).any fun a => hit c w f v b a
def sq (c : Cat) (w : List Int) (f v : Nat) : Bool := (List.range c.1.toNat).any (sqS c w f v)

/-- a loop that looks for one -/
theorem srch {X R S : Type} {f : X → Option (LO X R)} {st : Nat → X} {n : Nat} {q : Nat → Bool} {Q : R → Prop} {o : LO X R} {k : LO X R → Option S} {Post : Bool → Option S → Prop}
    (h1 : ∀ i, i < n → (q i = false → f (st i) = some (.next (st (i + 1)))) ∧ (q i = true → ∃ r, f (st i) = some (.ret r) ∧ Q r)) (h2 : f (st n) = some o) (ho : ∀ y, o ≠ .next y)
    (hA : Post false (k o)) (hB : ∀ r, Q r → Post true (k (.ret r))) : Post ((List.range n).any q) (Option.bind (tloop f (st 0)) k) := by
  refine chk_bind (p := fun i => !q i) (Q := Q) (o := o) (Post := fun x => Post ((List.range n).any q) x) (fun i hi => ?_) h2 ho (fun hall => ?_) (fun hall r hr => ?_)
  · obtain ⟨g1, g2⟩ := h1 i hi
    cases hq : q i with
    | true => exact ⟨(fun h => by cases h), fun _ => g2 hq⟩
    | false => exact ⟨fun _ => g1 hq, (fun h => by cases h)⟩
  · have : (List.range n).any q = false := by
      rw [List.any_eq_false]
      intro x hx
      have := List.all_eq_true.1 hall x hx
      simpa using this
    rw [this]; exact hA
  · have : (List.range n).any q = true := by
      rw [List.all_eq_false] at hall
      obtain ⟨x, hx, h⟩ := hall
      rw [List.any_eq_true]
      exact ⟨x, hx, by simpa using h⟩
    rw [this]; exact hB r hr
theorem any_idx' {α : Type} (d : α) (q : α → Bool) (x : List α) : (List.range x.length).any (fun i => q (x.getD i d)) = x.any q := by
  have := any_idx d q x
  rw [Bool.eq_iff_iff] at this ⊢
  rw [List.any_eq_true]
  constructor
  · rintro ⟨i, hi, h⟩
    cases hx : x.any q with
    | true => rfl
    | false =>
      rw [hx] at this
      have := List.all_eq_true.1 (this.2 rfl) i hi
      rw [h] at this; cases this
  · intro hx
    by_cases hc : ∃ i, i ∈ List.range x.length ∧ q (x.getD i d) = true
    · exact hc
    · exfalso
      have h2 : ((List.range x.length).all fun i => !q (x.getD i d)) = true := by
        rw [List.all_eq_true]
        intro i hi
        cases hq : q (x.getD i d) with
        | true => exact absurd ⟨i, hi, hq⟩ hc
        | false => rfl
      have := this.1 h2
      rw [hx] at this; cases this

end Go.Ve.D

