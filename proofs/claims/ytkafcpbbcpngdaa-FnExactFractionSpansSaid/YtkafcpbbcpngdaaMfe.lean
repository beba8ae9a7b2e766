/- Fractions: squares. -/
import Derived.Test.YtkafcpbbcpngdaaMfd
namespace Go.Ve.D
open Go Go.Ve

theorem homL_get {c : Cat} {x y : Int} {i : Nat} (hi : i < (homL c x y).length) : ∃ f : Nat, f < ar c ∧ (homL c x y).getD i 0 = (f : Int) := by
  have hm : (homL c x y).getD i 0 ∈ homL c x y := getD_mem' 0 hi
  obtain ⟨f, hf, e⟩ := List.mem_map.1 hm
  exact ⟨f, List.mem_range.1 (List.mem_filter.1 hf).1, e.symm⟩
theorem homL_len {c : Cat} {x y : Int} : (homL c x y).length ≤ ar c := by
  unfold homL
  rw [List.length_map]
  have := List.length_filter_le (fun f => decide (fT c f = x) && decide (tT c f = y)) (List.range (ar c))
  rwa [List.length_range] at this
/-- the arrows b of the set and a complete f and v to a square -/
def hit (c : Cat) (w : List Int) (f v : Nat) (b a : Int) : Bool := w.contains b && decide (T c b.toNat f = T c a.toNat v)
def sqS (c : Cat) (w : List Int) (f v : Nat) (s : Nat) : Bool := (homL c (s : Int) (fT c f)).any fun b => (homL c (s : Int) (fT c v)).any fun a => hit c w f v b a
def sq (c : Cat) (w : List Int) (f v : Nat) : Bool := (List.range c.1.toNat).any (sqS c w f v)

/-- a loop that looks for one -/
theorem srch {X R S : Type} {f : X → Option (LO X R)} {st : Nat → X} {n : Nat} {q : Nat → Bool} {Q : R → Prop} {o : LO X R} {k : LO X R → Option S} {Post : Bool → Option S → Prop}
    (h1 : ∀ i, i < n → (q i = false → f (st i) = some (.next (st (i + 1)))) ∧ (q i = true → ∃ r, f (st i) = some (.ret r) ∧ Q r)) (h2 : f (st n) = some o) (ho : ∀ y, o ≠ .next y)
    (hA : Post false (k o)) (hB : ∀ r, Q r → Post true (k (.ret r))) : Post ((List.range n).any q) (Option.bind (tloop f (st 0)) k) := by
  refine chk_bind (p := fun i => !q i) (Q := Q) (o := o) (Post := fun x => Post ((List.range n).any q) x) (fun i hi => ?_) h2 ho (fun hall => ?_) (fun hall r hr => ?_)
  · obtain ⟨g1, g2⟩ := h1 i hi
    cases hq : q i with
    | true => exact ⟨(fun h => by cases h), fun _ => g2 hq⟩
    | false => exact ⟨fun _ => g1 hq, (fun h => by cases h)⟩
  · have : (List.range n).any q = false := by
      rw [List.any_eq_false]
      intro x hx
      have := List.all_eq_true.1 hall x hx
      simpa using this
    rw [this]; exact hA
  · have : (List.range n).any q = true := by
      rw [List.all_eq_false] at hall
      obtain ⟨x, hx, h⟩ := hall
      rw [List.any_eq_true]
      exact ⟨x, hx, by simpa using h⟩
    rw [this]; exact hB r hr
theorem any_idx' {α : Type} (d : α) (q : α → Bool) (x : List α) : (List.range x.length).any (fun i => q (x.getD i d)) = x.any q := by
  have := any_idx d q x
  rw [Bool.eq_iff_iff] at this ⊢
  rw [List.any_eq_true]
  constructor
  · rintro ⟨i, hi, h⟩
    cases hx : x.any q with
    | true => rfl
    | false =>
      rw [hx] at this
      have := List.all_eq_true.1 (this.2 rfl) i hi
      rw [h] at this; cases this
  · intro hx
    by_cases hc : ∃ i, i ∈ List.range x.length ∧ q (x.getD i d) = true
    · exact hc
    · exfalso
      have h2 : ((List.range x.length).all fun i => !q (x.getD i d)) = true := by
        rw [List.all_eq_true]
        intro i hi
        cases hq : q (x.getD i d) with
        | true => exact absurd ⟨i, hi, hq⟩ hc
        | false => rfl
      have := this.1 h2
      rw [hx] at this; cases this

theorem p138 {c : Cat} (h : Sh c) {w : List Int} (hw : w.length ≤ 1048576) {f v : Nat} (hf : f < ar c) (hv : v < ar c) : ∃ r, G138 (c, (w, ((f : Int), (v : Int)))) = some r ∧ r.2.2.2 = sq c w f v := by
  have hh := h.hd
  obtain ⟨a1, a2, a3, a4, a5, a6, a7, a8⟩ := hh
  have hm : ar c ≤ 40 := a2
  have hm2 : c.2.1.length ≤ 1048576 := by omega
  obtain ⟨n, hn⟩ : ∃ n : Nat, c.1 = (n : Int) := ⟨c.1.toNat, by omega⟩
  unfold G138 sq
  rw [hn, Int.toNat_natCast]
  simp only [Prod.eta, hn]
  refine srch (st := fun i : Nat => (i : Int)) (n := n) (q := sqS c w f v) (Q := fun r : Int × Int × Int × Bool => r.2.2.2 = true) (o := .brk 0 (n : Int)) (Post := fun b (o : Option (Int × Int × Int × Bool)) => ∃ r, o = some r ∧ r.2.2.2 = b) (fun s hs => ?_) ?_ (fun y => by simp) ⟨_, rfl, rfl⟩ (fun r hr => ⟨r, rfl, hr⟩)
  rotate_left
  · simp only [lt_cast, Nat.lt_irrefl, decide_false, cond_false]
  have hf2 : f < c.2.1.length := hf
  have hv2 : v < c.2.1.length := hv
  have ec : ((n : Int), (c.2.1, (c.2.2.1, (c.2.2.2.1, c.2.2.2.2)))) = c := by rw [← hn]
  simp only [ec, lt_cast, hs, decide_true, cond_true, in_cast hf2, in_cast hv2, and_self, if_true, Int.toNat_natCast, p116 hm2 a3, Option.bind_some]
  have eq1 : sqS c w f v s = (List.range (homL c (s : Int) (fT c f)).length).any fun i => (List.range (homL c (s : Int) (fT c v)).length).any fun j => hit c w f v ((homL c (s : Int) (fT c f)).getD i 0) ((homL c (s : Int) (fT c v)).getD j 0) := by
    unfold sqS
    rw [← any_idx' (0 : Int) (fun b => (homL c (s : Int) (fT c v)).any fun a => hit c w f v b a)]
    refine any_congr' fun i _ => ?_
    rw [any_idx' (0 : Int) (fun a => hit c w f v _ a)]
  rw [eq1]
  refine srch (st := fun i : Nat => (i : Int)) (n := (homL c (s : Int) (fT c f)).length) (q := fun i => (List.range (homL c (s : Int) (fT c v)).length).any fun j => hit c w f v ((homL c (s : Int) (fT c f)).getD i 0) ((homL c (s : Int) (fT c v)).getD j 0)) (Q := fun r : LO Int (Int × Int × Int × Bool) => ∃ r', r = .ret r' ∧ r'.2.2.2 = true) (o := .brk 2 ((homL c (s : Int) (fT c f)).length : Int))
    (Post := fun b (o : Option (LO Int (Int × Int × Int × Bool))) => (b = false → o = some (.next ((s + 1 : Nat) : Int))) ∧ (b = true → ∃ r, o = some (.ret r) ∧ r.2.2.2 = true)) (fun i hi => ?_) ?_ (fun y => by simp) ⟨fun _ => ?_, (fun h => by cases h)⟩ (fun r hr => ⟨(fun h => by cases h), fun _ => ?_⟩)
  rotate_left
  · have e : decide ((((homL c (s : Int) (fT c f)).length : Nat) : Int) < (((homL c (s : Int) (fT c f)).length : Nat) : Int)) = false := by simp
    show (bif decide ((((homL c (s : Int) (fT c f)).length : Nat) : Int) < (((homL c (s : Int) (fT c f)).length : Nat) : Int)) then _ else _) = _
    rw [e, cond_false]
  · show (if 2 = 2 then _ else none) = _
    rw [if_pos rfl, wrap_sm (by omega) (by omega)]; rfl
  · obtain ⟨r', rfl, h'⟩ := hr
    exact ⟨r', rfl, h'⟩
  obtain ⟨b, hb, eb⟩ := homL_get hi
  have hbl := homL_len (c := c) (x := (s : Int)) (y := fT c f)
  have e1 : decide ((i : Int) < (((homL c (s : Int) (c.2.1.getD f 0)).length : Nat) : Int)) = true := by rw [lt_cast]; exact decide_eq_true hi
  simp only [e1, cond_true]
  refine srch (st := fun i : Nat => (i : Int)) (n := (homL c (s : Int) (fT c v)).length) (q := fun j => hit c w f v ((homL c (s : Int) (fT c f)).getD i 0) ((homL c (s : Int) (fT c v)).getD j 0)) (Q := fun r : LO Int (LO Int (Int × Int × Int × Bool)) => ∃ r', r = .ret (.ret r') ∧ r'.2.2.2 = true) (o := .brk 4 ((homL c (s : Int) (fT c v)).length : Int))
    (Post := fun b (o : Option (LO Int (LO Int (Int × Int × Int × Bool)))) => (b = false → o = some (.next ((i + 1 : Nat) : Int))) ∧ (b = true → ∃ r, o = some (.ret r) ∧ ∃ r', r = .ret r' ∧ r'.2.2.2 = true)) (fun j hj => ?_) ?_ (fun y => by simp) ⟨fun _ => ?_, (fun h => by cases h)⟩ (fun r hr => ⟨(fun h => by cases h), fun _ => ?_⟩)
  rotate_left
  · have e : decide ((((homL c (s : Int) (fT c v)).length : Nat) : Int) < (((homL c (s : Int) (fT c v)).length : Nat) : Int)) = false := by simp
    show (bif decide ((((homL c (s : Int) (fT c v)).length : Nat) : Int) < (((homL c (s : Int) (fT c v)).length : Nat) : Int)) then _ else _) = _
    rw [e, cond_false]
  · show (if 4 = 4 then _ else none) = _
    rw [if_pos rfl, wrap_sm (by omega) (by omega)]; rfl
  · obtain ⟨r', rfl, h'⟩ := hr
    exact ⟨_, rfl, r', rfl, h'⟩
  obtain ⟨a, ha, ea⟩ := homL_get hj
  have hal := homL_len (c := c) (x := (s : Int)) (y := fT c v)
  have e2 : decide ((j : Int) < (((homL c (s : Int) (c.2.1.getD v 0)).length : Nat) : Int)) = true := by rw [lt_cast]; exact decide_eq_true hj
  have eb' : (homL c (s : Int) (c.2.1.getD f 0)).getD i 0 = (b : Int) := eb
  have ea' : (homL c (s : Int) (c.2.1.getD v 0)).getD j 0 = (a : Int) := ea
  have i1 : (0 : Int) ≤ (i : Int) ∧ (i : Int) < (((homL c (s : Int) (c.2.1.getD f 0)).length : Nat) : Int) := in_cast hi
  have i2 : (0 : Int) ≤ (j : Int) ∧ (j : Int) < (((homL c (s : Int) (c.2.1.getD v 0)).length : Nat) : Int) := in_cast hj
  simp only [e2, cond_true, i1, i2, and_self, if_true, Int.toNat_natCast, eb', ea', p117 hw, Option.bind_some, p145 h (in_cast hb) (in_cast hf), p145 h (in_cast ha) (in_cast hv)]
  rw [wrap_sm (by omega) (by omega), eb, ea]
  unfold hit
  rw [Int.toNat_natCast, Int.toNat_natCast]
  cases w.contains (b : Int) with
  | false => exact ⟨fun _ => rfl, (fun h => by cases h)⟩
  | true =>
    simp only [cond_true, Option.bind_some, Bool.true_and]
    refine ⟨fun hc => ?_, fun hc => ?_⟩
    · rw [hc]; rfl
    · rw [hc]; exact ⟨_, rfl, _, rfl, rfl⟩
end Go.Ve.D

