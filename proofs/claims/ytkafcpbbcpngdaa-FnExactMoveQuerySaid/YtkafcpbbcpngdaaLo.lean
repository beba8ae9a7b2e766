/- The identity functor: the law. -/
import Derived.Test.YtkafcpbbcpngdaaLn
namespace Go.Ve.D
open Go Go.Ve

theorem p66 {c : Cat} (h : okC c) (h0 : 0 ≤ c.1) (h1 : c.1 ≤ 1048576) : G66 c = some (mkF c c (nums c.1.toNat) (nums c.2.1.length)) := by
  obtain ⟨c1, c2, c3, c4, c5⟩ := c
  simp only at h0 h1
  obtain ⟨n, rfl⟩ : ∃ n : Nat, c1 = (n : Int) := ⟨c1.toNat, by omega⟩
  have hb : c2.length ≤ 1048576 := h.1
  unfold G66
  simp only
  refine bind_of (v := .brk 0 ((n : Int), nums n)) (tloop_iter (st := fun i : Nat => ((i : Int), nums i)) (n := n) (fun i hi => ?_) ?_ (fun y => by simp)) ?_
  · simp only [lt_cast, hi, decide_true, cond_true, nums_len, List.length_cons, List.length_nil]
    rw [if_pos (by omega), wrap_sm (by omega) (by omega), nums_succ]
    rfl
  · simp only [lt_cast, Nat.lt_irrefl, decide_false, cond_false]
  show (if 0 = 0 then _ else none) = _
  rw [if_pos rfl]
  refine bind_of (v := .brk 2 ((c2.length : Int), nums c2.length)) (tloop_iter (st := fun i : Nat => ((i : Int), nums i)) (n := c2.length) (fun i hi => ?_) ?_ (fun y => by simp)) ?_
  · simp only [lt_cast, hi, decide_true, cond_true, nums_len, List.length_cons, List.length_nil]
    rw [if_pos (by omega), wrap_sm (by omega) (by omega), nums_succ]
    rfl
  · simp only [lt_cast, Nat.lt_irrefl, decide_false, cond_false]
  show (if 2 = 2 then _ else none) = _
  rw [if_pos rfl]
  simp only [Prod.eta, p99 h h (o := nums n) (a := nums c2.length) (by rw [nums_len]; omega) (by rw [nums_len]; exact hb), Option.bind_some, Int.toNat_natCast]
theorem p68 {c : Cat} (h : okC c) (h0 : 0 ≤ c.1) (h1 : c.1 ≤ 1048576) : G68 c = some (mkF c c (nums c.1.toNat) (nums c.2.1.length)) := by
  obtain ⟨c1, c2, c3, c4, c5⟩ := c
  simp only at h0 h1
  obtain ⟨n, rfl⟩ : ∃ n : Nat, c1 = (n : Int) := ⟨c1.toNat, by omega⟩
  have hb : c2.length ≤ 1048576 := h.1
  unfold G68
  simp only [p103 (n := n) (by omega), p104, p103 (n := c2.length) hb, Option.bind_some]
  rw [p102 h h (o := nums n) (a := nums c2.length) (by rw [nums_len]; omega) (by rw [nums_len]; exact hb)]
  simp only [Option.bind_some, Prod.eta, Int.toNat_natCast]
theorem cat_sh {c : Cat} (h : isCat c = true) : Sh c := by
  unfold isCat at h
  rw [Bool.and_eq_true] at h
  exact sh_of h.1
def zF : Fun := ((0 : Int), ([], ([], ([], ([], ((0 : Int), ([], ([], ([], ([], ([], []))))))))))) 
def idF (c : Cat) : Fun × Int := bif isCat c then (mkF c c (nums c.1.toNat) (nums c.2.1.length), 0) else (zF, 1)
theorem p19 {c : Cat} (h : okC c) : G19 c = some (idF c) := by
  unfold G19 idF
  simp only [Prod.eta, p59 h, Option.bind_some]
  cases hc : isCat c with
  | false => rfl
  | true =>
    have hd := (cat_sh hc).hd.1
    simp only [Bool.not_true, cond_false, p66 h hd.1 (by omega), Option.bind_some]
    rfl
theorem p20 {c : Cat} (h : okC c) : G20 c = some (idF c) := by
  unfold G20 idF
  simp only [Prod.eta, p67 h, Option.bind_some]
  cases hc : isCat c with
  | false => rfl
  | true =>
    have hd := (cat_sh hc).hd.1
    simp only [Bool.not_true, cond_false, p68 h hd.1 (by omega), Option.bind_some]
    rfl
theorem okF_z : okF zF := ⟨⟨Nat.zero_le _, Nat.zero_le _, Nat.zero_le _, Nat.zero_le _, fun y hy => by cases hy⟩, ⟨Nat.zero_le _, Nat.zero_le _, Nat.zero_le _, Nat.zero_le _, fun y hy => by cases hy⟩, Nat.zero_le _, Nat.zero_le _⟩
theorem idF_ok {c : Cat} (h : okC c) : okF (idF c).1 := by
  unfold idF
  cases hc : isCat c with
  | false => exact okF_z
  | true =>
    have hd := (cat_sh hc).hd.1
    exact okF_mk h h (by rw [nums_len]; omega) (by rw [nums_len]; exact h.1)

theorem p4 (x : Cat) (h : okT (PT S4.ps) x) : G4 x = some true := by
  have h : okT (PT S4.ps) x := h
  obtain ⟨_, h1, h2, h3, h4⟩ := h
  unfold G4
  simp only [Prod.eta]
  obtain ⟨r1, e1, f1⟩ := p11 (c := x) h1.1 h2.1 h3.1 h4.1 (fun y hy => (h4.2 y hy).1)
  simp only [e1, Option.bind_some]
  by_cases n1 : r1 < 0
  · simp only [n1, decide_true, cond_true]
  simp only [n1, decide_false, cond_false]
  have hx := (f1.resolve_left n1).2.2
  have hf := idF_ok hx
  simp only [p14 hx, p19 hx, p20 hx, Option.bind_some]
  generalize idF x = r at hf
  obtain ⟨k1, y1, y2, y3, y4, a1, b1, c1, d1⟩ := mh22 (c := x) (k := 1) (by omega) (by omega) hx
  obtain ⟨k2, z1, z2, z3, z4, z5, z6, z7, z8, z9, z10, a2, b2, c2, d2⟩ := mh23 (f := r.1) (k := 1) (by omega) (by omega) hf
  have m1 : ¬ (k1 < 0) := by omega
  have m2 : ¬ (k2 < 0) := by omega
  simp only [p21 hf, p17 hx, a1, a2, d2, m1, m2, Option.bind_some, Bool.not_true, cond_false, decide_true, decide_false]
end Go.Ve.D

