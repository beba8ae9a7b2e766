/- Fractions: the law. -/
import Derived.Test.YtkafcpbbcpngdaaMfi
namespace Go.Ve.D
open Go Go.Ve

/-! The reference's spans. -/
def rowB (c : Cat) (w : List Int) (y : Int) (u : Nat) (b : Int) : List (List Int) := bif w.contains b then (homL c (u : Int) y).map fun a => [(u : Int), b, a] else []
def rowU (c : Cat) (w : List Int) (x y : Int) (u : Nat) : List (List Int) := (List.range (homL c (u : Int) x).length).flatMap fun i => rowB c w y u ((homL c (u : Int) x).getD i 0)
def spR (c : Cat) (w : List Int) (x y : Int) : List (List Int) := (List.range c.1.toNat).flatMap (rowU c w x y)
theorem rowB_eq {c : Cat} {w : List Int} {y : Int} {u : Nat} {b : Int} : rowB c w y u b = (spB c w y u b).map row3 := by
  unfold rowB spB
  cases w.contains b with
  | false => rfl
  | true => simp [row3]
theorem spR_eq {c : Cat} {w : List Int} {x y : Int} : spR c w x y = (spT c w x y).map row3 := by
  unfold spR spT rowU spU
  simp only [rowB_eq, List.map_flatMap]
theorem rowB_len {c : Cat} {w : List Int} {y : Int} {u : Nat} {b : Int} : (rowB c w y u b).length ≤ ar c := by
  rw [rowB_eq, List.length_map]; exact spB_len
theorem rowU_len {c : Cat} (hm : ar c ≤ 40) {w : List Int} {x y : Int} {u : Nat} : (rowU c w x y u).length ≤ 1600 := by
  have e : rowU c w x y u = (spU c w x y u).map row3 := by unfold rowU spU; simp only [rowB_eq, List.map_flatMap]
  rw [e, List.length_map]; exact spU_len hm
theorem p91 {c : Cat} (h : Sh c) {w : List Int} (hw : w.length ≤ 1048576) (x y : Int) : G91 (c, (w, (x, y))) = some (spR c w x y) := by
  have hh := h.hd
  obtain ⟨a1, a2, a3, a4, a5, a6, a7, a8⟩ := hh
  have hm : ar c ≤ 40 := a2
  have hm2 : c.2.1.length ≤ 1048576 := by omega
  obtain ⟨n, hn⟩ : ∃ n : Nat, c.1 = (n : Int) := ⟨c.1.toNat, by omega⟩
  have ec : ((n : Int), (c.2.1, (c.2.2.1, (c.2.2.2.1, c.2.2.2.2)))) = c := by rw [← hn]
  unfold G91 spR
  rw [hn, Int.toNat_natCast]
  simp only [hn, ec]
  refine bind_of (v := .brk 0 ((n : Int), [] ++ (List.range n).flatMap (rowU c w x y))) (accum (K := 1600) (L := 0) (fun u hu => rowU_len hm) (fun u hu acc ha => ?_) (fun acc => ?_) [] (Nat.zero_le _)) (by rw [List.nil_append]; rfl)
  rotate_left
  · simp only [lt_cast, Nat.lt_irrefl, decide_false, cond_false]
  have hacc : acc.length ≤ 20000 := by
    have : u * 1600 ≤ 8 * 1600 := Nat.mul_le_mul_right _ (by omega)
    omega
  have hbl := homL_len (c := c) (x := (u : Int)) (y := x)
  have hal := homL_len (c := c) (x := (u : Int)) (y := y)
  simp only [lt_cast, hu, decide_true, cond_true, p116 hm2 a3, Option.bind_some]
  refine bind_of (v := .brk 2 (((homL c (u : Int) x).length : Int), acc ++ rowU c w x y u)) (accum (K := 40) (L := acc.length) (fun i hi => Nat.le_trans rowB_len hm) (fun i hi acc2 ha2 => ?_) (fun acc2 => ?_) acc (Nat.le_refl _)) ?_
  · obtain ⟨b, hb, eb⟩ := homL_get hi
    have hacc2 : acc2.length ≤ 30000 := by
      have : i * 40 ≤ 40 * 40 := Nat.mul_le_mul_right _ (by omega)
      omega
    simp only [lt_cast, hi, decide_true, cond_true, in_cast hi, and_self, if_true, Int.toNat_natCast, eb, p117 hw, Option.bind_some]
    unfold rowB
    cases w.contains (b : Int) with
    | false =>
      simp only [cond_false, List.append_nil]
      refine bind_of (v := .brk 4 ((0 : Int), acc2)) ?_ ?_
      · rw [tloop_eq]
        simp only
        cases decide ((0 : Int) < ((homL c (u : Int) y).length : Nat)) <;> rfl
      · show (if 4 = 4 then _ else none) = _
        rw [if_pos rfl, wrap_sm (by omega) (by omega)]; rfl
    | true =>
      simp only [cond_true]
      refine bind_of (v := .brk 4 (((homL c (u : Int) y).length : Int), acc2 ++ (List.range (homL c (u : Int) y).length).flatMap fun j => [[(u : Int), (b : Int), (homL c (u : Int) y).getD j 0]])) (accum (K := 1) (L := acc2.length) (fun j hj => Nat.le_refl _) (fun j hj acc3 ha3 => ?_) (fun acc3 => ?_) acc2 (Nat.le_refl _)) ?_
      · simp only [lt_cast, hj, decide_true, cond_true, in_cast hj, and_self, if_true, Int.toNat_natCast, List.length_cons, List.length_nil, Option.bind_some]
        rw [wrap_sm (by omega) (by omega), if_pos (show acc3.length + (0 + 1) ≤ 5864062014805 by omega)]
        rfl
      · simp only [lt_cast, Nat.lt_irrefl, decide_false, cond_false, Option.bind_some]
      · show (if 4 = 4 then _ else none) = _
        rw [if_pos rfl, wrap_sm (by omega) (by omega), flat_map1 (0 : Int) (fun a => [(u : Int), (b : Int), a])]
        rfl
  · simp only [lt_cast, Nat.lt_irrefl, decide_false, cond_false]
  · show (if 2 = 2 then _ else none) = _
    rw [if_pos rfl, wrap_sm (by omega) (by omega)]; rfl
def resF (c : Cat) (w : List Int) (x y : Int) : List (List Int) × Int := bif decide (codeF c w x y = 0) then (spR c w x y, 0) else ([], codeF c w x y)
theorem codeF_0 {c : Cat} {w : List Int} {x y : Int} (h : codeF c w x y = 0) : isCat c = true := by
  unfold codeF at h
  cases hc : isCat c with
  | true => rfl
  | false => rw [hc] at h; cases h
theorem p48 {c : Cat} (h : okC c) {w : List Int} (hw : w.length ≤ 1048576) (x y : Int) : G48 (c, (w, (x, y))) = some (resF c w x y) := by
  unfold G48 resF
  simp only [Prod.eta, p90 h hw, Option.bind_some]
  cases hz : decide (codeF c w x y = 0) with
  | false => rfl
  | true =>
    simp only [Bool.not_true, cond_false, cond_true, p91 (isCat_sh (codeF_0 (of_decide_eq_true hz))) hw, Option.bind_some]
theorem spT_len {c : Cat} (h : Sh c) {w : List Int} {x y : Int} : (spT c w x y).length ≤ 12800 := by
  have hh := h.hd
  obtain ⟨a1, a2, _⟩ := hh
  have := flat_len (g := spU c w x y) (K := 1600) c.1.toNat fun u _ => spU_len a2
  have : c.1.toNat * 1600 ≤ 8 * 1600 := Nat.mul_le_mul_right _ (by omega)
  unfold spT; omega
theorem p50 {c : Cat} (h : okC c) {w : List Int} (hw : w.length ≤ 1048576) (x y : Int) : G50 (c, (w, (x, y))) = some (resF c w x y) := by
  unfold G50 resF
  simp only [Prod.eta, p92 h hw, Option.bind_some]
  cases hz : decide (codeF c w x y = 0) with
  | false =>
    simp only [cond_false, hz, Bool.not_false, cond_true]
  | true =>
    have hsh := isCat_sh (codeF_0 (of_decide_eq_true hz))
    have hl := spT_len hsh (w := w) (x := x) (y := y)
    simp only [cond_true, decide_true, Bool.not_true, cond_false, p93 hsh, Option.bind_some]
    rw [spR_eq]
    generalize spT c w x y = l at hl
    refine bind_of (v := .brk 0 ((l.length : Int), (l.map row3, l))) ?_ rfl
    refine tloop_iter (st := fun i : Nat => ((i : Int), ((l.take i).map row3, l))) (n := l.length) (fun i hi => ?_) ?_ (fun y => by simp)
    · simp only [lt_cast, hi, decide_true, cond_true, in_cast hi, and_self, if_true, Int.toNat_natCast, List.length_cons, List.length_nil, List.length_map, List.length_take]
      rw [wrap_sm (by omega) (by omega), if_pos (by omega), ← take_snoc (0, 0, 0) hi, List.map_append]
      rfl
    · simp only [lt_cast, Nat.lt_irrefl, decide_false, cond_false, List.take_length]
theorem mk22 {c : Cat} {k : Int} (h0 : 0 ≤ k) (h1 : k ≤ 562949953421312) (h : okC c) : ∃ k' y, G22 (c, k) = some (k', y) ∧ 0 ≤ k' ∧ k' ≤ k + 8796093022208 := by
  obtain ⟨g1, g2, g3, g4, g5⟩ := h
  obtain ⟨k1, y1, a1, b1, c1, d1⟩ := mh53 h0 (by omega) g1
  obtain ⟨k2, y2, a2, b2, c2, d2⟩ := mh53 b1 (by omega) g2
  obtain ⟨k3, y3, a3, b3, c3, d3⟩ := mh53 b2 (by omega) g3
  obtain ⟨k4, y4, a4, b4, c4, d4⟩ := mh54 b3 (by omega) g4 g5
  refine ⟨k4, (y1, (y2, (y3, y4))), ?_, b4, by omega⟩
  unfold G22
  simp only [a1, a2, a3, a4, Option.bind_some]
theorem resF_len {c : Cat} {w : List Int} {x y : Int} : (resF c w x y).1.length ≤ 1048576 ∧ ∀ r ∈ (resF c w x y).1, r.length ≤ 1048576 := by
  unfold resF
  cases hz : decide (codeF c w x y = 0) with
  | false => exact ⟨Nat.zero_le _, fun r hr => by cases hr⟩
  | true =>
    have hsh := isCat_sh (codeF_0 (of_decide_eq_true hz))
    have hl := spT_len hsh (w := w) (x := x) (y := y)
    simp only [cond_true, spR_eq, List.length_map]
    refine ⟨by omega, fun r hr => ?_⟩
    obtain ⟨t, _, rfl⟩ := List.mem_map.1 hr
    show [t.1, t.2.1, t.2.2].length ≤ _
    simp
theorem p10 (x : Cat × List Int × Int × Int) (h : okT (PT S10.ps) x) : G10 x = some true := by
  obtain ⟨c, w, x, y⟩ := x
  obtain ⟨⟨_, h1, h2, h3, h4⟩, hw, _⟩ := h
  unfold G10
  by_cases hb : (1048576 : Int) < ((w.length : Nat) : Int)
  · simp only [hb, decide_true, cond_true]
  have hw : w.length ≤ 1048576 := by omega
  simp only [hb, decide_false, cond_false, Prod.eta]
  obtain ⟨r1, e1, f1⟩ := p11 (c := c) h1.1 h2.1 h3.1 h4.1 (fun y hy => (h4.2 y hy).1)
  simp only [e1, Option.bind_some]
  by_cases n1 : r1 < 0
  · simp only [n1, decide_true, cond_true]
  have hc := (f1.resolve_left n1).2.2
  obtain ⟨q1, q2⟩ := resF_len (c := c) (w := w) (x := x) (y := y)
  simp only [n1, decide_false, cond_false, p14 hc, p49 hw, p48 hc hw, p50 hc hw, Option.bind_some]
  generalize resF c w x y = r at q1 q2
  obtain ⟨k1, y1, a1, b1, c1⟩ := mk22 (c := c) (k := 1) (by omega) (by omega) hc
  obtain ⟨k2, y2, a2, b2, c2, d2⟩ := mh53 (x := w) (k := k1) b1 (by omega) hw
  obtain ⟨k3, y3, a3, b3, c3, d3⟩ := mh54 (x := r.1) (k := 1) (by omega) (by omega) q1 q2
  have m2 : ¬ (k2 < 0) := by omega
  have m3 : ¬ (k3 < 0) := by omega
  simp only [p51 q1 q2, p17 hc, p52 hw, a1, a2, a3, d3, m2, m3, Option.bind_some, Bool.not_true, cond_false, decide_true, decide_false]
end Go.Ve.D

