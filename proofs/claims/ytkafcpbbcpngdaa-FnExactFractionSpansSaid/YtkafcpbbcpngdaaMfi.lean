/- Fractions: the spans, the law. -/
import Derived.Test.YtkafcpbbcpngdaaMfh
namespace Go.Ve.D
open Go Go.Ve

/-! The code. -/
def objC (c : Cat) (xs : List Int) : Int := bif !isCat c then 1 else bif !wi c.1 xs then 2 else 0
theorem p114 {c : Cat} (h : okC c) {xs : List Int} (hx : xs.length ≤ 1048576) : G114 (c, xs) = some (objC c xs) := by
  unfold G114 objC
  simp only [Prod.eta, p59 h, Option.bind_some, p60 hx]
  cases isCat c with
  | false => rfl
  | true =>
    simp only [Bool.not_true, cond_false]
    cases wi c.1 xs <;> rfl
def codeF (c : Cat) (w : List Int) (x y : Int) : Int := bif !isCat c then 1 else bif !(wi (ar c) w && wi c.1 [x, y]) then 2 else bif !(risB w && frac c w) then 5 else 0
theorem isCat_shape {c : Cat} (h : isCat c = true) : shape c = true := by
  unfold isCat at h
  rw [Bool.and_eq_true] at h
  exact h.1
theorem p115 {c : Cat} (h : okC c) {w : List Int} (hw : w.length ≤ 1048576) : G115 (c, w) = some (bif decide (setC c w = 0) then (bif frac c w then 0 else 5) else setC c w) := by
  unfold G115
  simp only [Prod.eta, p127 h hw, Option.bind_some]
  cases hz : decide (setC c w = 0) with
  | false => rfl
  | true =>
    have hz0 := of_decide_eq_true hz
    have hcat : isCat c = true := by
      cases hc : isCat c with
      | true => rfl
      | false => unfold setC arrC at hz0; rw [hc] at hz0; cases hz0
    have hwi : wi (ar c) w = true := by
      cases hc : wi (ar c) w with
      | true => rfl
      | false => unfold setC arrC at hz0; rw [hcat, hc] at hz0; cases hz0
    obtain ⟨r, h1, h2⟩ := p128 (isCat_sh hcat) hw hwi
    simp only [cond_true, h1, Option.bind_some, h2, hz0]
    cases frac c w <;> rfl
theorem p90 {c : Cat} (h : okC c) {w : List Int} (hw : w.length ≤ 1048576) (x y : Int) : G90 (c, (w, (x, y))) = some (codeF c w x y) := by
  unfold G90 codeF
  simp only [Prod.eta, p114 h (show [x, y].length ≤ 1048576 by simp), p115 h hw, Option.bind_some]
  unfold objC setC arrC
  cases isCat c with
  | false => rfl
  | true => cases wi c.1 [x, y] <;> cases wi (ar c) w <;> cases risB w <;> cases frac c w <;> rfl
abbrev DenF := Cat × List Int × List Bool
def zD : DenF := ((0, [], [], [], []), [], [])
theorem p92 {c : Cat} (h : okC c) {w : List Int} (hw : w.length ≤ 1048576) (x y : Int) : G92 (c, (w, [x, y])) = some (bif decide (codeF c w x y = 0) then (true, ((c, (w, mkB c w)), 0)) else (false, (zD, codeF c w x y))) := by
  unfold G92 G118 codeF zD
  simp only [p129 h hw, Option.bind_some]
  unfold arrC
  cases hcat : isCat c with
  | false => rfl
  | true =>
  have hsh := isCat_sh hcat
  have h0 := hsh.hd.1
  cases hwi : wi (ar c) w with
  | false => rfl
  | true =>
  simp only [Bool.not_true, cond_false, Bool.true_and, decide_true, p111 (n := c.1) (x := [x, y]) ⟨h0.1, by omega⟩ (by simp), Option.bind_some]
  cases hxy : wi c.1 [x, y] with
  | false => rfl
  | true =>
  simp only [Bool.not_true, cond_false, p130 hw, Option.bind_some]
  cases hr : risB w with
  | false => rfl
  | true =>
  obtain ⟨r, h1, h2⟩ := p119 hsh (isCat_shape hcat) hw hwi
  simp only [Bool.not_true, cond_false, p131 h hw hwi, Option.bind_some, cond_true, decide_true, h1, h2, Bool.true_and]
  cases frac c w <;> rfl

/-! The spans. -/
theorem accum {α R : Type} {F : Int × List α → Option (LO (Int × List α) R)} {n K L : Nat} {g : Nat → List α} {id : Nat} (hg : ∀ i, i < n → (g i).length ≤ K)
    (h1 : ∀ i, i < n → ∀ acc : List α, acc.length ≤ L + i * K → F ((i : Int), acc) = some (.next (((i + 1 : Nat) : Int), acc ++ g i))) (h2 : ∀ acc : List α, F ((n : Int), acc) = some (.brk id ((n : Int), acc))) (acc0 : List α) (h0 : acc0.length ≤ L) :
    tloop F ((0 : Int), acc0) = some (.brk id ((n : Int), acc0 ++ (List.range n).flatMap g)) := by
  have hl : ∀ i, i ≤ n → (acc0 ++ (List.range i).flatMap g).length ≤ L + i * K := by
    intro i
    induction i with
    | zero => intro _; simpa using h0
    | succ i ih =>
      intro hi
      have := ih (by omega)
      have := hg i (by omega)
      rw [List.range_succ, List.flatMap_append, ← List.append_assoc, List.length_append]
      simp only [List.flatMap_cons, List.flatMap_nil, List.append_nil]
      rw [Nat.succ_mul]; omega
  have hst := tloop_iter (f := F) (st := fun i : Nat => ((i : Int), acc0 ++ (List.range i).flatMap g)) (n := n) (o := .brk id ((n : Int), acc0 ++ (List.range n).flatMap g)) (fun i hi => ?_) (h2 _) (fun y => by simp)
  · simpa using hst
  · rw [h1 i hi _ (hl i (by omega)), List.range_succ, List.flatMap_append, List.append_assoc]
    simp
def spB (c : Cat) (w : List Int) (y : Int) (u : Nat) (b : Int) : List (Int × Int × Int) := bif w.contains b then (homL c (u : Int) y).map fun a => ((u : Int), b, a) else []
def spU (c : Cat) (w : List Int) (x y : Int) (u : Nat) : List (Int × Int × Int) := (List.range (homL c (u : Int) x).length).flatMap fun i => spB c w y u ((homL c (u : Int) x).getD i 0)
def spT (c : Cat) (w : List Int) (x y : Int) : List (Int × Int × Int) := (List.range c.1.toNat).flatMap (spU c w x y)
def row3 (t : Int × Int × Int) : List Int := [t.1, t.2.1, t.2.2]
theorem flat_len {α : Type} {g : Nat → List α} {K : Nat} : ∀ n, (∀ i, i < n → (g i).length ≤ K) → ((List.range n).flatMap g).length ≤ n * K
  | 0, _ => by simp
  | n + 1, h => by
    have := flat_len n fun i hi => h i (by omega)
    have := h n (by omega)
    rw [List.range_succ, List.flatMap_append, List.length_append]
    simp only [List.flatMap_cons, List.flatMap_nil, List.append_nil]
    rw [Nat.succ_mul]; omega
theorem spB_len {c : Cat} {w : List Int} {y : Int} {u : Nat} {b : Int} : (spB c w y u b).length ≤ ar c := by
  unfold spB
  cases w.contains b with
  | false => exact Nat.zero_le _
  | true =>
    show ((homL c (u : Int) y).map _).length ≤ _
    rw [List.length_map]; exact homL_len
theorem spU_len {c : Cat} (hm : ar c ≤ 40) {w : List Int} {x y : Int} {u : Nat} : (spU c w x y u).length ≤ 1600 := by
  have := flat_len (g := fun i => spB c w y u ((homL c (u : Int) x).getD i 0)) (K := 40) (homL c (u : Int) x).length fun i _ => Nat.le_trans spB_len hm
  have h2 := homL_len (c := c) (x := (u : Int)) (y := x)
  have : (homL c (u : Int) x).length * 40 ≤ 40 * 40 := Nat.mul_le_mul_right _ (by omega)
  unfold spU; omega
theorem flat_map1 {α β : Type} (d : α) (f : α → β) (l : List α) : (List.range l.length).flatMap (fun j => [f (l.getD j d)]) = l.map f := by
  induction l with
  | nil => rfl
  | cons a l ih =>
    rw [List.length_cons, List.range_succ_eq_map, List.flatMap_cons, List.flatMap_map, List.map_cons]
    simp only [List.getD_cons_zero]
    have : (fun j : Nat => [f ((a :: l).getD (j + 1) d)]) = fun j => [f (l.getD j d)] := by funext j; simp
    show [f a] ++ (List.range l.length).flatMap (fun j : Nat => [f ((a :: l).getD (j + 1) d)]) = _
    rw [this, ih]; rfl

theorem p93 {c : Cat} (h : Sh c) {w : List Int} (x y : Int) : G93 ((c, (w, mkB c w)), (x, y)) = some (spT c w x y) := by
  have hh := h.hd
  obtain ⟨a1, a2, a3, a4, a5, a6, a7, a8⟩ := hh
  have hm : ar c ≤ 40 := a2
  have hm2 : c.2.1.length ≤ 1048576 := by omega
  obtain ⟨n, hn⟩ : ∃ n : Nat, c.1 = (n : Int) := ⟨c.1.toNat, by omega⟩
  unfold G93 spT
  rw [hn, Int.toNat_natCast]
  simp only [hn]
  refine bind_of (v := .brk 0 ((n : Int), [] ++ (List.range n).flatMap (spU c w x y))) (accum (K := 1600) (L := 0) (fun u hu => spU_len hm) (fun u hu acc ha => ?_) (fun acc => ?_) [] (Nat.zero_le _)) (by rw [List.nil_append]; rfl)
  rotate_left
  · simp only [lt_cast, Nat.lt_irrefl, decide_false, cond_false]
  have hacc : acc.length ≤ 20000 := by
    have : u * 1600 ≤ 8 * 1600 := Nat.mul_le_mul_right _ (by omega)
    omega
  have hbl := homL_len (c := c) (x := (u : Int)) (y := x)
  have hal := homL_len (c := c) (x := (u : Int)) (y := y)
  simp only [lt_cast, hu, decide_true, cond_true, p120 hm2 a3, Option.bind_some]
  refine bind_of (v := .brk 2 (((homL c (u : Int) x).length : Int), acc ++ spU c w x y u)) (accum (K := 40) (L := acc.length) (fun i hi => Nat.le_trans spB_len hm) (fun i hi acc2 ha2 => ?_) (fun acc2 => ?_) acc (Nat.le_refl _)) ?_
  · obtain ⟨b, hb, eb⟩ := homL_get hi
    have hacc2 : acc2.length ≤ 30000 := by
      have : i * 40 ≤ 40 * 40 := Nat.mul_le_mul_right _ (by omega)
      omega
    simp only [lt_cast, hi, decide_true, cond_true, in_cast hi, and_self, if_true, Int.toNat_natCast, eb, mkB_len, in_cast hb, mkB_get hb]
    unfold spB
    cases w.contains (b : Int) with
    | false =>
      simp only [Bool.not_false, cond_true, cond_false, List.append_nil]
      rw [wrap_sm (by omega) (by omega)]; rfl
    | true =>
      simp only [Bool.not_true, cond_true, cond_false]
      refine bind_of (v := .brk 4 (((homL c (u : Int) y).length : Int), acc2 ++ (List.range (homL c (u : Int) y).length).flatMap fun j => [((u : Int), ((b : Int), (homL c (u : Int) y).getD j 0))])) (accum (K := 1) (L := acc2.length) (fun j hj => Nat.le_refl _) (fun j hj acc3 ha3 => ?_) (fun acc3 => ?_) acc2 (Nat.le_refl _)) ?_
      · simp only [lt_cast, hj, decide_true, cond_true, in_cast hj, and_self, if_true, Int.toNat_natCast, List.length_cons, List.length_nil]
        rw [wrap_sm (by omega) (by omega), if_pos (show acc3.length + (0 + 1) ≤ 5864062014805 by omega)]
        rfl
      · simp only [lt_cast, Nat.lt_irrefl, decide_false, cond_false]
      · show (if 4 = 4 then _ else none) = _
        rw [if_pos rfl, wrap_sm (by omega) (by omega), flat_map1 (0 : Int) (fun a => ((u : Int), ((b : Int), a)))]
        rfl
  · simp only [lt_cast, Nat.lt_irrefl, decide_false, cond_false]
  · show (if 2 = 2 then _ else none) = _
    rw [if_pos rfl, wrap_sm (by omega) (by omega)]; rfl
end Go.Ve.D

