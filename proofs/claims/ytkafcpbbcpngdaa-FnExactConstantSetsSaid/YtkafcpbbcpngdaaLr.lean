/- The constant set functor: the law. -/
import Derived.Test.YtkafcpbbcpngdaaLo
namespace Go.Ve.D
open Go Go.Ve

abbrev SF := Int × List Int × List Int × List Int × List (List Int) × List Int × List (List Int)
abbrev SF2 := Int × List Int × List Int × List Int × List (List Int) × List Int × List (List Int) × Int × List Int × List Int × List Int × List (List Int) × List Int × List (List Int)
def mkS (c : Cat) (s : List Int) (a : List (List Int)) : SF := (c.1, (c.2.1, (c.2.2.1, (c.2.2.2.1, (c.2.2.2.2, (s, a))))))
def shS (f : SF) : Cat := (f.1, (f.2.1, (f.2.2.1, (f.2.2.2.1, f.2.2.2.2.1))))
def zzS (f : SF) : SF2 := ((0 : Int), ([], ([], ([], ([], ([], ([], f)))))))
def okS (f : SF) : Prop := okC (shS f) ∧ f.2.2.2.2.2.1.length ≤ 1048576 ∧ f.2.2.2.2.2.2.length ≤ 1048576 ∧ ∀ y ∈ f.2.2.2.2.2.2, y.length ≤ 1048576
theorem p27 {f : SF} (h : okS f) : G27 (f, f) = some true := by
  obtain ⟨h1, h2, h3, h4⟩ := h
  unfold G27
  have e1 : G17 (shS f, shS f) = some true := p17 h1
  unfold shS at e1
  simp only [e1, p52 h2, p51 h3 h4, Option.bind_some, Bool.not_true, cond_false]
theorem mh28 {f : SF} {k : Int} (h0 : 0 ≤ k) (h1 : k ≤ 281474976710656) (h : okS f) :
    ∃ k' y1 y2 y3 y4 y5 y6, G28 (f, k) = some (k', (y1, (y2, (y3, (y4, (y5, y6)))))) ∧ 0 ≤ k' ∧ k' ≤ k + 35184372088832 ∧ G29 ((f.1, (y1, (y2, (y3, (y4, (y5, y6)))))), k) = some k' := by
  obtain ⟨g1, g2, g3, g4⟩ := h
  obtain ⟨k1, y1, y2, y3, y4, a1, b1, c1, d1⟩ := mh22 h0 (by omega) g1
  obtain ⟨k2, y5, a2, b2, c2, d2⟩ := mh53 b1 (by omega) g2
  obtain ⟨k3, y6, a3, b3, c3, d3⟩ := mh54 b2 (by omega) g3 g4
  unfold shS at a1 d1
  refine ⟨k3, y1, y2, y3, y4, y5, y6, ?_, b3, by omega, ?_⟩
  · unfold G28
    simp only [a1, a2, a3, Option.bind_some]
  · unfold G29
    have n1 : ¬ (k1 < 0) := by omega
    have n2 : ¬ (k2 < 0) := by omega
    have n3 : ¬ (k3 < 0) := by omega
    simp only [d1, d2, d3, Option.bind_some, n1, n2, n3, decide_false, cond_false]

theorem rep_setS {N i : Nat} {n : Int} (hi : i < N) : (List.replicate i n ++ List.replicate (N - i) (0 : Int)).set i n = List.replicate (i + 1) n ++ List.replicate (N - (i + 1)) 0 := by
  have e : N - i = (N - (i + 1)) + 1 := by omega
  rw [e, List.replicate_succ, List.set_append_right _ _ (by simp), List.replicate_succ']
  simp
theorem p107 {n : Int} {N : Nat} (h : N ≤ 1048576) : G107 (n, (N : Int)) = some (List.replicate N n) := by
  unfold G107
  simp only [Int.toNat_natCast, List.length_replicate]
  rw [if_pos (by omega)]
  refine bind_of (v := .brk 0 ((N : Int), List.replicate N n)) (tloop_iter (st := fun i : Nat => ((i : Int), List.replicate i n ++ List.replicate (N - i) 0)) (n := N) (fun i hi => ?_) ?_ (fun y => by simp)) (by show (if 0 = 0 then _ else none) = _; rw [if_pos rfl])
  · have e : (List.replicate i n ++ List.replicate (N - i) (0 : Int)).length = N := by simp; omega
    simp only [lt_cast, hi, decide_true, cond_true, e, in_cast hi, and_self, if_true, Int.toNat_natCast]
    rw [rep_setS hi, wrap_sm (by omega) (by omega)]
    rfl
  · simp only [lt_cast, Nat.lt_irrefl, decide_false, cond_false, Nat.sub_self, List.replicate_zero, List.append_nil]
def csF (c : Cat) (n : Int) : SF := mkS c (List.replicate c.1.toNat n) (List.replicate c.2.1.length (nums n.toNat))
theorem p74 {c : Cat} {n : Int} (hc : okC c) (h0 : 0 ≤ c.1) (h1 : c.1 ≤ 1048576) (hn : 0 ≤ n ∧ n ≤ 16) : G74 (c, n) = some (csF c n) := by
  obtain ⟨c1, c2, c3, c4, c5⟩ := c
  simp only at h0 h1
  obtain ⟨N, rfl⟩ : ∃ N : Nat, c1 = (N : Int) := ⟨c1.toNat, by omega⟩
  obtain ⟨M, rfl⟩ : ∃ M : Nat, n = (M : Int) := ⟨n.toNat, by omega⟩
  have hb : c2.length ≤ 1048576 := hc.1
  unfold G74
  rw [p106 hc]
  simp only [p107 (show N ≤ 1048576 by omega), p103 (show M ≤ 1048576 by omega), Option.bind_some]
  refine bind_of (v := .brk 0 ((c2.length : Int), zzS (mkS ((N : Int), c2, c3, c4, c5) (List.replicate N (M : Int)) (List.replicate c2.length (nums M))))) (tloop_iter (st := fun i : Nat => ((i : Int), zzS (mkS ((N : Int), c2, c3, c4, c5) (List.replicate N (M : Int)) (List.replicate i (nums M))))) (n := c2.length) (fun i hi => ?_) ?_ (fun y => by simp)) ?_
  · simp only [zzS, mkS, lt_cast, hi, decide_true, cond_true, List.length_replicate, List.length_cons, List.length_nil]
    rw [if_pos (by omega), wrap_sm (by omega) (by omega), List.replicate_succ']
    rfl
  · simp only [lt_cast, Nat.lt_irrefl, decide_false, cond_false, zzS, mkS]
  · show (if 0 = 0 then _ else none) = _
    rw [if_pos rfl]
    rfl
theorem p72 {c : Cat} {n : Int} (hc : okC c) (h0 : 0 ≤ c.1) (h1 : c.1 ≤ 1048576) (hn : 0 ≤ n ∧ n ≤ 16) : G72 (c, n) = some (csF c n) := by
  obtain ⟨c1, c2, c3, c4, c5⟩ := c
  simp only at h0 h1
  obtain ⟨N, rfl⟩ : ∃ N : Nat, c1 = (N : Int) := ⟨c1.toNat, by omega⟩
  obtain ⟨M, rfl⟩ : ∃ M : Nat, n = (M : Int) := ⟨n.toNat, by omega⟩
  have hb : c2.length ≤ 1048576 := hc.1
  unfold G72
  simp only [p105 hc, Option.bind_some]
  refine bind_of (v := .brk 0 ((N : Int), zzS (mkS ((N : Int), c2, c3, c4, c5) (List.replicate N (M : Int)) []))) (tloop_iter (st := fun i : Nat => ((i : Int), zzS (mkS ((N : Int), c2, c3, c4, c5) (List.replicate i (M : Int)) []))) (n := N) (fun i hi => ?_) ?_ (fun y => by simp)) ?_
  · simp only [zzS, mkS, lt_cast, hi, decide_true, cond_true, List.length_replicate, List.length_cons, List.length_nil]
    rw [if_pos (by omega), wrap_sm (by omega) (by omega), List.replicate_succ']
    rfl
  · simp only [lt_cast, Nat.lt_irrefl, decide_false, cond_false, zzS, mkS]
  show (if 0 = 0 then _ else none) = _
  rw [if_pos rfl]
  simp only [zzS, mkS]
  refine bind_of (v := .brk 2 ((c2.length : Int), zzS (mkS ((N : Int), c2, c3, c4, c5) (List.replicate N (M : Int)) (List.replicate c2.length (nums M))))) (tloop_iter (st := fun i : Nat => ((i : Int), zzS (mkS ((N : Int), c2, c3, c4, c5) (List.replicate N (M : Int)) (List.replicate i (nums M))))) (n := c2.length) (fun i hi => ?_) ?_ (fun y => by simp)) ?_
  · simp only [zzS, mkS, lt_cast, hi, decide_true, cond_true]
    refine bind_of (v := .brk 4 ((M : Int), nums M)) (tloop_iter (st := fun i : Nat => ((i : Int), nums i)) (n := M) (fun i hi => ?_) ?_ (fun y => by simp)) ?_
    · simp only [lt_cast, hi, decide_true, cond_true, nums_len, List.length_cons, List.length_nil]
      rw [if_pos (by omega), wrap_sm (by omega) (by omega), nums_succ]
      rfl
    · simp only [lt_cast, Nat.lt_irrefl, decide_false, cond_false]
    · show (if 4 = 4 then _ else none) = _
      rw [if_pos rfl]
      simp only [List.length_replicate, List.length_cons, List.length_nil, if_true]
      rw [if_pos (by omega), wrap_sm (by omega) (by omega), List.replicate_succ']
      rfl
  · simp only [lt_cast, Nat.lt_irrefl, decide_false, cond_false, zzS, mkS]
  · show (if 2 = 2 then _ else none) = _
    rw [if_pos rfl]
    rfl
def zS : SF := ((0 : Int), ([], ([], ([], ([], ([], []))))))
def csR (c : Cat) (n : Int) : SF × Int := bif isCat c then (bif decide (0 ≤ n) && decide (n ≤ 16) then (csF c n, 0) else (zS, 2)) else (zS, 1)
theorem p25 {c : Cat} {n : Int} (hc : okC c) : G25 (c, n) = some (csR c n) := by
  unfold G25 csR
  simp only [Prod.eta, p59 hc, p71, Option.bind_some]
  cases hcc : isCat c with
  | false => rfl
  | true =>
    have h0 := (cat_sh hcc).hd.1
    simp only [Bool.not_true, cond_false, cond_true]
    cases hr : decide ((0 : Int) ≤ n) && decide (n ≤ 16) with
    | false => rfl
    | true =>
      simp only [Bool.and_eq_true, decide_eq_true_eq] at hr
      simp only [Bool.not_true, cond_false, cond_true, p72 hc h0.1 (by omega) hr, Option.bind_some]
theorem p26 {c : Cat} {n : Int} (hc : okC c) : G26 (c, n) = some (csR c n) := by
  unfold G26 csR
  simp only [Prod.eta, p67 hc, p73, Option.bind_some]
  cases hcc : isCat c with
  | false => rfl
  | true =>
    have h0 := (cat_sh hcc).hd.1
    simp only [Bool.not_true, cond_false, cond_true]
    cases hr : decide ((0 : Int) ≤ n) && decide (n ≤ 16) with
    | false => rfl
    | true =>
      simp only [Bool.and_eq_true, decide_eq_true_eq] at hr
      simp only [Bool.not_true, cond_false, cond_true, p74 hc h0.1 (by omega) hr, Option.bind_some]
theorem csR_ok {c : Cat} {n : Int} (hc : okC c) : okS (csR c n).1 := by
  have hz : okS zS := ⟨⟨Nat.zero_le _, Nat.zero_le _, Nat.zero_le _, Nat.zero_le _, fun y hy => by cases hy⟩, Nat.zero_le _, Nat.zero_le _, fun y hy => by cases hy⟩
  unfold csR
  cases hcc : isCat c with
  | false => exact hz
  | true =>
    have h0 := (cat_sh hcc).hd.1
    cases hr : decide ((0 : Int) ≤ n) && decide (n ≤ 16) with
    | false => exact hz
    | true =>
      simp only [Bool.and_eq_true, decide_eq_true_eq] at hr
      refine ⟨hc, ?_, ?_, ?_⟩
      · show (List.replicate c.1.toNat n).length ≤ _
        rw [List.length_replicate]; omega
      · show (List.replicate c.2.1.length (nums n.toNat)).length ≤ _
        rw [List.length_replicate]; exact hc.1
      · intro y hy
        have hy : y ∈ List.replicate c.2.1.length (nums n.toNat) := hy
        rw [(List.mem_replicate.1 hy).2, nums_len]; omega
theorem p5 (x : Cat × Int) (h : okT (PT S5.ps) x) : G5 x = some true := by
  obtain ⟨c, n⟩ := x
  obtain ⟨hc, _⟩ := h
  obtain ⟨_, h1, h2, h3, h4⟩ := hc
  unfold G5
  simp only [Prod.eta]
  obtain ⟨r1, e1, f1⟩ := p11 (c := c) h1.1 h2.1 h3.1 h4.1 (fun y hy => (h4.2 y hy).1)
  simp only [e1, Option.bind_some]
  by_cases n1 : r1 < 0
  · simp only [n1, decide_true, cond_true]
  have hc := f1.resolve_left n1
  have hc : okC c := by first | exact hc | exact hc.2 | exact hc.2.2
  simp only [n1, decide_false, cond_false, p14 hc, p25 hc, p26 hc, Option.bind_some]
  have hf := csR_ok (n := n) hc
  generalize csR c n = r at hf
  obtain ⟨k1, y1, y2, y3, y4, a1, b1, c1, d1⟩ := mh22 (c := c) (k := 1) (by omega) (by omega) hc
  obtain ⟨k2, w1, w2, w3, w4, w5, w6, a2, b2, c2, d2⟩ := mh28 (f := r.1) (k := 1) (by omega) (by omega) hf
  have m1 : ¬ (k1 < 0) := by omega
  have m2 : ¬ (k2 < 0) := by omega
  simp only [p27 hf, p17 hc, a1, a2, d2, m1, m2, Option.bind_some, Bool.not_true, cond_false, decide_true, decide_false]
end Go.Ve.D

