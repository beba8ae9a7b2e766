/- The constant functor: the law. -/
import Derived.Test.YtkafcpbbcpngdaaLo
namespace Go.Ve.D
open Go Go.Ve

abbrev Fun2 := Int × List Int × List Int × List Int × List (List Int) × Int × List Int × List Int × List Int × List (List Int) × List Int × List Int × List Int × List Int
theorem p11b {c : Cat} {b : Int} (hb : 0 ≤ b ∧ b ≤ 1048576) (h1 : c.2.1.length ≤ maxLen) (h2 : c.2.2.1.length ≤ maxLen) (h3 : c.2.2.2.1.length ≤ maxLen) (h4 : c.2.2.2.2.length ≤ maxLen) (h5 : ∀ y ∈ c.2.2.2.2, y.length ≤ maxLen) :
    ∃ r, G11 (c, b) = some r ∧ (r < 0 ∨ (0 ≤ r ∧ r ≤ b ∧ okC c)) := by
  unfold G11
  obtain ⟨r1, e1, f1⟩ := p56 (b := b) (by omega) h1
  simp only [e1, Option.bind_some]
  by_cases n1 : r1 < 0
  · exact ⟨-1, by simp only [n1, decide_true, cond_true], .inl (by decide)⟩
  simp only [n1, decide_false, cond_false]
  obtain ⟨r2, e2, f2⟩ := p56 (b := r1) (by omega) h2
  simp only [e2, Option.bind_some]
  by_cases n2 : r2 < 0
  · exact ⟨-1, by simp only [n2, decide_true, cond_true], .inl (by decide)⟩
  simp only [n2, decide_false, cond_false]
  obtain ⟨r3, e3, f3⟩ := p56 (b := r2) (by omega) h3
  simp only [e3, Option.bind_some]
  by_cases n3 : r3 < 0
  · exact ⟨-1, by simp only [n3, decide_true, cond_true], .inl (by decide)⟩
  simp only [n3, decide_false, cond_false]
  obtain ⟨r4, e4, f4⟩ := p57 (b := r3) (by omega) h4 h5
  simp only [e4, Option.bind_some]
  by_cases n4 : r4 < 0
  · exact ⟨-1, by simp only [n4, decide_true, cond_true], .inl (by decide)⟩
  simp only [n4, decide_false, cond_false]
  refine ⟨r4, rfl, .inr ?_⟩
  have f4 := f4.resolve_left n4
  exact ⟨f4.1, by omega, by omega, by omega, by omega, f4.2.2.1, f4.2.2.2⟩

theorem p75 {c : Cat} {n : Int} : G75 (c, n) = some (decide (0 ≤ n) && decide (n < c.1)) := by
  unfold G75
  cases h : decide ((0 : Int) ≤ n) <;> simp [h]
theorem p73b {n a b : Int} : G73 (n, (a, b)) = some (decide (a ≤ n) && decide (n ≤ b)) := by
  unfold G73
  cases h : decide (a ≤ n) <;> simp [h]
theorem p77 {c d : Cat} (hc : okC c) (hd : okC d) : G77 (c :: d :: []) = some (isCat c && isCat d) := by
  unfold G77
  have two : ([c, d].length : Int) = 2 := rfl
  simp only [two]
  refine bind_of (v := bif isCat c && isCat d then .brk 0 (2 : Int) else .ret false) ?_ (by cases isCat c && isCat d <;> rfl)
  rw [tloop_eq]
  have e0 : G67 ([c, d].getD (0 : Int).toNat (0, ([], ([], ([], []))))) = some (isCat c) := p67 hc
  have e1 : G67 ([c, d].getD (1 : Int).toNat (0, ([], ([], ([], []))))) = some (isCat d) := p67 hd
  have w1 : IntKind.wrap .i64 ((0 : Int) + 1) = 1 := wrap_sm (by omega) (by omega)
  have w2 : IntKind.wrap .i64 ((1 : Int) + 1) = 2 := wrap_sm (by omega) (by omega)
  cases hcc : isCat c with
  | false => simp [hcc, p67 hc]
  | true =>
    simp only [e0, hcc, w1, show ((0 : Int) < 2) from by decide, decide_true, cond_true, Int.le_refl, true_and, if_true, Option.bind_some, Bool.not_true, cond_false, and_self]
    rw [tloop_eq]
    cases hdd : isCat d with
    | false => simp [p67 hd, hdd]
    | true =>
      simp only [e1, hdd, w2, show ((1 : Int) < 2) from by decide, show ((0 : Int) ≤ 1) from by decide, decide_true, cond_true, true_and, if_true, Option.bind_some, Bool.not_true, cond_false, and_self]
      rw [tloop_eq]
      simp
def conF (c d : Cat) (n : Int) : Fun := mkF c d (List.replicate c.1.toNat n) (List.replicate c.2.1.length (d.2.2.2.1.getD n.toNat 0))
theorem p76 {c d : Cat} {n : Int} (hc : okC c) (hd : okC d) (h0 : 0 ≤ c.1) (h1 : c.1 ≤ 1048576) (hn : 0 ≤ n ∧ n < (d.2.2.2.1.length : Int)) : G76 (c, (d, n)) = some (conF c d n) := by
  obtain ⟨c1, c2, c3, c4, c5⟩ := c
  simp only at h0 h1
  obtain ⟨N, rfl⟩ : ∃ N : Nat, c1 = (N : Int) := ⟨c1.toNat, by omega⟩
  have hb : c2.length ≤ 1048576 := hc.1
  unfold G76
  simp only
  refine bind_of (v := .brk 0 ((N : Int), List.replicate N n)) (tloop_iter (st := fun i : Nat => ((i : Int), List.replicate i n)) (n := N) (fun i hi => ?_) ?_ (fun y => by simp)) ?_
  · simp only [lt_cast, hi, decide_true, cond_true, List.length_replicate, List.length_cons, List.length_nil]
    rw [if_pos (by omega), wrap_sm (by omega) (by omega), List.replicate_succ']
    rfl
  · simp only [lt_cast, Nat.lt_irrefl, decide_false, cond_false]
  show (if 0 = 0 then _ else none) = _
  rw [if_pos rfl]
  refine bind_of (v := .brk 2 ((c2.length : Int), List.replicate c2.length (d.2.2.2.1.getD n.toNat 0))) (tloop_iter (st := fun i : Nat => ((i : Int), List.replicate i (d.2.2.2.1.getD n.toNat 0))) (n := c2.length) (fun i hi => ?_) ?_ (fun y => by simp)) ?_
  · simp only [lt_cast, hi, decide_true, cond_true, List.length_replicate, List.length_cons, List.length_nil, hn, and_self, if_true]
    rw [if_pos (by omega), wrap_sm (by omega) (by omega), List.replicate_succ']
    rfl
  · simp only [lt_cast, Nat.lt_irrefl, decide_false, cond_false]
  show (if 2 = 2 then _ else none) = _
  rw [if_pos rfl]
  simp only [Prod.eta, p99 hc hd (o := List.replicate N n) (a := List.replicate c2.length (d.2.2.2.1.getD n.toNat 0)) (by rw [List.length_replicate]; omega) (by rw [List.length_replicate]; exact hb), Option.bind_some]
  rfl
theorem rep_set {N i : Nat} {n : Int} (hi : i < N) : (List.replicate i n ++ List.replicate (N - i) (0 : Int)).set i n = List.replicate (i + 1) n ++ List.replicate (N - (i + 1)) 0 := by
  have e : N - i = (N - (i + 1)) + 1 := by omega
  rw [e, List.replicate_succ, List.set_append_right _ _ (by simp), List.replicate_succ']
  simp
def zT (A B : List Int) : Fun2 := ((0 : Int), ([], ([], ([], ([], ((0 : Int), ([], ([], ([], ([], ([], ([], (A, B)))))))))))))
theorem p78 {c d : Cat} {n : Int} (hc : okC c) (hd : okC d) (h0 : 0 ≤ c.1) (h1 : c.1 ≤ 1048576) (hn : 0 ≤ n ∧ n < (d.2.2.2.1.length : Int)) : G78 (c, (d, n)) = some (conF c d n) := by
  obtain ⟨c1, c2, c3, c4, c5⟩ := c
  simp only at h0 h1
  obtain ⟨N, rfl⟩ : ∃ N : Nat, c1 = (N : Int) := ⟨c1.toNat, by omega⟩
  have hb : c2.length ≤ 1048576 := hc.1
  unfold G78
  simp only [p104, Option.bind_some, Int.toNat_natCast, List.length_replicate]
  rw [if_pos (by omega), if_pos (by omega)]
  refine bind_of (v := .brk 0 ((N : Int), zT (List.replicate N n) (List.replicate c2.length 0))) (tloop_iter (st := fun i : Nat => ((i : Int), zT (List.replicate i n ++ List.replicate (N - i) 0) (List.replicate c2.length 0))) (n := N) (fun i hi => ?_) ?_ (fun y => by simp)) ?_
  · have e : (List.replicate i n ++ List.replicate (N - i) (0 : Int)).length = N := by simp; omega
    simp only [zT, lt_cast, hi, decide_true, cond_true, e, in_cast hi, and_self, if_true, Int.toNat_natCast]
    rw [rep_set hi, wrap_sm (by omega) (by omega)]
    rfl
  · simp only [zT, lt_cast, Nat.lt_irrefl, decide_false, cond_false, Nat.sub_self, List.replicate_zero, List.append_nil]
  show (if 0 = 0 then _ else none) = _
  rw [if_pos rfl]
  simp only [zT, List.length_replicate]
  obtain ⟨M, hM⟩ : ∃ M, M = c2.length := ⟨_, rfl⟩
  rw [← hM] at hb ⊢
  obtain ⟨u, hu⟩ : ∃ u, u = d.2.2.2.1.getD n.toNat 0 := ⟨_, rfl⟩
  refine bind_of (v := .brk 2 ((M : Int), zT (List.replicate N n) (List.replicate M u))) (tloop_iter (st := fun i : Nat => ((i : Int), zT (List.replicate N n) (List.replicate i u ++ List.replicate (M - i) 0))) (n := M) (fun i hi => ?_) ?_ (fun y => by simp)) ?_
  · have e : (List.replicate i u ++ List.replicate (M - i) (0 : Int)).length = M := by simp; omega
    simp only [zT, lt_cast, hi, decide_true, cond_true, e, in_cast hi, hn, and_self, if_true, Int.toNat_natCast]
    rw [← hu, rep_set hi, wrap_sm (by omega) (by omega)]
    rfl
  · simp only [zT, lt_cast, Nat.lt_irrefl, decide_false, cond_false, Nat.sub_self, List.replicate_zero, List.append_nil]
  show (if 2 = 2 then _ else none) = _
  rw [if_pos rfl]
  simp only [zT]
  rw [p102 hc hd (o := List.replicate N n) (a := List.replicate M u) (by rw [List.length_replicate]; omega) (by rw [List.length_replicate]; exact hb)]
  simp only [Option.bind_some, Prod.eta]
  rw [hu, hM]
  rfl
def conR (c d : Cat) (n : Int) : Fun × Int := bif isCat c && isCat d then (bif decide (0 ≤ n) && decide (n < d.1) then (conF c d n, 0) else (zF, 2)) else (zF, 1)
theorem cat_id {d : Cat} (h : isCat d = true) {n : Int} (hn : n < d.1) : n < (d.2.2.2.1.length : Int) := by
  have := (cat_sh h).hd.2.2.2.2.2.2.1
  omega
theorem p30 {c d : Cat} {n : Int} (hc : okC c) (hd : okC d) : G30 (c, (d, n)) = some (conR c d n) := by
  unfold G30 conR
  simp only [Prod.eta, p59 hc, p59 hd, p75, Option.bind_some]
  cases hcc : isCat c with
  | false => rfl
  | true =>
    cases hdd : isCat d with
    | false => rfl
    | true =>
      have h0 := (cat_sh hcc).hd.1
      simp only [Bool.not_true, cond_false, Option.bind_some, Bool.and_self, cond_true]
      cases hr : decide ((0 : Int) ≤ n) && decide (n < d.1) with
      | false => rfl
      | true =>
        simp only [Bool.and_eq_true, decide_eq_true_eq] at hr
        simp only [Bool.not_true, cond_false, cond_true, p76 hc hd h0.1 (by omega) ⟨hr.1, cat_id hdd hr.2⟩, Option.bind_some]
theorem p31 {c d : Cat} {n : Int} (hc : okC c) (hd : okC d) : G31 (c, (d, n)) = some (conR c d n) := by
  unfold G31 conR
  simp only [Prod.eta, p77 hc hd, p73b, Option.bind_some]
  cases hcc : isCat c with
  | false => rfl
  | true =>
    cases hdd : isCat d with
    | false => rfl
    | true =>
      have h0 := (cat_sh hcc).hd.1
      have h0' := (cat_sh hdd).hd.1
      have hw : IntKind.wrap .i64 (d.1 - 1) = d.1 - 1 := by
        by_cases h : d.1 = 0
        · rw [h]; rfl
        · exact wrap_sm (by omega) (by omega)
      have he : (decide ((0 : Int) ≤ n) && decide (n ≤ d.1 - 1)) = (decide ((0 : Int) ≤ n) && decide (n < d.1)) := by
        congr 1
        exact decide_eq_decide.2 (by omega)
      simp only [hw, he, Bool.not_true, cond_false, Bool.and_self, cond_true]
      cases hr : decide ((0 : Int) ≤ n) && decide (n < d.1) with
      | false => rfl
      | true =>
        simp only [Bool.and_eq_true, decide_eq_true_eq] at hr
        simp only [Bool.not_true, cond_false, cond_true, p78 hc hd h0.1 (by omega) ⟨hr.1, cat_id hdd hr.2⟩, Option.bind_some]
theorem conR_ok {c d : Cat} {n : Int} (hc : okC c) (hd : okC d) : okF (conR c d n).1 := by
  unfold conR
  cases hcc : isCat c with
  | false => exact okF_z
  | true =>
    cases hdd : isCat d with
    | false => exact okF_z
    | true =>
      have h0 := (cat_sh hcc).hd.1
      cases hr : decide ((0 : Int) ≤ n) && decide (n < d.1) with
      | false => exact okF_z
      | true => exact okF_mk hc hd (by rw [List.length_replicate]; omega) (by rw [List.length_replicate]; exact hc.1)
theorem p6 (x : Cat × Cat × Int) (h : okT (PT S6.ps) x) : G6 x = some true := by
  obtain ⟨c, d, n⟩ := x
  obtain ⟨hc, hd, _⟩ := h
  obtain ⟨_, h1, h2, h3, h4⟩ := hc
  obtain ⟨_, g1, g2, g3, g4⟩ := hd
  unfold G6
  simp only [Prod.eta]
  obtain ⟨r1, e1, f1⟩ := p11b (c := c) (b := 1048576) (by omega) h1.1 h2.1 h3.1 h4.1 (fun y hy => (h4.2 y hy).1)
  simp only [e1, Option.bind_some]
  by_cases n1 : r1 < 0
  · simp only [n1, decide_true, cond_true]
  have f1 := f1.resolve_left n1
  obtain ⟨r2, e2, f2⟩ := p11b (c := d) (b := r1) (by omega) g1.1 g2.1 g3.1 g4.1 (fun y hy => (g4.2 y hy).1)
  simp only [n1, decide_false, cond_false, e2, Option.bind_some]
  by_cases n2 : r2 < 0
  · simp only [n2, decide_true, cond_true]
  have f2 := f2.resolve_left n2
  have hc := f1.2.2
  have hd := f2.2.2
  simp only [n2, decide_false, cond_false, p14 hc, p14 hd, p30 hc hd, p31 hc hd, Option.bind_some]
  have hf := conR_ok (n := n) hc hd
  generalize conR c d n = r at hf
  obtain ⟨k1, y1, y2, y3, y4, a1, b1, c1, d1⟩ := mh22 (c := c) (k := 1) (by omega) (by omega) hc
  obtain ⟨k3, z1, z2, z3, z4, a3, b3, c3, d3⟩ := mh22 (c := d) (k := k1) (by omega) (by omega) hd
  obtain ⟨k2, w1, w2, w3, w4, w5, w6, w7, w8, w9, w10, a2, b2, c2, d2⟩ := mh23 (f := r.1) (k := 1) (by omega) (by omega) hf
  have m1 : ¬ (k3 < 0) := by omega
  have m2 : ¬ (k2 < 0) := by omega
  simp only [p21 hf, p17 hc, p17 hd, a1, a2, a3, d2, m1, m2, Option.bind_some, Bool.not_true, cond_false, decide_true, decide_false]
end Go.Ve.D

