/- Moving a query along a functor: the law. -/
import Derived.Test.YtkafcpbbcpngdaaLu
namespace Go.Ve.D
open Go Go.Ve

/-! The program's own test. -/
theorem p77u {c d : Cat} (hc : okC c) (hd : okC d) : G77 (c :: d :: []) = some (isCat c && isCat d) := by
  unfold G77
  have two : ([c, d].length : Int) = 2 := rfl
  simp only [two]
  refine bind_of (v := bif isCat c && isCat d then .brk 0 (2 : Int) else .ret false) ?_ (by cases isCat c && isCat d <;> rfl)
  rw [tloop_eq]
  have e0 : G67 ([c, d].getD (0 : Int).toNat (0, ([], ([], ([], []))))) = some (isCat c) := p67 hc
  have e1 : G67 ([c, d].getD (1 : Int).toNat (0, ([], ([], ([], []))))) = some (isCat d) := p67 hd
  have w1 : IntKind.wrap .i64 ((0 : Int) + 1) = 1 := wrap_sm (by omega) (by omega)
  have w2 : IntKind.wrap .i64 ((1 : Int) + 1) = 2 := wrap_sm (by omega) (by omega)
  cases hcc : isCat c with
  | false => simp [hcc, p67 hc]
  | true =>
    simp only [e0, hcc, w1, show ((0 : Int) < 2) from by decide, decide_true, cond_true, Int.le_refl, true_and, if_true, Option.bind_some, Bool.not_true, cond_false, and_self]
    rw [tloop_eq]
    cases hdd : isCat d with
    | false => simp [p67 hd, hdd]
    | true =>
      simp only [e1, hdd, w2, show ((1 : Int) < 2) from by decide, show ((0 : Int) ≤ 1) from by decide, decide_true, cond_true, true_and, if_true, Option.bind_some, Bool.not_true, cond_false, and_self]
      rw [tloop_eq]
      simp

theorem p110 {c d : Cat} {o a : List Int} (sc : Sh c) (sd : Sh d) (ho : o.length ≤ 1048576) (ha : a.length ≤ 1048576) : G110 (mkF c d o a) = some (funOK c d o a) := by
  unfold G110 mkF
  have h0 := sc.hd.1
  have h0d := sd.hd.1
  have hn : c.2.1.length ≤ 40 := sc.hd.2.1
  have hnd : d.2.1.length ≤ 40 := sd.hd.2.1
  simp only [Prod.eta, p104, Option.bind_some]
  by_cases g1 : (o.length : Int) = c.1
  case neg => rw [fun_f fun h => g1 h.1]; simp only [g1, decide_false, Bool.not_false, cond_true, Option.bind_some]
  by_cases g2 : (a.length : Int) = (c.2.1.length : Int)
  case neg => rw [fun_f fun h => g2 (by rw [h.2.1])]; simp only [decide_eq_true g1, g2, decide_false, Bool.not_true, Bool.not_false, cond_true, cond_false, Option.bind_some]
  simp only [decide_eq_true g1, decide_eq_true g2, Bool.not_true, cond_false, Option.bind_some, p111 (n := d.1) (x := o) (by omega) ho, p111 (n := (d.2.1.length : Int)) (x := a) (by omega) ha]
  cases g3 : wi d.1 o with
  | false => rw [fun_f fun h => (by rw [h.2.2.1] at g3; cases g3)]; rfl
  | true =>
  cases g4 : wi d.2.1.length a with
  | false => rw [fun_f fun h => (by rw [h.2.2.2] at g4; cases g4)]; rfl
  | true =>
  have hh : fitHead c d o a := ⟨g1, by omega, g3, g4⟩
  have F := fit_of sc sd hh
  rw [fun_t hh]
  simp only [Bool.not_true, cond_false, Option.bind_some]
  have hal := F.al
  have hol := F.ol
  have hto : c.2.2.1.length = c.2.1.length := sc.hd.2.2.1
  have hdto : d.2.2.1.length = d.2.1.length := sd.hd.2.2.1
  have hid : (c.2.2.2.1.length : Int) = c.1 := sc.hd.2.2.2.2.2.2.1
  have hdid : (d.2.2.2.1.length : Int) = d.1 := sd.hd.2.2.2.2.2.2.1
  have hcm : c.2.2.2.2.length = c.2.1.length := sc.hd.2.2.2.2.2.1
  have hdm : d.2.2.2.2.length = d.2.1.length := sd.hd.2.2.2.2.2.1
  obtain ⟨N, hN⟩ : ∃ N : Nat, c.1 = (N : Int) := ⟨c.1.toNat, by omega⟩
  have hidN : c.2.2.2.1.length = N := by omega
  rw [hal]
  refine bind_of (v := bif (List.range c.2.1.length).all (arrOK c d o a) then .brk 0 (c.2.1.length : Int) else .ret false) (tloop_all (st := fun i : Nat => (i : Int)) (n := c.2.1.length) (p := arrOK c d o a) (fun i hi => ?_) ?_ (fun y => by simp)) ?_
  · obtain ⟨x1, x2⟩ := F.ag i (by omega)
    obtain ⟨y1, y2⟩ := sc.fr i hi
    obtain ⟨z1, z2⟩ := sc.to i hi
    have q2 : (0 : Int) ≤ (i : Int) ∧ (i : Int) < (c.2.1.length : Int) := by omega
    have q3 : (0 : Int) ≤ c.2.1.getD i 0 ∧ c.2.1.getD i 0 < (o.length : Int) := by omega
    have q4 : (0 : Int) ≤ a.getD i 0 ∧ a.getD i 0 < (d.2.2.1.length : Int) := by omega
    have q5 : (0 : Int) ≤ (i : Int) ∧ (i : Int) < (c.2.2.1.length : Int) := by omega
    have q6 : (0 : Int) ≤ c.2.2.1.getD i 0 ∧ c.2.2.1.getD i 0 < (o.length : Int) := by omega
    have q7 : (0 : Int) ≤ a.getD i 0 ∧ a.getD i 0 < (d.2.1.length : Int) := ⟨x1, x2⟩
    simp only [lt_cast, hi, decide_true, cond_true, Int.toNat_natCast, q2, q3, q4, q5, q6, q7, and_self, if_true]
    unfold arrOK
    cases e1 : decide (d.2.1.getD (a.getD i 0).toNat 0 = o.getD (c.2.1.getD i 0).toNat 0) with
    | false => rfl
    | true =>
      cases e2 : decide (d.2.2.1.getD (a.getD i 0).toNat 0 = o.getD (c.2.2.1.getD i 0).toNat 0) with
      | false => rfl
      | true =>
        simp only [Bool.not_true, cond_false, Option.bind_some, Bool.and_self, cond_true]
        rw [wrap_sm (by omega) (by omega)]
        rfl
  · simp only [lt_cast, Nat.lt_irrefl, decide_false, cond_false]
  cases l1 : (List.range c.2.1.length).all (arrOK c d o a) with
  | false => rfl
  | true =>
  simp only [cond_true, Bool.true_and]
  show (if 0 = 0 then _ else none) = _
  rw [if_pos rfl, hN, Int.toNat_natCast, hidN]
  refine bind_of (v := bif (List.range N).all (idsOK c d o a) then .brk 2 (N : Int) else .ret false) (tloop_all (st := fun i : Nat => (i : Int)) (n := N) (p := idsOK c d o a) (fun i hi => ?_) ?_ (fun y => by simp)) ?_
  · obtain ⟨x1, x2⟩ := F.og i (by omega)
    obtain ⟨y1, y2⟩ := sc.id (i : Int) (by omega) (by omega)
    rw [Int.toNat_natCast] at y1 y2
    have q1 : (0 : Int) ≤ (i : Int) ∧ (i : Int) < (N : Int) := by omega
    have q2 : (0 : Int) ≤ c.2.2.2.1.getD i 0 ∧ c.2.2.2.1.getD i 0 < (c.2.1.length : Int) := by omega
    have q3 : (0 : Int) ≤ (i : Int) ∧ (i : Int) < (o.length : Int) := by omega
    have q4 : (0 : Int) ≤ o.getD i 0 ∧ o.getD i 0 < (d.2.2.2.1.length : Int) := by omega
    simp only [lt_cast, hi, decide_true, cond_true, Int.toNat_natCast, hal, q1, q2, q3, q4, and_self, if_true]
    unfold idsOK
    cases e1 : decide (a.getD (c.2.2.2.1.getD i 0).toNat 0 = d.2.2.2.1.getD (o.getD i 0).toNat 0) with
    | false => rfl
    | true =>
      simp only [Bool.not_true, cond_false, cond_true]
      rw [wrap_sm (by omega) (by omega)]
      rfl
  · simp only [lt_cast, Nat.lt_irrefl, decide_false, cond_false]
  cases l2 : (List.range N).all (idsOK c d o a) with
  | false => rfl
  | true =>
  simp only [cond_true, Bool.true_and]
  show (if 2 = 2 then _ else none) = _
  rw [if_pos rfl, hcm]
  refine bind_of (v := bif (List.range c.2.1.length).all (fun i => (List.range c.2.1.length).all (cmpOK c d o a i)) then .brk 4 (c.2.1.length : Int) else .ret false) (tloop_all (st := fun i : Nat => (i : Int)) (n := c.2.1.length) (p := fun i => (List.range c.2.1.length).all (cmpOK c d o a i)) (fun i hi => ?_) ?_ (fun y => by simp)) ?_
  · have rw1 := sc.row i hi
    simp only [lt_cast, hi, decide_true, cond_true, in_cast hi, and_self, if_true, Int.toNat_natCast, rw1]
    refine bind_of (v := bif (List.range c.2.1.length).all (cmpOK c d o a i) then .brk 6 (c.2.1.length : Int) else .ret (.ret false)) (tloop_all (st := fun i : Nat => (i : Int)) (n := c.2.1.length) (p := cmpOK c d o a i) (fun j hj => ?_) ?_ (fun y => by simp)) ?_
    · obtain ⟨x1, x2⟩ := F.ag i (by omega)
      obtain ⟨y1, y2⟩ := F.ag j (by omega)
      have q4 : (0 : Int) ≤ (j : Int) ∧ (j : Int) < (c.2.1.length : Int) := by omega
      have q5 : (0 : Int) ≤ (i : Int) ∧ (i : Int) < (c.2.1.length : Int) := by omega
      simp only [lt_cast, hj, decide_true, cond_true, Int.toNat_natCast, q4, q5, and_self, if_true]
      unfold cmpOK
      cases hm : mt c i j with
      | false =>
        have t1 := sc.neg i j hi hj hm
        unfold T at t1
        have t2 : decide ((0 : Int) ≤ (c.2.2.2.2.getD i []).getD j 0) = false := by rw [t1]; rfl
        simp only [t2, cond_false, Option.bind_some, cond_true]
        rw [wrap_sm (by omega) (by omega)]
        rfl
      | true =>
        obtain ⟨t1, t2, _, _⟩ := sc.pos i j hi hj hm
        unfold T at t1 t2
        have t3 : decide ((0 : Int) ≤ (c.2.2.2.2.getD i []).getD j 0) = true := decide_eq_true t1
        have q9 : (0 : Int) ≤ (c.2.2.2.2.getD i []).getD j 0 ∧ (c.2.2.2.2.getD i []).getD j 0 < (c.2.1.length : Int) := ⟨t1, t2⟩
        simp only [t3, cond_true, hal, q9, and_self, if_true, p123 sd (f := a.getD i 0) (g := a.getD j 0) ⟨x1, x2⟩ ⟨y1, y2⟩, Option.bind_some]
        have eT : T c i j = (c.2.2.2.2.getD i []).getD j 0 := rfl
        rw [eT]
        cases e1 : decide (a.getD ((c.2.2.2.2.getD i []).getD j 0).toNat 0 = T d (a.getD i 0).toNat (a.getD j 0).toNat) with
        | false => rfl
        | true =>
          simp only [Bool.not_true, Option.bind_some, cond_false, cond_true]
          rw [wrap_sm (by omega) (by omega)]
          rfl
    · simp only [lt_cast, Nat.lt_irrefl, decide_false, cond_false]
    · cases (List.range c.2.1.length).all (cmpOK c d o a i) with
      | false => rfl
      | true =>
        show (if 6 = 6 then _ else none) = _
        rw [if_pos rfl, wrap_sm (by omega) (by omega)]
        rfl
  · simp only [lt_cast, Nat.lt_irrefl, decide_false, cond_false]
  · cases (List.range c.2.1.length).all (fun i => (List.range c.2.1.length).all (cmpOK c d o a i)) with
    | false => rfl
    | true => rfl
theorem p84 {c d : Cat} {o a : List Int} (hc : okC c) (hd : okC d) (ho : o.length ≤ 1048576) (ha : a.length ≤ 1048576) : G84 (mkF c d o a) = some (isCat c && (isCat d && funOK c d o a)) := by
  unfold G84
  have e1 : G77 ((c.1, (c.2.1, (c.2.2.1, (c.2.2.2.1, c.2.2.2.2)))) :: (d.1, (d.2.1, (d.2.2.1, (d.2.2.2.1, d.2.2.2.2)))) :: []) = some (isCat c && isCat d) := p77u hc hd
  have e2 : G77 (((mkF c d o a).1, ((mkF c d o a).2.1, ((mkF c d o a).2.2.1, ((mkF c d o a).2.2.2.1, (mkF c d o a).2.2.2.2.1)))) :: ((mkF c d o a).2.2.2.2.2.1, ((mkF c d o a).2.2.2.2.2.2.1, ((mkF c d o a).2.2.2.2.2.2.2.1, ((mkF c d o a).2.2.2.2.2.2.2.2.1, (mkF c d o a).2.2.2.2.2.2.2.2.2.1)))) :: []) = some (isCat c && isCat d) := e1
  rw [e2]
  simp only [Option.bind_some]
  cases hcc : isCat c with
  | false => rfl
  | true =>
    cases hdd : isCat d with
    | false => rfl
    | true =>
      simp only [Bool.and_self, cond_true, p110 (cat_sh hcc) (cat_sh hdd) ho ha, Option.bind_some, Bool.true_and]
end Go.Ve.D

