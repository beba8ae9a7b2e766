/- Functors: what it is to be one. -/
import Derived.Test.YtkafcpbbcpngdaaLo
namespace Go.Ve.D
open Go Go.Ve

def fitHead (c d : Cat) (o a : List Int) : Prop := (o.length : Int) = c.1 ∧ a.length = c.2.1.length ∧ wi d.1 o = true ∧ wi d.2.1.length a = true
instance (c d : Cat) (o a : List Int) : Decidable (fitHead c d o a) := by unfold fitHead; infer_instance
def arrOK (c d : Cat) (o a : List Int) (i : Nat) : Bool := decide (d.2.1.getD (a.getD i 0).toNat 0 = o.getD (c.2.1.getD i 0).toNat 0) && decide (d.2.2.1.getD (a.getD i 0).toNat 0 = o.getD (c.2.2.1.getD i 0).toNat 0)
def idsOK (c d : Cat) (o a : List Int) (x : Nat) : Bool := decide (a.getD (c.2.2.2.1.getD x 0).toNat 0 = d.2.2.2.1.getD (o.getD x 0).toNat 0)
def cmpOK (c d : Cat) (o a : List Int) (i j : Nat) : Bool := bif mt c i j then decide (a.getD (T c i j).toNat 0 = T d (a.getD i 0).toNat (a.getD j 0).toNat) else true
def funOK (c d : Cat) (o a : List Int) : Bool := decide (fitHead c d o a) && ((List.range c.2.1.length).all (arrOK c d o a) && ((List.range c.1.toNat).all (idsOK c d o a) && (List.range c.2.1.length).all fun i => (List.range c.2.1.length).all (cmpOK c d o a i)))
theorem fun_f {c d : Cat} {o a : List Int} (h : ¬ fitHead c d o a) : funOK c d o a = false := by simp [funOK, h]
theorem fun_t {c d : Cat} {o a : List Int} (h : fitHead c d o a) : funOK c d o a = ((List.range c.2.1.length).all (arrOK c d o a) && ((List.range c.1.toNat).all (idsOK c d o a) && (List.range c.2.1.length).all fun i => (List.range c.2.1.length).all (cmpOK c d o a i))) := by simp [funOK, h]

/-- what the head gives of indices -/
structure Fit (c d : Cat) (o a : List Int) : Prop where
  sc : Sh c
  sd : Sh d
  ol : (o.length : Int) = c.1
  al : a.length = c.2.1.length
  og : ∀ x : Nat, x < o.length → 0 ≤ o.getD x 0 ∧ o.getD x 0 < d.1
  ag : ∀ i : Nat, i < a.length → 0 ≤ a.getD i 0 ∧ a.getD i 0 < (d.2.1.length : Int)
theorem fit_of {c d : Cat} {o a : List Int} (sc : Sh c) (sd : Sh d) (h : fitHead c d o a) : Fit c d o a :=
  ⟨sc, sd, h.1, h.2.1, fun _ hx => wi_get h.2.2.1 hx, fun _ hi => wi_get h.2.2.2 hi⟩

theorem p82 {c d : Cat} {o a : List Int} (hc : okC c) (hd : okC d) (ho : o.length ≤ 1048576) (ha : a.length ≤ 1048576) : G82 (mkF c d o a) = some (isCat c && (isCat d && funOK c d o a)) := by
  unfold G82 mkF
  simp only [Prod.eta, p59 hc, p59 hd, Option.bind_some]
  cases hcc : isCat c with
  | false => rfl
  | true =>
  cases hdd : isCat d with
  | false => rfl
  | true =>
  have sc := cat_sh hcc
  have sd := cat_sh hdd
  simp only [Bool.not_true, cond_false, Option.bind_some, Bool.true_and]
  by_cases g1 : (o.length : Int) = c.1
  case neg => rw [fun_f fun h => g1 h.1]; simp only [g1, decide_false, Bool.not_false, cond_true, Option.bind_some]
  by_cases g2 : (a.length : Int) = (c.2.1.length : Int)
  case neg => rw [fun_f fun h => g2 (by rw [h.2.1])]; simp only [decide_eq_true g1, g2, decide_false, Bool.not_true, Bool.not_false, cond_true, cond_false, Option.bind_some]
  simp only [decide_eq_true g1, decide_eq_true g2, Bool.not_true, cond_false, Option.bind_some, p60 ho, p60 ha]
  cases g3 : wi d.1 o with
  | false => rw [fun_f fun h => (by rw [h.2.2.1] at g3; cases g3)]; rfl
  | true =>
  cases g4 : wi d.2.1.length a with
  | false => rw [fun_f fun h => (by rw [h.2.2.2] at g4; cases g4)]; rfl
  | true =>
  have hh : fitHead c d o a := ⟨g1, by omega, g3, g4⟩
  have F := fit_of sc sd hh
  rw [fun_t hh]
  simp only [Bool.not_true, cond_false, Option.bind_some]
  have hal := F.al
  have hol := F.ol
  have h0 := sc.hd.1
  have hn : c.2.1.length ≤ 40 := sc.hd.2.1
  have hto : c.2.2.1.length = c.2.1.length := sc.hd.2.2.1
  have hdto : d.2.2.1.length = d.2.1.length := sd.hd.2.2.1
  have hid : (c.2.2.2.1.length : Int) = c.1 := sc.hd.2.2.2.2.2.2.1
  have hdid : (d.2.2.2.1.length : Int) = d.1 := sd.hd.2.2.2.2.2.2.1
  have hcm : c.2.2.2.2.length = c.2.1.length := sc.hd.2.2.2.2.2.1
  have hdm : d.2.2.2.2.length = d.2.1.length := sd.hd.2.2.2.2.2.1
  obtain ⟨N, hN⟩ : ∃ N : Nat, c.1 = (N : Int) := ⟨c.1.toNat, by omega⟩
  refine bind_of (v := bif (List.range c.2.1.length).all (arrOK c d o a) then .brk 0 (c.2.1.length : Int) else .ret false) (tloop_all (st := fun i : Nat => (i : Int)) (n := c.2.1.length) (p := arrOK c d o a) (fun i hi => ?_) ?_ (fun y => by simp)) ?_
  · obtain ⟨x1, x2⟩ := F.ag i (by omega)
    obtain ⟨y1, y2⟩ := sc.fr i hi
    obtain ⟨z1, z2⟩ := sc.to i hi
    have q1 : (0 : Int) ≤ (i : Int) ∧ (i : Int) < (a.length : Int) := by omega
    have q2 : (0 : Int) ≤ (i : Int) ∧ (i : Int) < (c.2.1.length : Int) := by omega
    have q3 : (0 : Int) ≤ c.2.1.getD i 0 ∧ c.2.1.getD i 0 < (o.length : Int) := by omega
    have q4 : (0 : Int) ≤ a.getD i 0 ∧ a.getD i 0 < (d.2.2.1.length : Int) := by omega
    have q5 : (0 : Int) ≤ (i : Int) ∧ (i : Int) < (c.2.2.1.length : Int) := by omega
    have q6 : (0 : Int) ≤ c.2.2.1.getD i 0 ∧ c.2.2.1.getD i 0 < (o.length : Int) := by omega
    have q7 : (0 : Int) ≤ a.getD i 0 ∧ a.getD i 0 < (d.2.1.length : Int) := ⟨x1, x2⟩
    simp only [lt_cast, hi, decide_true, cond_true, Int.toNat_natCast, q1, q2, q3, q4, q5, q6, q7, and_self, if_true]
    unfold arrOK
    cases e1 : decide (d.2.1.getD (a.getD i 0).toNat 0 = o.getD (c.2.1.getD i 0).toNat 0) with
    | false => rfl
    | true =>
      cases e2 : decide (d.2.2.1.getD (a.getD i 0).toNat 0 = o.getD (c.2.2.1.getD i 0).toNat 0) with
      | false => rfl
      | true =>
        simp only [Bool.not_true, cond_false, Option.bind_some, Bool.and_self, cond_true]
        rw [wrap_sm (by omega) (by omega)]
        rfl
  · simp only [lt_cast, Nat.lt_irrefl, decide_false, cond_false]
  cases l1 : (List.range c.2.1.length).all (arrOK c d o a) with
  | false => rfl
  | true =>
  simp only [cond_true, Bool.true_and]
  show (if 0 = 0 then _ else none) = _
  rw [if_pos rfl, hN, Int.toNat_natCast]
  refine bind_of (v := bif (List.range N).all (idsOK c d o a) then .brk 2 (N : Int) else .ret false) (tloop_all (st := fun i : Nat => (i : Int)) (n := N) (p := idsOK c d o a) (fun i hi => ?_) ?_ (fun y => by simp)) ?_
  · obtain ⟨x1, x2⟩ := F.og i (by omega)
    obtain ⟨y1, y2⟩ := sc.id (i : Int) (by omega) (by omega)
    rw [Int.toNat_natCast] at y1 y2
    have q1 : (0 : Int) ≤ (i : Int) ∧ (i : Int) < (c.2.2.2.1.length : Int) := by omega
    have q2 : (0 : Int) ≤ c.2.2.2.1.getD i 0 ∧ c.2.2.2.1.getD i 0 < (a.length : Int) := by omega
    have q3 : (0 : Int) ≤ (i : Int) ∧ (i : Int) < (o.length : Int) := by omega
    have q4 : (0 : Int) ≤ o.getD i 0 ∧ o.getD i 0 < (d.2.2.2.1.length : Int) := by omega
    simp only [lt_cast, hi, decide_true, cond_true, Int.toNat_natCast, q1, q2, q3, q4, and_self, if_true]
    unfold idsOK
    cases e1 : decide (a.getD (c.2.2.2.1.getD i 0).toNat 0 = d.2.2.2.1.getD (o.getD i 0).toNat 0) with
    | false => rfl
    | true =>
      simp only [Bool.not_true, cond_false, cond_true]
      rw [wrap_sm (by omega) (by omega)]
      rfl
  · simp only [lt_cast, Nat.lt_irrefl, decide_false, cond_false]
  cases l2 : (List.range N).all (idsOK c d o a) with
  | false => rfl
  | true =>
  simp only [cond_true, Bool.true_and]
  show (if 2 = 2 then _ else none) = _
  rw [if_pos rfl]
  refine bind_of (v := bif (List.range c.2.1.length).all (fun i => (List.range c.2.1.length).all (cmpOK c d o a i)) then .brk 4 (c.2.1.length : Int) else .ret false) (tloop_all (st := fun i : Nat => (i : Int)) (n := c.2.1.length) (p := fun i => (List.range c.2.1.length).all (cmpOK c d o a i)) (fun i hi => ?_) ?_ (fun y => by simp)) ?_
  · simp only [lt_cast, hi, decide_true, cond_true]
    refine bind_of (v := bif (List.range c.2.1.length).all (cmpOK c d o a i) then .brk 6 (c.2.1.length : Int) else .ret (.ret false)) (tloop_all (st := fun i : Nat => (i : Int)) (n := c.2.1.length) (p := cmpOK c d o a i) (fun j hj => ?_) ?_ (fun y => by simp)) ?_
    · obtain ⟨x1, x2⟩ := F.ag i (by omega)
      obtain ⟨y1, y2⟩ := F.ag j (by omega)
      have rw1 := sc.row i hi
      have rw2 := sd.row (a.getD i 0).toNat (by omega)
      have q1 : (0 : Int) ≤ (i : Int) ∧ (i : Int) < (c.2.2.1.length : Int) := by omega
      have q2 : (0 : Int) ≤ (j : Int) ∧ (j : Int) < (c.2.1.length : Int) := by omega
      have q3 : (0 : Int) ≤ (i : Int) ∧ (i : Int) < (c.2.2.2.2.length : Int) := by omega
      have q4 : (0 : Int) ≤ (j : Int) ∧ (j : Int) < ((c.2.2.2.2.getD i []).length : Int) := by omega
      have q5 : (0 : Int) ≤ (i : Int) ∧ (i : Int) < (a.length : Int) := by omega
      have q6 : (0 : Int) ≤ a.getD i 0 ∧ a.getD i 0 < (d.2.2.2.2.length : Int) := by omega
      have q7 : (0 : Int) ≤ (j : Int) ∧ (j : Int) < (a.length : Int) := by omega
      have q8 : (0 : Int) ≤ a.getD j 0 ∧ a.getD j 0 < ((d.2.2.2.2.getD (a.getD i 0).toNat []).length : Int) := by omega
      simp only [lt_cast, hj, decide_true, cond_true, Int.toNat_natCast, q1, q2, and_self, if_true]
      unfold cmpOK
      cases hm : mt c i j with
      | false =>
        have hm' : decide (c.2.2.1.getD i 0 = c.2.1.getD j 0) = false := hm
        simp only [hm', cond_false, Option.bind_some, cond_true]
        rw [wrap_sm (by omega) (by omega)]
        rfl
      | true =>
        have hm' : decide (c.2.2.1.getD i 0 = c.2.1.getD j 0) = true := hm
        obtain ⟨t1, t2, _, _⟩ := sc.pos i j hi hj hm
        unfold T at t1 t2
        have q9 : (0 : Int) ≤ (c.2.2.2.2.getD i []).getD j 0 ∧ (c.2.2.2.2.getD i []).getD j 0 < (a.length : Int) := by omega
        simp only [hm', cond_true, q3, q4, q5, q6, q7, q8, q9, and_self, if_true]
        unfold T
        cases e1 : decide (a.getD ((c.2.2.2.2.getD i []).getD j 0).toNat 0 = (d.2.2.2.2.getD (a.getD i 0).toNat []).getD (a.getD j 0).toNat 0) with
        | false => rfl
        | true =>
          simp only [Bool.not_true, Option.bind_some, cond_false, cond_true]
          rw [wrap_sm (by omega) (by omega)]
          rfl
    · simp only [lt_cast, Nat.lt_irrefl, decide_false, cond_false]
    · cases (List.range c.2.1.length).all (cmpOK c d o a i) with
      | false => rfl
      | true =>
        show (if 6 = 6 then _ else none) = _
        rw [if_pos rfl, wrap_sm (by omega) (by omega)]
        rfl
  · simp only [lt_cast, Nat.lt_irrefl, decide_false, cond_false]
  · cases (List.range c.2.1.length).all (fun i => (List.range c.2.1.length).all (cmpOK c d o a i)) with
    | false => rfl
    | true => rfl
end Go.Ve.D

