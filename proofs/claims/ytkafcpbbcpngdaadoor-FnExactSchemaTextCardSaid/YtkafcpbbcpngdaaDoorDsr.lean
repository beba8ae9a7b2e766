/- Schemas: the two tests. -/
import Derived.Test.YtkafcpbbcpngdaaDoorDsq
namespace Go.Ve.D
open Go Go.Ve

def lft (s : Scm) (i : Nat) : Pth := s.2.2.2.1.getD i ((0 : Int), ([] : (List Int)))
def rgt (s : Scm) (i : Nat) : Pth := s.2.2.2.2.getD i ((0 : Int), ([] : (List Int)))
def eqOK (s : Scm) (i : Nat) : Bool := pOK s (lft s i) && (pOK s (rgt s i) && (decide ((lft s i).1 = (rgt s i).1) && decide (atP s (lft s i) (lft s i).2.length = atP s (rgt s i) (rgt s i).2.length)))
def sOK (s : Scm) : Bool := decide (sHead s) && (List.range s.2.2.2.1.length).all (eqOK s)
theorem sOK_f {s : Scm} (h : ¬ sHead s) : sOK s = false := by simp [sOK, h]
theorem sOK_t {s : Scm} (h : sHead s) : sOK s = (List.range s.2.2.2.1.length).all (eqOK s) := by simp [sOK, h]
theorem orB (a b : Bool) : (bif !a then some true else some (!b)) = some (!(a && b)) := by cases a <;> rfl

theorem p40 {s : Scm} (hok : okS s) : G40 s = some (sOK s) := by
  obtain ⟨k1, k2, ⟨k3, k3'⟩, ⟨k4, k4'⟩⟩ := hok
  unfold G40
  simp only [p56, p25 k1, p25 k2, Option.bind_some]
  by_cases c1 : 0 ≤ s.1 ∧ s.1 ≤ 8
  case neg =>
    rw [show (decide ((0 : Int) ≤ s.1) && decide (s.1 ≤ 8)) = false by simp; omega, sOK_f fun h => c1 h.1]
    rfl
  rw [show (decide ((0 : Int) ≤ s.1) && decide (s.1 ≤ 8)) = true by simp; omega]
  simp only [Bool.not_true, cond_false, Option.bind_some]
  by_cases c2 : s.2.1.length ≤ 8
  case neg =>
    rw [show decide ((8 : Int) < (s.2.1.length : Int)) = true from decide_eq_true (by omega), sOK_f fun h => c2 h.2.1]
    rfl
  rw [show decide ((8 : Int) < (s.2.1.length : Int)) = false from decide_eq_false (by omega)]
  simp only [cond_false, Option.bind_some]
  by_cases c3 : s.2.2.1.length = s.2.1.length
  case neg =>
    rw [show decide ((s.2.2.1.length : Int) = (s.2.1.length : Int)) = false from decide_eq_false (by omega), sOK_f fun h => c3 h.2.2.1]
    rfl
  rw [show decide ((s.2.2.1.length : Int) = (s.2.1.length : Int)) = true from decide_eq_true (by omega)]
  simp only [Bool.not_true, cond_false, Option.bind_some]
  cases c4 : wi s.1 s.2.1 with
  | false =>
    rw [sOK_f fun h => by rw [h.2.2.2.1] at c4; cases c4]
    rfl
  | true =>
  simp only [Bool.not_true, cond_false, Option.bind_some]
  cases c5 : wi s.1 s.2.2.1 with
  | false =>
    rw [sOK_f fun h => by rw [h.2.2.2.2.1] at c5; cases c5]
    rfl
  | true =>
  simp only [Bool.not_true, cond_false, Option.bind_some]
  by_cases c6 : s.2.2.2.1.length ≤ 8
  case neg =>
    rw [show decide ((8 : Int) < (s.2.2.2.1.length : Int)) = true from decide_eq_true (by omega), sOK_f fun h => c6 h.2.2.2.2.2.1]
    rfl
  rw [show decide ((8 : Int) < (s.2.2.2.1.length : Int)) = false from decide_eq_false (by omega)]
  simp only [cond_false, Option.bind_some]
  by_cases c7 : s.2.2.2.2.length = s.2.2.2.1.length
  case neg =>
    rw [show decide ((s.2.2.2.2.length : Int) = (s.2.2.2.1.length : Int)) = false from decide_eq_false (by omega), sOK_f fun h => c7 h.2.2.2.2.2.2]
    rfl
  rw [show decide ((s.2.2.2.2.length : Int) = (s.2.2.2.1.length : Int)) = true from decide_eq_true (by omega)]
  simp only [Bool.not_true, cond_false, Option.bind_some]
  rw [sOK_t ⟨c1, c2, c3, c4, c5, c6, c7⟩]
  refine bind_of (tloop_all (st := fun i => (i : Int)) (n := s.2.2.2.1.length) (p := eqOK s) (r := false) (o := .brk 0 (s.2.2.2.1.length : Int)) (fun i hi => ?_) ?_ (fun y h => by cases h)) ?_
  · show (bif decide ((i : Int) < (s.2.2.2.1.length : Int)) then _ else _) = _
    rw [lt_cast, decide_eq_true hi, cond_true]
    have hl : (lft s i).2.length ≤ 1048576 := k3' _ (mem_at hi)
    have hr : (rgt s i).2.length ≤ 1048576 := k4' _ (mem_at (by omega))
    refine if_of (in_cast hi) (if_of (by rw [c7]; exact in_cast hi) (bind_of (v := pOK s (lft s i)) (p54 c1 c3 hl) ?_))
    unfold eqOK
    cases h1 : pOK s (lft s i) with
    | false => rfl
    | true =>
      refine bind_of (v := !pOK s (rgt s i)) (bind_of (v := pOK s (rgt s i)) (p54 c1 c3 hr) rfl) ?_
      cases h2 : pOK s (rgt s i) with
      | false => rfl
      | true =>
        refine bind_of (v := !decide ((lft s i).1 = (rgt s i).1)) rfl ?_
        cases h3 : decide ((lft s i).1 = (rgt s i).1) with
        | false => rfl
        | true =>
          refine bind_of (v := !decide (atP s (lft s i) (lft s i).2.length = atP s (rgt s i) (rgt s i).2.length)) (bind_of (v := atP s (lft s i) (lft s i).2.length) (p57 c3 h1) (bind_of (v := atP s (rgt s i) (rgt s i).2.length) (p57 c3 h2) rfl)) ?_
          cases h4 : decide (atP s (lft s i) (lft s i).2.length = atP s (rgt s i) (rgt s i).2.length) with
          | false => rfl
          | true =>
            show some (LO.next (IntKind.wrap .i64 ((i : Int) + 1))) = _
            rw [wrap_sm (by omega) (by omega)]
            rfl
  · show (bif decide ((s.2.2.2.1.length : Int) < (s.2.2.2.1.length : Int)) then _ else _) = _
    rw [decide_eq_false (by omega), cond_false]
  · cases (List.range s.2.2.2.1.length).all (eqOK s) <;> rfl

theorem p42 {s : Scm} (hok : okS s) : G42 s = some (sOK s) := by
  obtain ⟨k1, k2, ⟨k3, k3'⟩, ⟨k4, k4'⟩⟩ := hok
  unfold G42
  simp only [p52, Option.bind_some]
  by_cases c1 : 0 ≤ s.1 ∧ s.1 ≤ 8
  case neg =>
    rw [show (decide ((0 : Int) ≤ s.1) && decide (s.1 ≤ 8)) = false by simp; omega, sOK_f fun h => c1 h.1]
    rfl
  rw [show (decide ((0 : Int) ≤ s.1) && decide (s.1 ≤ 8)) = true by simp; omega]
  simp only [Bool.not_true, cond_false, Option.bind_some, p28 (show 0 ≤ s.1 ∧ s.1 ≤ 9223372036854775807 by omega) k1, p28 (show 0 ≤ s.1 ∧ s.1 ≤ 9223372036854775807 by omega) k2]
  by_cases c2 : s.2.1.length ≤ 8
  case neg =>
    rw [show decide ((8 : Int) < (s.2.1.length : Int)) = true from decide_eq_true (by omega), sOK_f fun h => c2 h.2.1]
    rfl
  rw [show decide ((8 : Int) < (s.2.1.length : Int)) = false from decide_eq_false (by omega)]
  simp only [cond_false, Option.bind_some]
  by_cases c3 : s.2.2.1.length = s.2.1.length
  case neg =>
    rw [show decide ((s.2.2.1.length : Int) = (s.2.1.length : Int)) = false from decide_eq_false (by omega), sOK_f fun h => c3 h.2.2.1]
    rfl
  rw [show decide ((s.2.2.1.length : Int) = (s.2.1.length : Int)) = true from decide_eq_true (by omega)]
  simp only [Bool.not_true, cond_false, Option.bind_some]
  cases c4 : wi s.1 s.2.1 with
  | false =>
    rw [sOK_f fun h => by rw [h.2.2.2.1] at c4; cases c4]
    rfl
  | true =>
  simp only [Bool.not_true, cond_false, Option.bind_some]
  cases c5 : wi s.1 s.2.2.1 with
  | false =>
    rw [sOK_f fun h => by rw [h.2.2.2.2.1] at c5; cases c5]
    rfl
  | true =>
  simp only [Bool.not_true, cond_false, Option.bind_some]
  by_cases c6 : s.2.2.2.1.length ≤ 8
  case neg =>
    rw [show decide ((8 : Int) < (s.2.2.2.1.length : Int)) = true from decide_eq_true (by omega), sOK_f fun h => c6 h.2.2.2.2.2.1]
    rfl
  rw [show decide ((8 : Int) < (s.2.2.2.1.length : Int)) = false from decide_eq_false (by omega)]
  simp only [cond_false, Option.bind_some]
  by_cases c7 : s.2.2.2.2.length = s.2.2.2.1.length
  case neg =>
    rw [show decide ((s.2.2.2.2.length : Int) = (s.2.2.2.1.length : Int)) = false from decide_eq_false (by omega), sOK_f fun h => c7 h.2.2.2.2.2.2]
    rfl
  rw [show decide ((s.2.2.2.2.length : Int) = (s.2.2.2.1.length : Int)) = true from decide_eq_true (by omega)]
  simp only [Bool.not_true, cond_false, Option.bind_some]
  rw [sOK_t ⟨c1, c2, c3, c4, c5, c6, c7⟩]
  refine bind_of (tloop_all (st := fun i => (i : Int)) (n := s.2.2.2.1.length) (p := eqOK s) (r := false) (o := .brk 0 (s.2.2.2.1.length : Int)) (fun i hi => ?_) ?_ (fun y h => by cases h)) ?_
  · show (bif decide ((i : Int) < (s.2.2.2.1.length : Int)) then _ else _) = _
    rw [lt_cast, decide_eq_true hi, cond_true]
    have hl : (lft s i).2.length ≤ 1048576 := k3' _ (mem_at hi)
    have hr : (rgt s i).2.length ≤ 1048576 := k4' _ (mem_at (by omega))
    refine if_of (in_cast hi) (if_of (by rw [c7]; exact in_cast hi) (bind_of (v := res s (lft s i) (pOK s (lft s i))) (p55 c1 c2 c3 hl) (bind_of (v := res s (rgt s i) (pOK s (rgt s i))) (p55 c1 c2 c3 hr) ?_)))
    unfold eqOK
    cases h1 : pOK s (lft s i) with
    | false => rfl
    | true =>
      cases h2 : pOK s (rgt s i) with
      | false => rfl
      | true =>
        refine bind_of (v := false) rfl (bind_of (v := !decide ((lft s i).1 = (rgt s i).1)) rfl ?_)
        cases h3 : decide ((lft s i).1 = (rgt s i).1) with
        | false => rfl
        | true =>
          refine bind_of (v := !decide (atP s (lft s i) (lft s i).2.length = atP s (rgt s i) (rgt s i).2.length)) rfl ?_
          cases h4 : decide (atP s (lft s i) (lft s i).2.length = atP s (rgt s i) (rgt s i).2.length) with
          | false => rfl
          | true =>
            show some (LO.next (IntKind.wrap .i64 ((i : Int) + 1))) = _
            rw [wrap_sm (by omega) (by omega)]
            rfl
  · show (bif decide ((s.2.2.2.1.length : Int) < (s.2.2.2.1.length : Int)) then _ else _) = _
    rw [decide_eq_false (by omega), cond_false]
  · cases (List.range s.2.2.2.1.length).all (eqOK s) <;> rfl
end Go.Ve.D

