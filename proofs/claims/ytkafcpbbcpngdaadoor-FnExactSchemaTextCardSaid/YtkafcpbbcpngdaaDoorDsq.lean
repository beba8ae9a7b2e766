/- Schemas and their paths: the two tests agree. -/
import Derived.Test.YtkafcpbbcpngdaaDoorDso
namespace Go.Ve.D
open Go Go.Ve

abbrev nE (s : Scm) : Nat := s.2.1.length
def sHead (s : Scm) : Prop := (0 ≤ s.1 ∧ s.1 ≤ 8) ∧ s.2.1.length ≤ 8 ∧ s.2.2.1.length = s.2.1.length ∧ wi s.1 s.2.1 = true ∧ wi s.1 s.2.2.1 = true ∧ s.2.2.2.1.length ≤ 8 ∧ s.2.2.2.2.length = s.2.2.2.1.length
instance (s : Scm) : Decidable (sHead s) := by unfold sHead; infer_instance
def atP (s : Scm) (p : Pth) : Nat → Int
  | 0 => p.1
  | i + 1 => s.2.2.1.getD (p.2.getD i 0).toNat 0
def ch (s : Scm) (p : Pth) (i : Nat) : Bool := decide (s.2.1.getD (p.2.getD i 0).toNat 0 = atP s p i)
def pOK (s : Scm) (p : Pth) : Bool := inn s.1 p.1 && (decide (p.2.length ≤ 6) && (wi s.2.1.length p.2 && (List.range p.2.length).all (ch s p)))

theorem p54 {s : Scm} (hs : 0 ≤ s.1 ∧ s.1 ≤ 8) (hto : s.2.2.1.length = s.2.1.length) {p : Pth} (hp : p.2.length ≤ 1048576) : G54 (s, p) = some (pOK s p) := by
  unfold G54
  simp only [p56' p.1 s.1 ⟨hs.1, by omega⟩, p25 hp, Option.bind_some]
  cases h1 : inn s.1 p.1 with
  | false => simp [pOK, h1]
  | true =>
    simp only [Bool.not_true, cond_false, Option.bind_some]
    by_cases h2 : (6 : Int) < (p.2.length : Int)
    · have h2' : decide (p.2.length ≤ 6) = false := decide_eq_false (by omega)
      simp only [h2, decide_true, cond_true, Option.bind_some, pOK, h1, h2', Bool.false_and, Bool.and_false]
    have h2' : decide (p.2.length ≤ 6) = true := decide_eq_true (by omega)
    simp only [h2, decide_false, cond_false, Option.bind_some]
    cases h3 : wi s.2.1.length p.2 with
    | false => simp [pOK, h3]
    | true =>
      simp only [Bool.not_true, cond_false]
      have hv : pOK s p = (List.range p.2.length).all (ch s p) := by simp only [pOK, h1, h2', h3, Bool.true_and]
      rw [hv]
      refine bind_of (tloop_all (st := fun i => (atP s p i, (i : Int))) (n := p.2.length) (p := ch s p) (r := false) (o := .brk 0 (atP s p p.2.length, (p.2.length : Int))) (fun i hi => ?_) ?_ (fun y h => by cases h)) ?_
      · show (bif decide ((i : Int) < (p.2.length : Int)) then _ else _) = _
        rw [lt_cast, decide_eq_true hi, cond_true]
        have he := wi_get h3 hi
        refine if_of (in_cast hi) (if_of he ?_)
        show (bif !ch s p i then _ else _) = _
        cases hc : ch s p i with
        | false => rfl
        | true =>
          rw [Bool.not_true, cond_false, cond_true]
          refine if_of (in_cast hi) (if_of (by rw [hto]; exact he) ?_)
          show some (LO.next (_, IntKind.wrap .i64 ((i : Int) + 1))) = _
          rw [wrap_sm (by omega) (by omega)]
          rfl
      · show (bif decide ((p.2.length : Int) < (p.2.length : Int)) then _ else _) = _
        rw [decide_eq_false (by omega), cond_false]
      · cases (List.range p.2.length).all (ch s p) <;> rfl

theorem all_and (p q : Nat → Bool) : ∀ n, (List.range n).all (fun i => p i && q i) = ((List.range n).all p && (List.range n).all q) := by
  intro n
  rw [Bool.eq_iff_iff]
  simp only [List.all_eq_true, Bool.and_eq_true, List.mem_range]
  exact ⟨fun h => ⟨fun x hx => (h x hx).1, fun x hx => (h x hx).2⟩, fun h x hx => ⟨h.1 x hx, h.2 x hx⟩⟩
def res (s : Scm) (p : Pth) (b : Bool) : Int × Bool := bif b then (atP s p p.2.length, true) else (0, false)
theorem p71 {s : Scm} (hn : s.2.1.length ≤ 8) (hto : s.2.2.1.length = s.2.1.length) {p : Pth} (hp : p.2.length ≤ 1048576) : G71 (s, p) = some (res s p (wi s.2.1.length p.2 && (List.range p.2.length).all (ch s p))) := by
  have hw : (wi s.2.1.length p.2 && (List.range p.2.length).all (ch s p)) = (List.range p.2.length).all (fun i => inn s.2.1.length (p.2.getD i 0) && ch s p i) := by
    rw [all_and, all_idx (0 : Int) (inn s.2.1.length) p.2]; rfl
  rw [hw]
  unfold G71
  refine bind_of (tloop_all (st := fun i => (atP s p i, (i : Int))) (n := p.2.length) (p := fun i => inn s.2.1.length (p.2.getD i 0) && ch s p i) (r := ((0 : Int), false)) (o := .brk 0 (atP s p p.2.length, (p.2.length : Int))) (fun i hi => ?_) ?_ (fun y h => by cases h)) ?_
  · show (bif decide ((i : Int) < (p.2.length : Int)) then _ else _) = _
    rw [lt_cast, decide_eq_true hi, cond_true]
    refine if_of (in_cast hi) (bind_of (p52' (p.2.getD i 0) s.2.1.length ⟨by omega, by omega⟩) ?_)
    cases h1 : inn s.2.1.length (p.2.getD i 0) with
    | false => rfl
    | true =>
      have he := inn_iff.1 h1
      refine bind_of (v := !ch s p i) (if_of he rfl) ?_
      cases hc : ch s p i with
      | false => rfl
      | true =>
        refine if_of (by rw [hto]; exact he) ?_
        show some (LO.next (_, IntKind.wrap .i64 ((i : Int) + 1))) = _
        rw [wrap_sm (by omega) (by omega)]
        rfl
  · show (bif decide ((p.2.length : Int) < (p.2.length : Int)) then _ else _) = _
    rw [decide_eq_false (by omega), cond_false]
  · cases (List.range p.2.length).all (fun i => inn s.2.1.length (p.2.getD i 0) && ch s p i) <;> rfl
theorem p55 {s : Scm} (hs : 0 ≤ s.1 ∧ s.1 ≤ 8) (hn : s.2.1.length ≤ 8) (hto : s.2.2.1.length = s.2.1.length) {p : Pth} (hp : p.2.length ≤ 1048576) : G55 (s, p) = some (res s p (pOK s p)) := by
  unfold G55
  refine bind_of (p52' p.1 s.1 ⟨hs.1, by omega⟩) ?_
  unfold pOK
  cases h1 : inn s.1 p.1 with
  | false => rfl
  | true =>
    by_cases h2 : p.2.length ≤ 6
    · refine bind_of (v := false) (by show some (decide ((6 : Int) < (p.2.length : Int))) = _; rw [decide_eq_false (by omega)]) ?_
      rw [cond_false, decide_eq_true h2, Bool.true_and, Bool.true_and]
      exact bind_of (p71 hn hto hp) rfl
    · refine bind_of (v := true) (by show some (decide ((6 : Int) < (p.2.length : Int))) = _; rw [decide_eq_true (by omega)]) ?_
      rw [cond_true, decide_eq_false h2]
      rfl
theorem pOK_get {s : Scm} {p : Pth} (h : pOK s p = true) : inn s.1 p.1 = true ∧ p.2.length ≤ 6 ∧ wi s.2.1.length p.2 = true := by
  unfold pOK at h
  simp only [Bool.and_eq_true, decide_eq_true_eq] at h
  exact ⟨h.1, h.2.1, h.2.2.1⟩
theorem p57 {s : Scm} (hto : s.2.2.1.length = s.2.1.length) {p : Pth} (h : pOK s p = true) : G57 (s, p) = some (atP s p p.2.length) := by
  obtain ⟨_, h6, hw⟩ := pOK_get h
  unfold G57
  by_cases h0 : p.2.length = 0
  · show (bif decide ((p.2.length : Int) = 0) then _ else _) = _
    rw [decide_eq_true (by omega), cond_true, h0]; rfl
  · show (bif decide ((p.2.length : Int) = 0) then _ else _) = _
    rw [decide_eq_false (by omega), cond_false]
    have e : IntKind.wrap .i64 ((p.2.length : Int) - 1) = ((p.2.length - 1 : Nat) : Int) := by rw [wrap_sm (by omega) (by omega)]; omega
    show (if (0 : Int) ≤ IntKind.wrap .i64 ((p.2.length : Int) - 1) ∧ IntKind.wrap .i64 ((p.2.length : Int) - 1) < (p.2.length : Int) then
      (if (0 : Int) ≤ p.2.getD (IntKind.wrap .i64 ((p.2.length : Int) - 1)).toNat 0 ∧ p.2.getD (IntKind.wrap .i64 ((p.2.length : Int) - 1)).toNat 0 < (s.2.2.1.length : Int) then some (s.2.2.1.getD (p.2.getD (IntKind.wrap .i64 ((p.2.length : Int) - 1)).toNat 0).toNat 0) else none) else none) = _
    rw [e, Int.toNat_natCast]
    have he := wi_get hw (show p.2.length - 1 < p.2.length by omega)
    refine if_of ⟨by omega, by omega⟩ (if_of (by rw [hto]; exact he) ?_)
    obtain ⟨k, hk⟩ : ∃ k, p.2.length = k + 1 := ⟨p.2.length - 1, by omega⟩
    rw [hk]
    rfl
end Go.Ve.D

