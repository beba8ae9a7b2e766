/- Sets of arrows: what they compute. -/
import Derived.Test.YtcdekmccongjgaaOab
namespace Go.Ve.D
open Go Go.Ve

theorem isCat_sh {c : Cat} (h : isCat c = true) : Sh c := by
  unfold isCat at h
  rw [Bool.and_eq_true] at h
  exact sh_of h.1

/-! Loops. -/
/-- a loop that gathers -/
theorem gather {α R : Type} {f : (Int × List α) → Option (LO (Int × List α) R)} {n : Nat} {q : Nat → Bool} {g : Nat → α} {id : Nat}
    (h1 : ∀ i, i < n → ∀ acc : List α, acc.length ≤ i → f ((i : Int), acc) = some (.next (((i + 1 : Nat) : Int), bif q i then acc ++ [g i] else acc)))
    (h2 : ∀ acc : List α, f ((n : Int), acc) = some (.brk id ((n : Int), acc))) :
    tloop f ((0 : Int), []) = some (.brk id ((n : Int), ((List.range n).filter q).map g)) := by
  have key : ∀ i, (((List.range i).filter q).map g).length ≤ i := fun i => by
    rw [List.length_map]
    have := List.length_filter_le q (List.range i)
    rwa [List.length_range] at this
  refine tloop_iter (st := fun i : Nat => ((i : Int), ((List.range i).filter q).map g)) (n := n) (fun i hi => ?_) (h2 _) (fun y => by simp)
  rw [h1 i hi _ (key i), List.range_succ, List.filter_append, List.map_append]
  congr 3
  cases hq : q i <;> simp [hq]

def fT (c : Cat) (f : Nat) : Int := c.2.1.getD f 0
def tT (c : Cat) (f : Nat) : Int := c.2.2.1.getD f 0
def ar (c : Cat) : Nat := c.2.1.length
def homL (c : Cat) (x y : Int) : List Int := ((List.range (ar c)).filter fun f => decide (fT c f = x) && decide (tT c f = y)).map fun (f : Nat) => (f : Int)
/-! Sets. -/
theorem p131 {x : List Int} (h : x.length ≤ 1048576) (a : Int) : G131 (x, a) = some (x.contains a) := by
  unfold G131
  simp only
  have e : x.contains a = !((List.range x.length).all fun i => !decide (x.getD i 0 = a)) := by
    rw [all_idx (0 : Int) (fun b => !decide (b = a)) x, Bool.eq_iff_iff]
    simp [List.contains_eq_mem]
  refine bind_of (tloop_all (st := fun i : Nat => (i : Int)) (n := x.length) (p := fun i => !decide (x.getD i 0 = a)) (r := true) (o := .brk 0 (x.length : Int)) (fun i hi => ?_) ?_ (fun y => by simp)) ?_
  · simp only [lt_cast, hi, decide_true, cond_true, in_cast hi, if_true, and_self, Int.toNat_natCast]
    rw [wrap_sm (by omega) (by omega)]
    cases decide (x.getD i 0 = a) <;> rfl
  · simp only [lt_cast, Nat.lt_irrefl, decide_false, cond_false]
  · rw [e]
    cases (List.range x.length).all fun i => !decide (x.getD i 0 = a) <;> rfl

/-- each is less than the next -/
def risB (x : List Int) : Bool := (List.range (x.length - 1)).all fun i => !decide (x.getD (i + 1) 0 ≤ x.getD i 0)
theorem p142 {x : List Int} (h : x.length ≤ 1048576) : G142 x = some (risB x) := by
  unfold G142 risB
  by_cases h0 : x.length = 0
  · rw [tloop_eq]
    have e : decide ((1 : Int) < ((x.length : Nat) : Int)) = false := by simp; omega
    simp only [e, cond_false, Option.bind_some]
    rw [h0]; rfl
  refine bind_of (tloop_all (st := fun i : Nat => ((i + 1 : Nat) : Int)) (n := x.length - 1) (p := fun i => !decide (x.getD (i + 1) 0 ≤ x.getD i 0)) (r := false) (o := .brk 0 (x.length : Int)) (fun i hi => ?_) ?_ (fun y => by simp)) ?_
  · have hi1 : i + 1 < x.length := by omega
    have e1 : IntKind.wrap .i64 (((i + 1 : Nat) : Int) - 1) = ((i : Nat) : Int) := by rw [wrap_sm (by omega) (by omega)]; omega
    have e2 : IntKind.wrap .i64 (((i + 1 : Nat) : Int) + 1) = ((i + 1 + 1 : Nat) : Int) := by rw [wrap_sm (by omega) (by omega)]; omega
    simp only [lt_cast, hi1, decide_true, cond_true, in_cast hi1, e1, e2, in_cast (show i < x.length by omega), if_true, and_self, Int.toNat_natCast]
    cases decide (x.getD (i + 1) 0 ≤ x.getD i 0) <;> rfl
  · have e : decide (((x.length - 1 + 1 : Nat) : Int) < ((x.length : Nat) : Int)) = false := by simp; omega
    simp only [e, cond_false]
    congr 2
    omega
  · cases (List.range (x.length - 1)).all fun i => !decide (x.getD (i + 1) 0 ≤ x.getD i 0) <;> rfl
theorem p147 {x : List Int} (h : x.length ≤ 1048576) : G147 x = some (risB x) := by
  unfold G147 risB
  by_cases h0 : x.length = 0
  · rw [tloop_eq]
    have e : decide ((1 : Int) < ((x.length : Nat) : Int)) = false := by simp; omega
    simp only [e, cond_false, Option.bind_some]
    rw [h0]; rfl
  refine bind_of (tloop_all (st := fun i : Nat => ((i + 1 : Nat) : Int)) (n := x.length - 1) (p := fun i => !decide (x.getD (i + 1) 0 ≤ x.getD i 0)) (r := false) (o := .brk 0 (x.length : Int)) (fun i hi => ?_) ?_ (fun y => by simp)) ?_
  · have hi1 : i + 1 < x.length := by omega
    have e1 : IntKind.wrap .i64 (((i + 1 : Nat) : Int) - 1) = ((i : Nat) : Int) := by rw [wrap_sm (by omega) (by omega)]; omega
    have e2 : IntKind.wrap .i64 (((i + 1 : Nat) : Int) + 1) = ((i + 1 + 1 : Nat) : Int) := by rw [wrap_sm (by omega) (by omega)]; omega
    simp only [lt_cast, hi1, decide_true, cond_true, in_cast hi1, e1, e2, in_cast (show i < x.length by omega), if_true, and_self, Int.toNat_natCast]
    cases decide (x.getD (i + 1) 0 ≤ x.getD i 0) <;> rfl
  · have e : decide (((x.length - 1 + 1 : Nat) : Int) < ((x.length : Nat) : Int)) = false := by simp; omega
    simp only [e, cond_false]
    congr 2
    omega
  · cases (List.range (x.length - 1)).all fun i => !decide (x.getD (i + 1) 0 ≤ x.getD i 0) <;> rfl

/-- the code of a category and arrows -/
def arrC (c : Cat) (w : List Int) : Int := bif !isCat c then 1 else bif !wi (ar c) w then 2 else 0
/-- ... and of a set of arrows -/
def setC (c : Cat) (w : List Int) : Int := bif decide (arrC c w = 0) && !risB w then 5 else arrC c w
def mkB (c : Cat) (w : List Int) : List Bool := (List.range (ar c)).map fun (f : Nat) => w.contains (f : Int)
theorem mkB_len {c : Cat} {w : List Int} : (mkB c w).length = ar c := by simp [mkB]
theorem mkB_get {c : Cat} {w : List Int} {f : Nat} (hf : f < ar c) : (mkB c w).getD f false = w.contains (f : Int) := by simp [mkB, hf]
end Go.Ve.D

