/- Sets of arrows: what they compute. -/
import Derived.Test.YtkafcpbbcpngdaaMfb
namespace Go.Ve.D
open Go Go.Ve

theorem isCat_sh {c : Cat} (h : isCat c = true) : Sh c := by
  unfold isCat at h
  rw [Bool.and_eq_true] at h
  exact sh_of h.1

/-! Loops. -/
/-- a loop that gathers -/
theorem gather {α R : Type} {f : (Int × List α) → Option (LO (Int × List α) R)} {n : Nat} {q : Nat → Bool} {g : Nat → α} {id : Nat}
    (h1 : ∀ i, i < n → ∀ acc : List α, acc.length ≤ i → f ((i : Int), acc) = some (.next (((i + 1 : Nat) : Int), bif q i then acc ++ [g i] else acc)))
    (h2 : ∀ acc : List α, f ((n : Int), acc) = some (.brk id ((n : Int), acc))) :
    tloop f ((0 : Int), []) = some (.brk id ((n : Int), ((List.range n).filter q).map g)) := by
  have key : ∀ i, (((List.range i).filter q).map g).length ≤ i := fun i => by
    rw [List.length_map]
    have := List.length_filter_le q (List.range i)
    rwa [List.length_range] at this
  refine tloop_iter (st := fun i : Nat => ((i : Int), ((List.range i).filter q).map g)) (n := n) (fun i hi => ?_) (h2 _) (fun y => by simp)
  rw [h1 i hi _ (key i), List.range_succ, List.filter_append, List.map_append]
  congr 3
  cases hq : q i <;> simp [hq]

def fT (c : Cat) (f : Nat) : Int := c.2.1.getD f 0
def tT (c : Cat) (f : Nat) : Int := c.2.2.1.getD f 0
def ar (c : Cat) : Nat := c.2.1.length
def homL (c : Cat) (x y : Int) : List Int := ((List.range (ar c)).filter fun f => decide (fT c f = x) && decide (tT c f = y)).map fun (f : Nat) => (f : Int)
theorem p116 {c : Cat} (hm : c.2.1.length ≤ 1048576) (ht : c.2.2.1.length = c.2.1.length) (x y : Int) : G116 (c, (x, y)) = some (homL c x y) := by
  obtain ⟨c1, c2, c3, c4, c5⟩ := c
  unfold G116
  simp only at hm ht ⊢
  refine bind_of (v := .brk 0 ((c2.length : Int), homL (c1, (c2, (c3, (c4, c5)))) x y)) (gather (fun i hi acc ha => ?_) fun acc => ?_) rfl
  · simp only [lt_cast, hi, decide_true, cond_true, in_cast hi, if_true, and_self, Int.toNat_natCast, List.length_cons, List.length_nil, ht]
    rw [wrap_sm (by omega) (by omega), if_pos (show acc.length + (0 + 1) ≤ 17592186044416 by omega)]
    show Option.bind (bif decide (c2.getD i 0 = x) then some (decide (c3.getD i 0 = y)) else some false) _ = _
    show _ = some (LO.next (((i + 1 : Nat) : Int), bif decide (c2.getD i 0 = x) && decide (c3.getD i 0 = y) then acc ++ [(i : Int)] else acc))
    cases decide (c2.getD i 0 = x) <;> cases decide (c3.getD i 0 = y) <;> rfl
  · simp only [lt_cast, Nat.lt_irrefl, decide_false, cond_false]
theorem p120 {c : Cat} (hm : c.2.1.length ≤ 1048576) (ht : c.2.2.1.length = c.2.1.length) (x y : Int) : G120 (c, (x, y)) = some (homL c x y) := by
  have e : G120 = G116 := rfl
  rw [e]; exact p116 hm ht x y

/-! Sets. -/
theorem p117 {x : List Int} (h : x.length ≤ 1048576) (a : Int) : G117 (x, a) = some (x.contains a) := by
  unfold G117
  simp only
  have e : x.contains a = !((List.range x.length).all fun i => !decide (x.getD i 0 = a)) := by
    rw [all_idx (0 : Int) (fun b => !decide (b = a)) x, Bool.eq_iff_iff]
    simp [List.contains_eq_mem]
  refine bind_of (tloop_all (st := fun i : Nat => (i : Int)) (n := x.length) (p := fun i => !decide (x.getD i 0 = a)) (r := true) (o := .brk 0 (x.length : Int)) (fun i hi => ?_) ?_ (fun y => by simp)) ?_
  · simp only [lt_cast, hi, decide_true, cond_true, in_cast hi, if_true, and_self, Int.toNat_natCast]
    rw [wrap_sm (by omega) (by omega)]
    cases decide (x.getD i 0 = a) <;> rfl
  · simp only [lt_cast, Nat.lt_irrefl, decide_false, cond_false]
  · rw [e]
    cases (List.range x.length).all fun i => !decide (x.getD i 0 = a) <;> rfl

/-- each is less than the next -/
def risB (x : List Int) : Bool := (List.range (x.length - 1)).all fun i => !decide (x.getD (i + 1) 0 ≤ x.getD i 0)
theorem p136 {x : List Int} (h : x.length ≤ 1048576) : G136 x = some (risB x) := by
  unfold G136 risB
  by_cases h0 : x.length = 0
  · rw [tloop_eq]
    have e : decide ((1 : Int) < ((x.length : Nat) : Int)) = false := by simp; omega
    simp only [e, cond_false, Option.bind_some]
    rw [h0]; rfl
  refine bind_of (tloop_all (st := fun i : Nat => ((i + 1 : Nat) : Int)) (n := x.length - 1) (p := fun i => !decide (x.getD (i + 1) 0 ≤ x.getD i 0)) (r := false) (o := .brk 0 (x.length : Int)) (fun i hi => ?_) ?_ (fun y => by simp)) ?_
  · have hi1 : i + 1 < x.length := by omega
    have e1 : IntKind.wrap .i64 (((i + 1 : Nat) : Int) - 1) = ((i : Nat) : Int) := by rw [wrap_sm (by omega) (by omega)]; omega
    have e2 : IntKind.wrap .i64 (((i + 1 : Nat) : Int) + 1) = ((i + 1 + 1 : Nat) : Int) := by rw [wrap_sm (by omega) (by omega)]; omega
    simp only [lt_cast, hi1, decide_true, cond_true, in_cast hi1, e1, e2, in_cast (show i < x.length by omega), if_true, and_self, Int.toNat_natCast]
    cases decide (x.getD (i + 1) 0 ≤ x.getD i 0) <;> rfl
  · have e : decide (((x.length - 1 + 1 : Nat) : Int) < ((x.length : Nat) : Int)) = false := by simp; omega
    simp only [e, cond_false]
    congr 2
    omega
  · cases (List.range (x.length - 1)).all fun i => !decide (x.getD (i + 1) 0 ≤ x.getD i 0) <;> rfl
theorem p130 {x : List Int} (h : x.length ≤ 1048576) : G130 x = some (risB x) := by
  unfold G130 risB
  by_cases h0 : x.length = 0
  · rw [tloop_eq]
    have e : decide ((1 : Int) < ((x.length : Nat) : Int)) = false := by simp; omega
    simp only [e, cond_false, Option.bind_some]
    rw [h0]; rfl
  refine bind_of (tloop_all (st := fun i : Nat => ((i + 1 : Nat) : Int)) (n := x.length - 1) (p := fun i => !decide (x.getD (i + 1) 0 ≤ x.getD i 0)) (r := false) (o := .brk 0 (x.length : Int)) (fun i hi => ?_) ?_ (fun y => by simp)) ?_
  · have hi1 : i + 1 < x.length := by omega
    have e1 : IntKind.wrap .i64 (((i + 1 : Nat) : Int) - 1) = ((i : Nat) : Int) := by rw [wrap_sm (by omega) (by omega)]; omega
    have e2 : IntKind.wrap .i64 (((i + 1 : Nat) : Int) + 1) = ((i + 1 + 1 : Nat) : Int) := by rw [wrap_sm (by omega) (by omega)]; omega
    simp only [lt_cast, hi1, decide_true, cond_true, in_cast hi1, e1, e2, in_cast (show i < x.length by omega), if_true, and_self, Int.toNat_natCast]
    cases decide (x.getD (i + 1) 0 ≤ x.getD i 0) <;> rfl
  · have e : decide (((x.length - 1 + 1 : Nat) : Int) < ((x.length : Nat) : Int)) = false := by simp; omega
    simp only [e, cond_false]
    congr 2
    omega
  · cases (List.range (x.length - 1)).all fun i => !decide (x.getD (i + 1) 0 ≤ x.getD i 0) <;> rfl

/-- the code of a category and arrows -/
def arrC (c : Cat) (w : List Int) : Int := bif !isCat c then 1 else bif !wi (ar c) w then 2 else 0
theorem p135 {c : Cat} (h : okC c) {w : List Int} (hw : w.length ≤ 1048576) : G135 (c, w) = some (arrC c w) := by
  unfold G135 arrC ar
  simp only [Prod.eta, p59 h, Option.bind_some, p60 hw]
  cases isCat c with
  | false => rfl
  | true =>
    simp only [Bool.not_true, cond_false]
    cases wi (c.2.1.length : Int) w <;> rfl
theorem p129 {c : Cat} (h : okC c) {w : List Int} (hw : w.length ≤ 1048576) : G129 (c, w) = some (arrC c w) := by
  unfold G129 arrC ar
  have hb : ((c.2.1.length : Nat) : Int) ≤ 1048576 := by have := h.1; omega
  simp only [p67 h, Option.bind_some, p104, p111 (n := (c.2.1.length : Int)) ⟨by omega, by omega⟩ hw]
  cases isCat c with
  | false => rfl
  | true =>
    simp only [Bool.not_true, cond_false]
    cases wi (c.2.1.length : Int) w <;> rfl
/-- ... and of a set of arrows -/
def setC (c : Cat) (w : List Int) : Int := bif decide (arrC c w = 0) && !risB w then 5 else arrC c w
theorem p127 {c : Cat} (h : okC c) {w : List Int} (hw : w.length ≤ 1048576) : G127 (c, w) = some (setC c w) := by
  unfold G127 setC
  simp only [Prod.eta, p135 h hw, Option.bind_some, p136 hw]
  cases decide (arrC c w = 0) <;> cases risB w <;> rfl

def mkB (c : Cat) (w : List Int) : List Bool := (List.range (ar c)).map fun (f : Nat) => w.contains (f : Int)
theorem mkB_len {c : Cat} {w : List Int} : (mkB c w).length = ar c := by simp [mkB]
theorem mkB_get {c : Cat} {w : List Int} {f : Nat} (hf : f < ar c) : (mkB c w).getD f false = w.contains (f : Int) := by simp [mkB, hf]
theorem p131 {c : Cat} (h : okC c) {w : List Int} (hw : w.length ≤ 1048576) (hwi : wi (ar c) w = true) : G131 (c, w) = some (mkB c w) := by
  unfold G131
  have hb : c.2.1.length ≤ 1048576 := h.1
  simp only [p104, Option.bind_some]
  rw [if_pos ⟨by omega, by omega, by omega, by omega⟩]
  let M : Nat → List Bool := fun i => (List.range (ar c)).map fun (f : Nat) => (w.take i).contains (f : Int)
  have hM : ∀ i, (M i).length = ar c := fun i => by simp [M]
  have e0 : List.replicate ((ar c : Nat) : Int).toNat false = M 0 := by
    show _ = (List.range (ar c)).map fun (f : Nat) => ([] : List Int).contains (f : Int)
    apply List.ext_getElem?
    intro j
    by_cases hj : j < ar c
    · simp [hj]
    · simp [hj]
  have eN : M w.length = mkB c w := by
    show (List.range (ar c)).map _ = _
    rw [List.take_length]; rfl
  show Option.bind (tloop _ ((0 : Int), List.replicate ((ar c : Nat) : Int).toNat false)) _ = _
  rw [e0]
  refine bind_of (v := .brk 0 ((w.length : Int), M w.length)) (tloop_iter (st := fun i : Nat => ((i : Int), M i)) (n := w.length) (fun i hi => ?_) ?_ (fun y => by simp)) ?_
  · obtain ⟨g1, g2⟩ := wi_get hwi hi
    have g3 : 0 ≤ w.getD i 0 ∧ w.getD i 0 < ((ar c : Nat) : Int) := ⟨g1, g2⟩
    simp only [lt_cast, hi, decide_true, cond_true, in_cast hi, if_true, and_self, Int.toNat_natCast, hM, g3]
    rw [wrap_sm (by omega) (by omega)]
    have e : (M i).set (w.getD i 0).toNat true = M (i + 1) := by
      apply List.ext_getElem?
      intro j
      have hl : (M i).length = ar c := hM i
      by_cases hj : j < ar c
      · have ht : w.take (i + 1) = w.take i ++ [w.getD i 0] := by
          rw [List.take_add_one, List.getD_eq_getElem?_getD, List.getElem?_eq_getElem hi]; rfl
        have e2 : (M (i + 1))[j]? = some ((w.take i ++ [w.getD i 0]).contains (j : Int)) := by
          show ((List.range (ar c)).map fun (f : Nat) => (w.take (i + 1)).contains (f : Int))[j]? = _
          rw [ht]; simp [hj]
        have e1 : (M i)[j]? = some ((w.take i).contains (j : Int)) := by
          show ((List.range (ar c)).map fun (f : Nat) => (w.take i).contains (f : Int))[j]? = _
          simp [hj]
        rw [e2]
        by_cases hjw : (w.getD i 0).toNat = j
        · have : (j : Int) = w.getD i 0 := by omega
          rw [hjw, List.getElem?_set_self (by rw [hl]; exact hj), this]
          simp
        · have : ¬ (j : Int) = w.getD i 0 := by omega
          rw [List.getElem?_set_ne hjw, e1]
          congr 1
          rw [Bool.eq_iff_iff]
          simp only [List.contains_eq_mem, decide_eq_true_eq, List.mem_append, List.mem_singleton, this, or_false]
      · rw [List.getElem?_eq_none (by rw [List.length_set, hl]; omega), List.getElem?_eq_none (by rw [hM]; omega)]
    rw [e]
    rfl
  · simp only [lt_cast, Nat.lt_irrefl, decide_false, cond_false]
  · rw [eN]; rfl
end Go.Ve.D

