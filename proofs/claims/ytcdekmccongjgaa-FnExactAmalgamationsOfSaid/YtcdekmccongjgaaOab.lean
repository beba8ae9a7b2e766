/- Copies of one's own; what is marked is held. -/
import Derived.Test.YtcdekmccongjgaaOaa
namespace Go.Ve.D
open Go Go.Ve

theorem take_snoc {α : Type} {x : List α} (d : α) {i : Nat} (hi : i < x.length) : x.take i ++ [x.getD i d] = x.take (i + 1) := by
  rw [List.take_add_one]
  simp [hi]
theorem take_all {α : Type} (x : List α) : x.take x.length = x := List.take_length
theorem getD_mem' {α : Type} {x : List α} (d : α) {i : Nat} (hi : i < x.length) : x.getD i d ∈ x := by
  rw [List.getD_eq_getElem?_getD, List.getElem?_eq_getElem hi]; exact List.getElem_mem hi

/-! Marks. -/
def mk (x : List Int) (k : Int) : List Int := (List.range x.length).map fun (i : Nat) => k + (i : Int)
theorem mk_len {x : List Int} {k : Int} : (mk x k).length = x.length := by simp [mk]
theorem mk_get {x : List Int} {k : Int} {i : Nat} (hi : i < x.length) : (mk x k).getD i 0 = k + (i : Int) := by
  simp [mk, hi]
theorem p16 {x : List Int} {k : Int} (h0 : 0 ≤ k) (h1 : k ≤ 1152921504606846976) (h : x.length ≤ 1048576) : G16 (x, k) = some (k + (x.length : Int), mk x k) := by
  unfold G16
  have hst : ((k, ((0 : Int), x)) : Int × Int × List Int) = (fun i : Nat => (k + (i : Int), ((i : Int), (mk x k).take i ++ x.drop i))) 0 := by simp
  simp only [hst]
  refine bind_of (v := .brk 0 (k + (x.length : Int), ((x.length : Int), mk x k))) (tloop_iter (st := fun i : Nat => (k + (i : Int), ((i : Int), (mk x k).take i ++ x.drop i))) (n := x.length) (fun i hi => ?_) ?_ (fun y => by simp)) rfl
  · have e : ((mk x k).take i ++ x.drop i).length = x.length := by simp [mk_len]; omega
    simp only [e, lt_cast, hi, decide_true, cond_true, in_cast hi, if_true, Int.toNat_natCast, and_self]
    have hm := take_set (x := mk x k) (y := x) (i := i) 0 mk_len.symm (by rw [mk_len]; exact hi)
    rw [mk_get hi] at hm
    rw [hm, wrap_id (by omega) (by omega), wrap_sm (by omega) (by omega)]
    simp only [Int.natCast_add, Int.add_assoc]
    rfl
  · have e : ((mk x k).take x.length ++ x.drop x.length) = mk x k := by
      rw [List.drop_length, List.append_nil]
      exact List.take_of_length_le (by rw [mk_len]; exact Nat.le_refl _)
    simp only [e, mk_len, lt_cast, Nat.lt_irrefl, decide_false, cond_false]
theorem p17 {x : List Int} {k : Int} (h0 : 0 ≤ k) (h1 : k ≤ 1152921504606846976) (h : x.length ≤ 1048576) : G17 (mk x k, k) = some (k + (x.length : Int)) := by
  unfold G17
  have hst : ((k, (0 : Int)) : Int × Int) = (fun i : Nat => (k + (i : Int), (i : Int))) 0 := by simp
  simp only [hst]
  refine bind_of (v := .brk 0 (k + (x.length : Int), (x.length : Int))) (tloop_iter (st := fun i : Nat => (k + (i : Int), (i : Int))) (n := x.length) (fun i hi => ?_) ?_ (fun y => by simp)) rfl
  · simp only [mk_len, lt_cast, hi, decide_true, cond_true, in_cast hi, if_true, Int.toNat_natCast, and_self, mk_get hi, Bool.not_true, cond_false]
    rw [wrap_id (by omega) (by omega), wrap_sm (by omega) (by omega)]
    simp only [Int.natCast_add, Int.add_assoc]
    rfl
  · simp only [mk_len, lt_cast, Nat.lt_irrefl, decide_false, cond_false]
/-- the first rows' lengths -/
def tot (x : List (List Int)) (i : Nat) : Nat := ((x.take i).map List.length).sum
theorem tot_succ {x : List (List Int)} {i : Nat} (hi : i < x.length) : tot x (i + 1) = tot x i + (x.getD i []).length := by
  unfold tot
  rw [← take_snoc [] hi]
  simp
theorem tot_le {x : List (List Int)} (hx : ∀ y ∈ x, y.length ≤ 1048576) : ∀ i, i ≤ x.length → tot x i ≤ i * 1048576
  | 0, _ => by simp [tot]
  | i + 1, hi => by
    rw [tot_succ (by omega)]
    have := tot_le hx i (by omega)
    have := hx _ (getD_mem' [] (show i < x.length by omega))
    omega
def mks (x : List (List Int)) (k : Int) : List (List Int) := (List.range x.length).map fun (i : Nat) => mk (x.getD i []) (k + (tot x i : Int))
theorem mks_len {x : List (List Int)} {k : Int} : (mks x k).length = x.length := by simp [mks]
theorem mks_get {x : List (List Int)} {k : Int} {i : Nat} (hi : i < x.length) : (mks x k).getD i [] = mk (x.getD i []) (k + (tot x i : Int)) := by
  simp [mks, hi]
theorem p39 {x : List (List Int)} {k : Int} (h0 : 0 ≤ k) (h1 : k ≤ 1125899906842624) (h : x.length ≤ 1048576) (hx : ∀ y ∈ x, y.length ≤ 1048576) : G39 (x, k) = some (k + (tot x x.length : Int), mks x k) := by
  unfold G39
  have hst : ((k, ((0 : Int), x)) : Int × Int × List (List Int)) = (fun i : Nat => (k + (tot x i : Int), ((i : Int), (mks x k).take i ++ x.drop i))) 0 := by simp [tot]
  simp only [hst]
  refine bind_of (v := .brk 0 (k + (tot x x.length : Int), ((x.length : Int), mks x k))) (tloop_iter (st := fun i : Nat => (k + (tot x i : Int), ((i : Int), (mks x k).take i ++ x.drop i))) (n := x.length) (fun i hi => ?_) ?_ (fun y => by simp)) rfl
  · have e : ((mks x k).take i ++ x.drop i).length = x.length := by simp [mks_len]; omega
    have e2 : ((mks x k).take i ++ x.drop i).getD i [] = x.getD i [] := by
      simp only [List.getD_eq_getElem?_getD]
      rw [List.getElem?_append_right (by simp [mks_len]; omega)]
      simp [mks_len, Nat.min_eq_left (Nat.le_of_lt hi)]
    have ht := tot_le hx i (Nat.le_of_lt hi)
    have hr := hx _ (getD_mem' [] hi)
    simp only [e, e2, lt_cast, hi, decide_true, cond_true, in_cast hi, if_true, Int.toNat_natCast, and_self, p16 (x := x.getD i []) (k := k + (tot x i : Int)) (by omega) (by omega) hr, Option.bind_some]
    have hm := take_set (x := mks x k) (y := x) (i := i) [] mks_len.symm (by rw [mks_len]; exact hi)
    rw [mks_get hi] at hm
    rw [hm, wrap_sm (by omega) (by omega), tot_succ hi]
    simp only [Int.natCast_add, Int.add_assoc]
    rfl
  · have e : ((mks x k).take x.length ++ x.drop x.length) = mks x k := by
      rw [List.drop_length, List.append_nil]
      exact List.take_of_length_le (by rw [mks_len]; exact Nat.le_refl _)
    simp only [e, mks_len, lt_cast, Nat.lt_irrefl, decide_false, cond_false]
/-- what is marked from k on is held from k on -/
theorem mh16 {x : List Int} {k : Int} (h0 : 0 ≤ k) (h1 : k ≤ 1125899906842624) (h : x.length ≤ 1048576) : ∃ k' y, G16 (x, k) = some (k', y) ∧ 0 ≤ k' ∧ k' ≤ k + 2199023255552 ∧ G17 (y, k) = some k' :=
  ⟨_, _, p16 h0 (by omega) h, by omega, by omega, p17 h0 (by omega) h⟩
/-! Functors. -/
abbrev Fun := Int × List Int × List Int × List Int × List (List Int) × Int × List Int × List Int × List Int × List (List Int) × List Int × List Int
def mkF (c d : Cat) (o a : List Int) : Fun := (c.1, (c.2.1, (c.2.2.1, (c.2.2.2.1, (c.2.2.2.2, (d.1, (d.2.1, (d.2.2.1, (d.2.2.2.1, (d.2.2.2.2, (o, a)))))))))))
def srcF (f : Fun) : Cat := (f.1, (f.2.1, (f.2.2.1, (f.2.2.2.1, f.2.2.2.2.1))))
def tgtF (f : Fun) : Cat := (f.2.2.2.2.2.1, (f.2.2.2.2.2.2.1, (f.2.2.2.2.2.2.2.1, (f.2.2.2.2.2.2.2.2.1, f.2.2.2.2.2.2.2.2.2.1))))
def okF (f : Fun) : Prop := okC (srcF f) ∧ okC (tgtF f) ∧ f.2.2.2.2.2.2.2.2.2.2.1.length ≤ 1048576 ∧ f.2.2.2.2.2.2.2.2.2.2.2.length ≤ 1048576
theorem okF_mk {c d : Cat} {o a : List Int} (h1 : okC c) (h2 : okC d) (h3 : o.length ≤ 1048576) (h4 : a.length ≤ 1048576) : okF (mkF c d o a) := ⟨h1, h2, h3, h4⟩
/-! Numbers. -/
def nums (n : Nat) : List Int := (List.range n).map fun (i : Nat) => (i : Int)
theorem nums_len {n : Nat} : (nums n).length = n := by simp [nums]
theorem nums_succ {n : Nat} : nums (n + 1) = nums n ++ [(n : Int)] := by simp [nums, List.range_succ]
theorem nums_get {n i : Nat} (hi : i < n) : (nums n).getD i 0 = (i : Int) := by simp [nums, hi]
end Go.Ve.D

