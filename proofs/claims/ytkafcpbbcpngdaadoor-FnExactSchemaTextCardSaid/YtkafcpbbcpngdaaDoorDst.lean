/- The texts of paths; the law on them. -/
import Derived.Test.YtkafcpbbcpngdaaDoorDsr
namespace Go.Ve.D
open Go Go.Ve

theorem tloop_iter' {X R : Type} {f : X → Option (LO X R)} {st : Nat → X} {x : X} (hx : st 0 = x) {n : Nat} {o : LO X R} (h1 : ∀ i, i < n → f (st i) = some (.next (st (i + 1)))) (h2 : f (st n) = some o) (ho : ∀ y, o ≠ .next y) : tloop f x = some o := hx ▸ tloop_iter h1 h2 ho
def ltr (e : Int) : UInt8 := UInt8.ofNat (97 + e.toNat)
def phead (p : Pth) : List UInt8 := [64] ++ d2 p.1
def ptext (p : Pth) : List UInt8 := phead p ++ p.2.map ltr
theorem phead_len (p : Pth) : (phead p).length ≤ 3 := by
  have := d2_len p.1
  unfold phead
  simp only [List.length_append, List.length_cons, List.length_nil]
  omega
theorem cut_ltr {e : Int} (h0 : 0 ≤ e) (h1 : e < 8) : (ByteArray.mk #[97, 98, 99, 100, 101, 102, 103, 104]).extract e.toNat (IntKind.wrap .i64 (e + 1)).toNat = B [ltr e] := by
  have key : ((List.range 8).all fun k => decide ((ByteArray.mk #[97, 98, 99, 100, 101, 102, 103, 104]).extract ((k : Int)).toNat (IntKind.wrap .i64 ((k : Int) + 1)).toNat = B [ltr (k : Int)])) = true := by kernel_rfl
  obtain ⟨k, rfl⟩ := Int.eq_ofNat_of_zero_le h0
  exact of_decide_eq_true (List.all_eq_true.1 key k (List.mem_range.2 (by omega)))
theorem num_ltr {e : Int} (h0 : 0 ≤ e) (h1 : e < 8) : IntKind.wrap .u8 (IntKind.wrap .i64 (97 + e)) = (((ltr e).toNat : Nat) : Int) := by
  have key : ((List.range 8).all fun k => decide (IntKind.wrap .u8 (IntKind.wrap .i64 (97 + (k : Int))) = (((ltr (k : Int)).toNat : Nat) : Int))) = true := by kernel_rfl
  obtain ⟨k, rfl⟩ := Int.eq_ofNat_of_zero_le h0
  exact of_decide_eq_true (List.all_eq_true.1 key k (List.mem_range.2 (by omega)))
def nums (l : List UInt8) : List Int := l.map fun x => (x.toNat : Int)
theorem strNums_B (l : List UInt8) : strNums (B l) = nums l := rfl
theorem ofNums (l : List UInt8) : strOfNums (nums l) = B l := by
  apply ByteArray.ext
  unfold strOfNums nums B
  simp [Function.comp_def]
theorem take_ltr {x : List Int} {i : Nat} (hi : i < x.length) : (x.take (i + 1)).map ltr = (x.take i).map ltr ++ [ltr (x.getD i 0)] := by
  rw [List.take_succ_eq_append_getElem hi, List.map_append]
  simp [hi]
theorem p33 {p : Pth} (h0 : 0 ≤ p.1 ∧ p.1 < 100) (h1 : p.2.length ≤ 6) (h : ∀ i, i < p.2.length → 0 ≤ p.2.getD i 0 ∧ p.2.getD i 0 < 8) : G33 p = some (B (ptext p)) := by
  have l1 := d2_len p.1
  have l2 := phead_len p
  unfold G33
  refine bind_of (v := B (d2 p.1)) (p51 h0.1 h0.2) (if_of ?_ (bind_of (tloop_iter' (by rw [List.take_zero, List.map_nil, List.append_nil]; exact Prod.ext (B_app [64] (d2 p.1)).symm rfl) (st := fun i => (B (phead p ++ (p.2.take i).map ltr), (i : Int))) (n := p.2.length) (o := .brk 0 (B (phead p ++ (p.2.take p.2.length).map ltr), (p.2.length : Int))) (fun i hi => ?_) ?_ (fun y h => by cases h)) ?_))
  · show (B [64]).size + _ ≤ _
    rw [B_size, B_size]; simp only [List.length_cons, List.length_nil]; omega
  · show (bif decide ((i : Int) < (p.2.length : Int)) then _ else _) = _
    rw [lt_cast, decide_eq_true hi, cond_true]
    obtain ⟨e0, e1⟩ := h i hi
    have hb : (0 : Int) ≤ p.2.getD i 0 ∧ p.2.getD i 0 ≤ IntKind.wrap .i64 (p.2.getD i 0 + 1) ∧ IntKind.wrap .i64 (p.2.getD i 0 + 1) ≤ (((ByteArray.mk #[97, 98, 99, 100, 101, 102, 103, 104]).size : Nat) : Int) := by
      rw [wrap_sm (by omega) (by omega), show (ByteArray.mk #[97, 98, 99, 100, 101, 102, 103, 104]).size = 8 from rfl]
      omega
    refine if_of (in_cast hi) (if_of (in_cast hi) (if_of hb (if_of ?_ ?_)))
    · show (B (phead p ++ (p.2.take i).map ltr)).size + ((ByteArray.mk #[97, 98, 99, 100, 101, 102, 103, 104]).extract (p.2.getD i 0).toNat (IntKind.wrap .i64 (p.2.getD i 0 + 1)).toNat).size ≤ _
      rw [cut_ltr e0 e1, B_size, B_size]
      simp only [List.length_append, List.length_map, List.length_take, List.length_cons, List.length_nil]
      omega
    · show some (LO.next (B (phead p ++ (p.2.take i).map ltr) ++ ((ByteArray.mk #[97, 98, 99, 100, 101, 102, 103, 104]).extract (p.2.getD i 0).toNat (IntKind.wrap .i64 (p.2.getD i 0 + 1)).toNat), IntKind.wrap .i64 ((i : Int) + 1))) = _
      rw [cut_ltr e0 e1, B_app, wrap_sm (by omega) (by omega), take_ltr hi, List.append_assoc]
      rfl
  · show (bif decide ((p.2.length : Int) < (p.2.length : Int)) then _ else _) = _
    rw [decide_eq_false (by omega), cond_false]
  · show (if (0 : Nat) = 0 then some (B (phead p ++ (p.2.take p.2.length).map ltr)) else none) = _
    rw [if_pos rfl, List.take_length]
    rfl
theorem p37 {p : Pth} (h0 : 0 ≤ p.1 ∧ p.1 < 100) (h1 : p.2.length ≤ 6) (h : ∀ i, i < p.2.length → 0 ≤ p.2.getD i 0 ∧ p.2.getD i 0 < 8) : G37 p = some (B (ptext p)) := by
  have l1 := d2_len p.1
  have l2 := phead_len p
  unfold G37
  refine bind_of (v := B (d2 p.1)) (p53 h0.1 h0.2) (if_of ?_ (if_of ?_ (bind_of (tloop_iter' (by rw [List.take_zero, List.map_nil, List.append_nil]; exact Prod.ext rfl (by show nums (phead p) = strNums (B [64] ++ B (d2 p.1)); rw [B_app, strNums_B]; rfl)) (st := fun i => ((i : Int), nums (phead p ++ (p.2.take i).map ltr))) (n := p.2.length) (o := .brk 0 ((p.2.length : Int), nums (phead p ++ (p.2.take p.2.length).map ltr))) (fun i hi => ?_) ?_ (fun y h => by cases h)) ?_)))
  · show (B [64]).size + _ ≤ _
    rw [B_size, B_size]; simp only [List.length_cons, List.length_nil]; omega
  · show (B [64] ++ B (d2 p.1)).size ≤ _
    rw [B_app, B_size]; simp only [List.length_append, List.length_cons, List.length_nil]; omega
  · show (bif decide ((i : Int) < (p.2.length : Int)) then _ else _) = _
    rw [lt_cast, decide_eq_true hi, cond_true]
    obtain ⟨e0, e1⟩ := h i hi
    refine if_of (in_cast hi) (if_of ?_ ?_)
    · show (nums (phead p ++ (p.2.take i).map ltr)).length + 1 ≤ _
      unfold nums
      simp only [List.length_append, List.length_map, List.length_take]
      omega
    · show some (LO.next (IntKind.wrap .i64 ((i : Int) + 1), nums (phead p ++ (p.2.take i).map ltr) ++ [IntKind.wrap .u8 (IntKind.wrap .i64 (97 + p.2.getD i 0))])) = _
      rw [num_ltr e0 e1, wrap_sm (by omega) (by omega), take_ltr hi, ← List.append_assoc]
      unfold nums
      rw [List.map_append (l₁ := phead p ++ (p.2.take i).map ltr)]
      rfl
  · show (bif decide ((p.2.length : Int) < (p.2.length : Int)) then _ else _) = _
    rw [decide_eq_false (by omega), cond_false]
  · show (if (0 : Nat) = 0 then some (strOfNums (nums (phead p ++ (p.2.take p.2.length).map ltr))) else none) = _
    rw [if_pos rfl, List.take_length, ofNums]
    rfl

/-- a path of a schema: its numbers are small -/
theorem pOK_small {s : Scm} (hs : sHead s) {p : Pth} (h : pOK s p = true) : (0 ≤ p.1 ∧ p.1 < 100) ∧ p.2.length ≤ 6 ∧ ∀ i, i < p.2.length → 0 ≤ p.2.getD i 0 ∧ p.2.getD i 0 < 8 := by
  obtain ⟨g1, g2, g3⟩ := pOK_get h
  have e1 := inn_iff.1 g1
  have e2 := hs.1
  have e3 := hs.2.1
  exact ⟨⟨e1.1, by omega⟩, g2, fun i hi => by have := wi_get g3 hi; omega⟩
theorem sOK_head {s : Scm} (h : sOK s = true) : sHead s := by
  unfold sOK at h
  simp only [Bool.and_eq_true, decide_eq_true_eq] at h
  exact h.1
def ptr (s : Scm) (p : Pth) : ByteArray × Int := bif sOK s && pOK s p then (B (ptext p), 0) else (B [], 1)
theorem p12 {s : Scm} (hs : okS s) {p : Pth} (hp : p.2.length ≤ 1048576) : G12 (s, p) = some (ptr s p) := by
  unfold G12
  refine bind_of (v := sOK s && pOK s p) ?_ ?_
  · show G32 (s, p) = _
    unfold G32
    refine bind_of (v := sOK s) (p40 hs) (bind_of (v := sOK s && pOK s p) ?_ rfl)
    cases h1 : sOK s with
    | false => rfl
    | true =>
      have hh := sOK_head h1
      exact bind_of (v := pOK s p) (p54 hh.1 hh.2.2.1 hp) rfl
  unfold ptr
  cases h : sOK s && pOK s p with
  | false => rfl
  | true =>
    simp only [Bool.and_eq_true] at h
    obtain ⟨g1, g2, g3⟩ := pOK_small (sOK_head h.1) h.2
    exact bind_of (v := B (ptext p)) (p33 g1 g2 g3) rfl
theorem p15 {s : Scm} (hs : okS s) {p : Pth} (hp : p.2.length ≤ 1048576) : G15 (s, p) = some (ptr s p) := by
  unfold G15
  refine bind_of (v := sOK s && pOK s p) ?_ ?_
  · show G36 (s, p) = _
    unfold G36
    refine bind_of (v := sOK s) (p42 hs) ?_
    cases h1 : sOK s with
    | false => rfl
    | true =>
      have hh := sOK_head h1
      refine bind_of (v := res s p (pOK s p)) (p55 hh.1 hh.2.1 hh.2.2.1 hp) ?_
      cases pOK s p <;> rfl
  unfold ptr
  cases h : sOK s && pOK s p with
  | false => rfl
  | true =>
    simp only [Bool.and_eq_true] at h
    obtain ⟨g1, g2, g3⟩ := pOK_small (sOK_head h.1) h.2
    exact bind_of (v := B (ptext p)) (p37 g1 g2 g3) rfl
theorem p4 (x : Scm × Pth) (h : okT (PT S4.ps) x) : G4 x = some true := by
  obtain ⟨s, p⟩ := x
  obtain ⟨⟨_, h1, h2, h3, h4⟩, _, h5⟩ := h
  unfold G4
  obtain ⟨r1, e1, f1⟩ := p10 (s := s) (b := 1048576) (by omega) h1.1 h2.1 h3.1 h4.1 (fun y hy => (h3.2 y hy).2.1) (fun y hy => (h4.2 y hy).2.1)
  refine bind_of (v := r1) e1 ?_
  by_cases n1 : r1 < 0
  · simp only [n1, decide_true, cond_true]
  simp only [n1, decide_false, cond_false]
  have f1 := f1.resolve_left n1
  obtain ⟨r2, e2, f2⟩ := p11 (p := p) (b := r1) ⟨f1.1, f1.2.1⟩ h5.1
  refine bind_of (v := r2) e2 ?_
  by_cases n2 : r2 < 0
  · simp only [n2, decide_true, cond_true]
  simp only [n2, decide_false, cond_false]
  have hs := f1.2.2
  have hp : p.2.length ≤ 1048576 := by
    have := f2.resolve_left n2
    omega
  refine bind_of (v := s) (p13 hs) (bind_of (v := p) (p14 hp) (bind_of (v := ptr s p) (p12 hs hp) (bind_of (v := s) (p13 hs) (bind_of (v := p) (p14 hp) (bind_of (v := ptr s p) (p15 hs hp) (bind_of (v := false) ?_ ?_))))))
  · simp
  · exact bind_of (v := s) (p13 hs) (bind_of (v := true) (p16 hs) (bind_of (v := p) (p14 hp) (bind_of (v := true) (p17 hp) rfl)))
end Go.Ve.D

