/- Lines of changes: the law. -/
import Derived.Test.YtboplgfklkoijaaDoorUc4
import Derived.Test.YtboplgfklkoijaaDoorLa
import Derived.Test.YtboplgfklkoijaaDoorTs
namespace Go.Ve.D
open Go Go.Ve

def B (l : List UInt8) : ByteArray := ⟨l.toArray⟩
theorem B_app (a b : List UInt8) : B a ++ B b = B (a ++ b) := by
  apply ByteArray.ext
  simp [B, ByteArray.data_append]
theorem B_size (l : List UInt8) : (B l).size = l.length := by simp [B, ByteArray.size]
abbrev dec (n : Nat) : List UInt8 := Lib.decDigits n
theorem dec_s {n : Nat} (h : n < 10) : dec n = [UInt8.ofNat (48 + n)] := by
  unfold dec; rw [Lib.decDigits, dif_pos h]
theorem dec_b {n : Nat} (h : ¬ n < 10) : dec n = dec (n / 10) ++ [UInt8.ofNat (48 + n % 10)] := by
  unfold dec; rw [Lib.decDigits, dif_neg h]
theorem dec_len : ∀ (f n : Nat), n < 10 ^ (f + 1) → (dec n).length ≤ f + 1
  | 0, n, h => by
    rw [dec_s (by simpa using h)]; simp
  | f + 1, n, h => by
    by_cases h1 : n < 10
    · rw [dec_s h1]; simp
    · rw [dec_b h1]
      have := dec_len f (n / 10) (by rw [Nat.pow_succ] at h; omega)
      simp; omega
theorem digit {d : Nat} (h : d < 10) : Go.strOfNums ((IntKind.wrap .u8 (IntKind.wrap .i64 ((48 : Int) + (d : Int)))) :: ([] : (List Int))) = B [UInt8.ofNat (48 + d)] := by
  have key : ((List.range 10).all fun k => decide (Go.strOfNums ((IntKind.wrap .u8 (IntKind.wrap .i64 ((48 : Int) + (k : Int)))) :: ([] : (List Int))) = B [UInt8.ofNat (48 + k)])) = true := by kernel_rfl
  exact of_decide_eq_true (List.all_eq_true.1 key d (List.mem_range.2 h))
theorem rec12 : ∀ (f n : Nat), n < 10 ^ (f + 1) → n < 1000000000 → R12 (f + 1) (n : Int) = some (B (dec n))
  | f, n, h, hn => by
    show B12 (R12 f) (n : Int) = _
    unfold B12
    by_cases h1 : n < 10
    · have e : decide ((n : Int) < 10) = true := decide_eq_true (by omega)
      rw [e, cond_true, digit h1, dec_s h1]
    · have e : decide ((n : Int) < 10) = false := decide_eq_false (by omega)
      have e2 : IntKind.wrap .i64 (Int.tdiv (n : Int) 10) = ((n / 10 : Nat) : Int) := by
        rw [Int.tdiv_eq_ediv_of_nonneg (by omega), wrap_id (by omega) (by omega)]; omega
      have e3 : Int.tmod (n : Int) 10 = ((n % 10 : Nat) : Int) := by
        rw [Int.tmod_eq_emod_of_nonneg (by omega)]; omega
      have hd := digit (d := n % 10) (by omega)
      match f, h with
      | 0, h => exact absurd (by simpa using h) h1
      | f + 1, h =>
        have ih := rec12 f (n / 10) (by rw [Nat.pow_succ] at h; omega) (by omega)
        have hl := dec_len f (n / 10) (by rw [Nat.pow_succ] at h; omega)
        have hl2 := dec_len 9 (n / 10) (by omega)
        rw [e, cond_false, if_pos (by omega), e2, ih, Option.bind_some, e3, hd, if_pos (by omega), if_pos (by rw [B_size, B_size]; simp only [List.length_cons, List.length_nil]; omega), B_app, dec_b h1]
theorem rec12' : ∀ (k f n : Nat), n < 10 ^ (f + 1) → n < 1000000000 → R12 (f + 1 + k) (n : Int) = some (B (dec n)) := fun k f n h hn => by
  have : ∀ k f n : Nat, n < 10 ^ (f + 1) → n < 10 ^ (f + 1 + k) := fun k f n h => Nat.lt_of_lt_of_le h (Nat.pow_le_pow_right (by omega) (by omega))
  have e : f + 1 + k = (f + k) + 1 := by omega
  rw [e]
  exact rec12 (f + k) n (by rw [← e]; exact this k f n h) hn
theorem p12 {n : Nat} (h : n < 1000000000) : G12 (n : Int) = some (B (dec n)) := rec12' 4086 9 n (by omega) h
theorem p14 {n : Nat} (h : n < 1000000000) : G14 ((n : Int), 10) = some (B (dec n)) := by
  have e : Lib.itoa (n : Int) = dec n := by
    unfold Lib.itoa
    rw [if_neg (by omega), Int.toNat_natCast]
  unfold G14 G15
  simp only
  rw [if_pos ⟨by omega, by omega, trivial⟩, e]
  rfl
/-- the numbers are in range -/
theorem p7 (l : List Int) (hl : l.length ≤ 1048576) : G7 ((1000000000 : Int), l) = some (wi 1000000000 l) := by
  unfold G7
  have h := tloop_all (R := Bool) (f := (fun (v0 : Int) => (bif (decide (v0 < ((l.length : Nat) : Int))) then (if (((0 : Int) ≤ v0) ∧ (v0 < ((l.length : Nat) : Int))) then (Option.bind (bif (decide ((l.getD (v0).toNat (0 : Int)) < (0 : Int))) then (some true) else (if (((0 : Int) ≤ v0) ∧ (v0 < ((l.length : Nat) : Int))) then (some (decide ((1000000000 : Int) ≤ (l.getD (v0).toNat (0 : Int))))) else none)) (fun (v1 : Bool) => (bif v1 then (retM (some false)) else (some (LO.next (IntKind.wrap .i64 (v0 + (1 : Int)))))))) else none) else (some (LO.brk 0 v0)))))
    (st := fun i => (i : Int)) (n := l.length) (p := fun i => inn 1000000000 (l.getD i 0)) (r := false) (o := .brk 0 (l.length : Int)) (fun i hi => by
      simp only [lt_cast, hi, decide_true, cond_true, in_cast hi, if_true, Int.toNat_natCast, and_self]
      rw [wrap_sm (by omega) (by omega)]
      by_cases h1 : l.getD i 0 < 0
      · have : inn 1000000000 (l.getD i 0) = false := inn_f1 h1
        simp only [h1, decide_true, cond_true, Option.bind_some, this, cond_false]; rfl
      · by_cases h2 : 1000000000 ≤ l.getD i 0
        · have : inn 1000000000 (l.getD i 0) = false := inn_f2 h2
          simp only [h1, h2, decide_false, decide_true, cond_true, cond_false, Option.bind_some, this]; rfl
        · have : inn 1000000000 (l.getD i 0) = true := inn_t (by omega) (by omega)
          simp only [h1, h2, decide_false, cond_true, cond_false, Option.bind_some, this]; rfl) (by simp) (fun y => by simp)
  rw [all_idx 0 (inn 1000000000) l] at h
  refine bind_of h ?_
  show _ = some (wi 1000000000 l)
  unfold wi
  cases l.all (inn 1000000000) <;> rfl
theorem p13 (a l h : Int) : G13 (a, (l, h)) = some (decide (l ≤ a) && decide (a ≤ h)) := by
  unfold G13
  by_cases h1 : l ≤ a <;> simp [h1]
theorem p10 (l : List Int) (hl : l.length ≤ 1048576) : G10 (l, (1000000000 : Int)) = some (wi 1000000000 l) := by
  have e13 : ∀ a : Int, G13 (a, ((0 : Int), IntKind.wrap .i64 (1000000000 - 1))) = some (inn 1000000000 a) := fun a => by
    rw [p13, wrap_id (by omega) (by omega)]
    unfold inn
    congr 2
    rw [Bool.eq_iff_iff]; simp; omega
  unfold G10
  have h := tloop_all (R := Bool) (f := (fun (v0 : Int) => (bif (decide (v0 < ((l.length : Nat) : Int))) then (if (((0 : Int) ≤ v0) ∧ (v0 < ((l.length : Nat) : Int))) then (Option.bind (G13 ((l.getD (v0).toNat (0 : Int)), ((0 : Int), (IntKind.wrap .i64 ((1000000000 : Int) - (1 : Int)))))) (fun (v1 : Bool) => (bif (!v1) then (retM (some false)) else (some (LO.next (IntKind.wrap .i64 (v0 + (1 : Int)))))))) else none) else (some (LO.brk 0 v0)))))
    (st := fun i => (i : Int)) (n := l.length) (p := fun i => inn 1000000000 (l.getD i 0)) (r := false) (o := .brk 0 (l.length : Int)) (fun i hi => by
      simp only [lt_cast, hi, decide_true, cond_true, in_cast hi, if_true, Int.toNat_natCast, and_self, e13, Option.bind_some]
      rw [wrap_sm (by omega) (by omega)]
      cases inn 1000000000 (l.getD i 0) <;> rfl) (by simp) (fun y => by simp)
  rw [all_idx 0 (inn 1000000000) l] at h
  refine bind_of h ?_
  show _ = some (wi 1000000000 l)
  unfold wi
  cases l.all (inn 1000000000) <;> rfl

/-- the line -/
def line (k : Int) (a b c : Nat) : List UInt8 := if k = 1 then [97, 100, 100, 32] ++ dec a else [115, 101, 116, 32] ++ dec a ++ [32] ++ dec b ++ [32] ++ dec c
theorem if_of {α : Type} {c : Prop} [Decidable c] {a b r : α} (h : c) (h2 : a = r) : (if c then a else b) = r := by rw [if_pos h, h2]
theorem bAdd : (ByteArray.mk #[97, 100, 100, 32]) = B [97, 100, 100, 32] := rfl
theorem bSet : (ByteArray.mk #[115, 101, 116, 32]) = B [115, 101, 116, 32] := rfl
theorem b32 : (ByteArray.mk #[32]) = B [32] := rfl
section
variable {k : Int} {a b c : Nat} (ha : a < 1000000000) (hb : b < 1000000000) (hc : c < 1000000000)
include ha hb hc
theorem p8 : G8 (k, ((a : Int), ((b : Int), (c : Int)))) = some (B (line k a b c)) := by
  have la := dec_len 9 a (by omega)
  have lb := dec_len 9 b (by omega)
  have lc := dec_len 9 c (by omega)
  unfold G8 line
  simp only [p12 ha, p12 hb, p12 hc, Option.bind_some, bAdd, bSet, b32, B_app, B_size]
  by_cases hk : k = 1
  · rw [decide_eq_true hk, cond_true, if_pos hk]
    exact if_of (by simp only [List.length_cons, List.length_nil]; omega) rfl
  · rw [decide_eq_false hk, cond_false, if_neg hk]
    refine if_of ?_ (if_of ?_ (if_of ?_ (if_of ?_ (if_of ?_ rfl))))
    all_goals (simp only [List.length_append, List.length_cons, List.length_nil]; omega)
theorem p11 : G11 (k, ((a : Int), ((b : Int), (c : Int)))) = some (B (line k a b c)) := by
  have la := dec_len 9 a (by omega)
  have lb := dec_len 9 b (by omega)
  have lc := dec_len 9 c (by omega)
  unfold G11 line
  simp only [p14 ha, p14 hb, p14 hc, Option.bind_some, bAdd, bSet, b32, B_app, B_size]
  by_cases hk : k = 1
  · rw [decide_eq_true hk, cond_true, if_pos hk]
    exact if_of (by simp only [List.length_cons, List.length_nil]; omega) rfl
  · rw [decide_eq_false hk, cond_false, if_neg hk]
    refine if_of ?_ (if_of ?_ (if_of ?_ (if_of ?_ (if_of ?_ rfl))))
    all_goals (simp only [List.length_append, List.length_cons, List.length_nil]; omega)
end
/-- what both hand back -/
def kindB (k b c : Int) : Bool := (decide (k = 1) && (decide (b = 0) && decide (c = 0))) || decide (k = 2)
def resC (k a b c : Int) : ByteArray × Int := bif wi 1000000000 [a, b, c] && kindB k b c then (B (line k a.toNat b.toNat c.toNat), 0) else (ByteArray.mk #[], 2)
theorem in3 {a b c : Int} (h : wi 1000000000 [a, b, c] = true) : (0 ≤ a ∧ a < 1000000000) ∧ (0 ≤ b ∧ b < 1000000000) ∧ (0 ≤ c ∧ c < 1000000000) := by
  simpa [wi, inn] using h
theorem p4 (k a b c : Int) : G4 (k, (a, (b, c))) = some (resC k a b c) := by
  have e7 := p7 [a, b, c] (show 3 ≤ 1048576 by omega)
  unfold G4 resC kindB
  simp only [e7, Option.bind_some]
  cases hw : wi 1000000000 [a, b, c] with
  | false => rfl
  | true =>
  obtain ⟨⟨a1, a2⟩, ⟨b1, b2⟩, ⟨c1, c2⟩⟩ := in3 hw
  have e8 := p8 (k := k) (a := a.toNat) (b := b.toNat) (c := c.toNat) (by omega) (by omega) (by omega)
  rw [show ((a.toNat : Nat) : Int) = a by omega, show ((b.toNat : Nat) : Int) = b by omega, show ((c.toNat : Nat) : Int) = c by omega] at e8
  simp only [e8, Option.bind_some, Bool.not_true, cond_false, Bool.true_and]
  by_cases h2 : k = 2
  · have h1 : ¬ k = 1 := by omega
    simp only [h1, h2, decide_true, decide_false, Bool.not_true, cond_false, Option.bind_some, Bool.or_true, cond_true]
  · by_cases h1 : k = 1
    · simp only [h1, h2, decide_true, decide_false, Bool.not_true, Bool.not_false, cond_false, cond_true, Bool.true_and, Bool.or_false]
      rw [show decide ((1 : Int) = 2) = false by decide]
      cases decide (b = 0) with
      | false => rfl
      | true => cases decide (c = 0) <;> rfl
    · simp only [h1, h2, decide_false, Bool.not_false, cond_true, Bool.false_and, Bool.or_false, Option.bind_some, cond_false]
theorem p6 (k a b c : Int) : G6 (k, (a, (b, c))) = some (resC k a b c) := by
  have e10 := p10 [a, b, c] (show 3 ≤ 1048576 by omega)
  have e9 : G9 (k, (a, (b, c))) = some (kindB k b c) := by
    unfold G9 kindB
    by_cases h1 : k = 1
    · have h2 : ¬ k = 2 := by omega
      simp only [h1, decide_true, cond_true, Bool.true_and]
      rw [show decide ((1 : Int) = 2) = false by decide, Bool.or_false]
      cases decide (b = 0) <;> rfl
    · simp only [h1, decide_false, cond_false, Bool.false_and, Bool.false_or]
      cases decide (k = 2) <;> rfl
  unfold G6 resC
  simp only [e9, e10, Option.bind_some]
  cases hk : kindB k b c with
  | false => rw [Bool.and_false]; rfl
  | true =>
  cases hw : wi 1000000000 [a, b, c] with
  | false => rfl
  | true =>
  obtain ⟨⟨a1, a2⟩, ⟨b1, b2⟩, ⟨c1, c2⟩⟩ := in3 hw
  have e11 := p11 (k := k) (a := a.toNat) (b := b.toNat) (c := c.toNat) (by omega) (by omega) (by omega)
  rw [show ((a.toNat : Nat) : Int) = a by omega, show ((b.toNat : Nat) : Int) = b by omega, show ((c.toNat : Nat) : Int) = c by omega] at e11
  simp only [e11, Option.bind_some, Bool.not_true, cond_false, Bool.and_true, cond_true]
theorem p3 (x : Int × Int × Int × Int) (h : okT (PT S3.ps) x) : G3 x = some true := by
  obtain ⟨k, a, b, c⟩ := x
  unfold G3 G5
  simp only [p4, p6, Option.bind_some]
  have e : neS (resC k a b c).1 (resC k a b c).1 = false := by simp [neS]
  rw [e]
  simp only [cond_false, decide_true, Bool.not_true, Option.bind_some]
end Go.Ve.D

