/- Copies, equalities, sizes: what they compute. -/
import Derived.Test.YtkafcpbbcpngdaaDoorDue
import Derived.Test.YtkafcpbbcpngdaaDoorLa
import Derived.Test.YtkafcpbbcpngdaaDoorTs
namespace Go.Ve.D
open Go Go.Ve

theorem p34 {x : List Int} (h : x.length ≤ 1048576) : G34 x = some x := by
  unfold G34
  rw [if_pos (by omega)]
  refine bind_of (v := .brk 0 ((x.length : Int), x)) (tloop_iter (st := fun i => ((i : Int), x.take i ++ (List.replicate x.length (0 : Int)).drop i)) (n := x.length) (fun i hi => ?_) (by simp) (fun y => by simp)) rfl
  have e : (x.take i ++ (List.replicate x.length (0 : Int)).drop i).length = x.length := by simp; omega
  simp only [lt_cast, hi, decide_true, cond_true, in_cast hi, if_true, e, Int.toNat_natCast, and_self]
  rw [take_set 0 (by simp) hi, wrap_sm (by omega) (by omega)]
  rfl
def okC (c : Int × List Int × List Int × List Int × List (List Int)) : Prop := c.2.1.length ≤ 1048576 ∧ c.2.2.1.length ≤ 1048576 ∧ c.2.2.2.1.length ≤ 1048576 ∧ c.2.2.2.2.length ≤ 1048576 ∧ ∀ y ∈ c.2.2.2.2, y.length ≤ 1048576
def okQ (q : List Int × List (Int × Int) × List (Int × Int) × List Int) : Prop := q.1.length ≤ 1048576 ∧ q.2.1.length ≤ 1048576 ∧ q.2.2.1.length ≤ 1048576 ∧ q.2.2.2.length ≤ 1048576
theorem p38 {x : List Int} (h : x.length ≤ 1048576) : G38 (x, x) = some true := by
  unfold G38
  simp only [decide_true, Bool.not_true, cond_false]
  refine bind_of (v := .brk 0 (x.length : Int)) (tloop_iter (st := fun i => (i : Int)) (n := x.length) (fun i hi => ?_) (by simp) (fun y => by simp)) rfl
  simp only [lt_cast, hi, decide_true, cond_true, in_cast hi, if_true, Int.toNat_natCast, and_self, Bool.not_true, cond_false]
  rw [wrap_sm (by omega) (by omega)]
  rfl
/- Sizes. -/
open Go Go.Ve

theorem p30 {x : List Int} {b : Int} (hb : 0 ≤ b ∧ b ≤ 1048576) (hx : x.length ≤ maxLen) : ∃ r, G30 (x, b) = some r ∧ (r < 0 ∨ (r = b - x.length ∧ 0 ≤ r)) := by
  unfold G30
  have hm : maxLen = 9223372036854775807 := by decide
  rw [hm] at hx
  have e : IntKind.wrap .i64 (b - (x.length : Int)) = b - x.length := wrap_id (by omega) (by omega)
  simp only [e]
  by_cases h : b - (x.length : Int) < 0
  · exact ⟨-1, by simp only [h, decide_true, cond_true], .inl (by decide)⟩
  · exact ⟨_, by simp only [h, decide_false, cond_false], .inr ⟨rfl, by omega⟩⟩
/- Ranges. -/
open Go Go.Ve

theorem maxLen_eq : maxLen = 9223372036854775807 := by decide
theorem p56 (a l h : Int) : G56 (a, (l, h)) = some (decide (l ≤ a) && decide (a ≤ h)) := by
  unfold G56
  by_cases h1 : l ≤ a <;> simp [h1]
theorem p52 (a l h : Int) : G52 (a, (l, h)) = some (decide (l ≤ a) && decide (a ≤ h)) := by
  unfold G52
  by_cases h1 : l ≤ a <;> simp [h1]
theorem p52' (a n : Int) (hn : 0 ≤ n ∧ n ≤ 9223372036854775807) : G52 (a, ((0 : Int), IntKind.wrap .i64 (n - 1))) = some (inn n a) := by
  rw [p52, wrap_id (by omega) (by omega)]
  unfold inn
  congr 2
  rw [Bool.eq_iff_iff]; simp; omega
theorem p56' (a n : Int) (hn : 0 ≤ n ∧ n ≤ 9223372036854775807) : G56 (a, ((0 : Int), IntKind.wrap .i64 (n - 1))) = some (inn n a) := by
  rw [p56, wrap_id (by omega) (by omega)]
  unfold inn
  congr 2
  rw [Bool.eq_iff_iff]; simp; omega
theorem p25 {n : Int} {x : List Int} (hx : x.length ≤ 1048576) : G25 (n, x) = some (wi n x) := by
  unfold G25
  have h := tloop_all (R := Bool) (f := (fun (v0 : Int) => (bif (decide (v0 < ((x.length : Nat) : Int))) then (if (((0 : Int) ≤ v0) ∧ (v0 < ((x.length : Nat) : Int))) then (Option.bind (bif (decide ((x.getD (v0).toNat (0 : Int)) < (0 : Int))) then (some true) else (if (((0 : Int) ≤ v0) ∧ (v0 < ((x.length : Nat) : Int))) then (some (decide (n ≤ (x.getD (v0).toNat (0 : Int))))) else none)) (fun (v1 : Bool) => (bif v1 then (retM (some false)) else (some (LO.next (IntKind.wrap .i64 (v0 + (1 : Int)))))))) else none) else (some (LO.brk 0 v0)))))
    (st := fun i => (i : Int)) (n := x.length) (p := fun i => inn n (x.getD i 0)) (r := false) (o := .brk 0 (x.length : Int)) (fun i hi => by
      simp only [lt_cast, hi, decide_true, cond_true, in_cast hi, if_true, Int.toNat_natCast, and_self]
      rw [wrap_sm (by omega) (by omega)]
      by_cases h1 : x.getD i 0 < 0
      · have : inn n (x.getD i 0) = false := inn_f1 h1
        simp only [h1, decide_true, cond_true, Option.bind_some, this, cond_false]; rfl
      · by_cases h2 : n ≤ x.getD i 0
        · have : inn n (x.getD i 0) = false := inn_f2 h2
          simp only [h1, h2, decide_false, decide_true, cond_true, cond_false, Option.bind_some, this]; rfl
        · have : inn n (x.getD i 0) = true := inn_t (by omega) (by omega)
          simp only [h1, h2, decide_false, cond_true, cond_false, Option.bind_some, this]; rfl) (by simp) (fun y => by simp)
  rw [all_idx 0 (inn n) x] at h
  refine bind_of h ?_
  show _ = some (wi n x)
  unfold wi
  cases x.all (inn n) <;> rfl
theorem p28 {n : Int} {x : List Int} (hn : 0 ≤ n ∧ n ≤ 9223372036854775807) (hx : x.length ≤ 1048576) : G28 (x, n) = some (wi n x) := by
  unfold G28
  have h := tloop_all (R := Bool) (f := (fun (v0 : Int) => (bif (decide (v0 < ((x.length : Nat) : Int))) then (if (((0 : Int) ≤ v0) ∧ (v0 < ((x.length : Nat) : Int))) then (Option.bind (G52 ((x.getD (v0).toNat (0 : Int)), ((0 : Int), (IntKind.wrap .i64 (n - (1 : Int)))))) (fun (v1 : Bool) => (bif (!v1) then (retM (some false)) else (some (LO.next (IntKind.wrap .i64 (v0 + (1 : Int)))))))) else none) else (some (LO.brk 0 v0)))))
    (st := fun i => (i : Int)) (n := x.length) (p := fun i => inn n (x.getD i 0)) (r := false) (o := .brk 0 (x.length : Int)) (fun i hi => by
      simp only [lt_cast, hi, decide_true, cond_true, in_cast hi, if_true, Int.toNat_natCast, and_self, p52' _ _ hn, Option.bind_some]
      rw [wrap_sm (by omega) (by omega)]
      cases inn n (x.getD i 0) <;> rfl) (by simp) (fun y => by simp)
  rw [all_idx 0 (inn n) x] at h
  refine bind_of h ?_
  show _ = some (wi n x)
  unfold wi
  cases x.all (inn n) <;> rfl
/- Shapes. -/
open Go Go.Ve

abbrev Cat := Int × List Int × List Int × List Int × List (List Int)
def cellOK (c : Cat) (f g : Nat) : Bool :=
  bif !decide (c.2.2.1.getD f 0 = c.2.1.getD g 0) then decide ((c.2.2.2.2.getD f []).getD g 0 = -1)
  else inn c.2.1.length ((c.2.2.2.2.getD f []).getD g 0) && (decide (c.2.1.getD ((c.2.2.2.2.getD f []).getD g 0).toNat 0 = c.2.1.getD f 0) && decide (c.2.2.1.getD ((c.2.2.2.2.getD f []).getD g 0).toNat 0 = c.2.2.1.getD g 0))
def rowOK (c : Cat) (f : Nat) : Bool := decide ((c.2.2.2.2.getD f []).length = c.2.1.length) && (List.range c.2.1.length).all (cellOK c f)
def idOK (c : Cat) (i : Nat) : Bool := decide (c.2.1.getD (c.2.2.2.1.getD i 0).toNat 0 = i) && decide (c.2.2.1.getD (c.2.2.2.1.getD i 0).toNat 0 = i)
def headOK (c : Cat) : Prop := (0 ≤ c.1 ∧ c.1 ≤ 8) ∧ c.2.1.length ≤ 40 ∧ c.2.2.1.length = c.2.1.length ∧ wi c.1 c.2.1 = true ∧ wi c.1 c.2.2.1 = true ∧ c.2.2.2.2.length = c.2.1.length ∧ (c.2.2.2.1.length : Int) = c.1 ∧ wi c.2.1.length c.2.2.2.1 = true
instance (c : Cat) : Decidable (headOK c) := by unfold headOK; infer_instance
def shape (c : Cat) : Bool := decide (headOK c) && ((List.range c.2.2.2.1.length).all (idOK c) && (List.range c.2.1.length).all (rowOK c))

/-- the loops of the spec's side -/
theorem p60i {c : Cat} (h : headOK c) (F : Int → Option (LO Int Bool)) (hF : F = (fun (v6 : Int) => (bif (decide (v6 < c.1)) then (if (((0 : Int) ≤ v6) ∧ (v6 < ((c.2.2.2.1.length : Nat) : Int))) then (if (((0 : Int) ≤ (c.2.2.2.1.getD (v6).toNat (0 : Int))) ∧ ((c.2.2.2.1.getD (v6).toNat (0 : Int)) < ((c.2.1.length : Nat) : Int))) then (Option.bind (bif (!decide ((c.2.1.getD ((c.2.2.2.1.getD (v6).toNat (0 : Int))).toNat (0 : Int)) = v6)) then (some true) else (if (((0 : Int) ≤ v6) ∧ (v6 < ((c.2.2.2.1.length : Nat) : Int))) then (if (((0 : Int) ≤ (c.2.2.2.1.getD (v6).toNat (0 : Int))) ∧ ((c.2.2.2.1.getD (v6).toNat (0 : Int)) < ((c.2.2.1.length : Nat) : Int))) then (some (!decide ((c.2.2.1.getD ((c.2.2.2.1.getD (v6).toNat (0 : Int))).toNat (0 : Int)) = v6))) else none) else none)) (fun (v7 : Bool) => (bif v7 then (retM (some false)) else (some (LO.next (IntKind.wrap .i64 (v6 + (1 : Int)))))))) else none) else none) else (some (LO.brk 0 v6))))) :
    tloop F 0 = some (bif (List.range c.2.2.2.1.length).all (idOK c) then .brk 0 c.1 else .ret false) := by
  obtain ⟨a1, a2, a3, a4, a5, a6, a7, a8⟩ := h
  subst hF
  refine tloop_all (st := fun i => (i : Int)) (fun i hi => ?_) (by simp [a7]) (fun y => by simp)
  have hlt : ((i : Int) < c.1) := by omega
  have hg := wi_get a8 hi
  have hg' : 0 ≤ c.2.2.2.1.getD i 0 ∧ c.2.2.2.1.getD i 0 < (c.2.2.1.length : Int) := by rw [a3]; exact hg
  simp only [hlt, decide_true, cond_true, in_cast hi, if_true, Int.toNat_natCast, and_self, hg, hg']
  rw [wrap_sm (by omega) (by omega)]
  unfold idOK
  by_cases b1 : c.2.1.getD (c.2.2.2.1.getD i 0).toNat 0 = (i : Int)
  · by_cases b2 : c.2.2.1.getD (c.2.2.2.1.getD i 0).toNat 0 = (i : Int)
    · simp only [b1, b2, decide_true, Bool.not_true, cond_false, cond_true, Option.bind_some, Bool.and_self]; rfl
    · simp only [b1, b2, decide_true, decide_false, Bool.not_true, Bool.not_false, cond_false, cond_true, Option.bind_some, Bool.and_false]; rfl
  · simp only [b1, decide_false, Bool.not_false, cond_false, cond_true, Option.bind_some, Bool.false_and]; rfl


/- Shapes: the spec's side. -/
open Go Go.Ve

theorem shape_f {c : Cat} (h : ¬ headOK c) : shape c = false := by simp [shape, h]
/- Shapes: the implementation's side. -/
open Go Go.Ve

/- Faults. -/
open Go Go.Ve

def T (c : Cat) (f g : Nat) : Int := (c.2.2.2.2.getD f []).getD g 0
def idn (c : Cat) (x : Int) : Nat := (c.2.2.2.1.getD x.toNat 0).toNat
def unitOK (c : Cat) (f : Nat) : Bool := decide (T c (idn c (c.2.1.getD f 0)) f = (f : Int)) && decide (T c f (idn c (c.2.2.1.getD f 0)) = (f : Int))
def mt (c : Cat) (f g : Nat) : Bool := decide (c.2.2.1.getD f 0 = c.2.1.getD g 0)
def assOK (c : Cat) (f g h : Nat) : Bool := bif mt c g h then decide (T c (T c f g).toNat h = T c f (T c g h).toNat) else true
def lawOK (c : Cat) : Bool := (List.range c.2.1.length).all (unitOK c) && (List.range c.2.1.length).all fun f => (List.range c.2.1.length).all fun g => bif mt c f g then (List.range c.2.1.length).all fun h => assOK c f g h else true

structure Sh (c : Cat) : Prop where
  hd : headOK c
  id : ∀ x : Int, 0 ≤ x → x < c.1 → (0 ≤ c.2.2.2.1.getD x.toNat 0 ∧ c.2.2.2.1.getD x.toNat 0 < (c.2.1.length : Int))
  fr : ∀ f, f < c.2.1.length → 0 ≤ c.2.1.getD f 0 ∧ c.2.1.getD f 0 < c.1
  to : ∀ f, f < c.2.1.length → 0 ≤ c.2.2.1.getD f 0 ∧ c.2.2.1.getD f 0 < c.1
  row : ∀ f, f < c.2.1.length → (c.2.2.2.2.getD f []).length = c.2.1.length
  neg : ∀ f g, f < c.2.1.length → g < c.2.1.length → mt c f g = false → T c f g = -1
  pos : ∀ f g, f < c.2.1.length → g < c.2.1.length → mt c f g = true → 0 ≤ T c f g ∧ T c f g < (c.2.1.length : Int) ∧ c.2.1.getD (T c f g).toNat 0 = c.2.1.getD f 0 ∧ c.2.2.1.getD (T c f g).toNat 0 = c.2.2.1.getD g 0
theorem sh_of {c : Cat} (h : shape c = true) : Sh c := by
  unfold shape at h
  simp only [Bool.and_eq_true, decide_eq_true_eq] at h
  obtain ⟨hh, hi, hr⟩ := h
  have hr' : ∀ f, f < c.2.1.length → rowOK c f = true := fun f hf => List.all_eq_true.1 hr f (List.mem_range.2 hf)
  have hcell : ∀ f g, f < c.2.1.length → g < c.2.1.length → cellOK c f g = true := fun f g hf hg => by
    have := hr' f hf
    unfold rowOK at this
    rw [Bool.and_eq_true] at this
    exact List.all_eq_true.1 this.2 g (List.mem_range.2 hg)
  have h0 := hh
  obtain ⟨a1, a2, a3, a4, a5, a6, a7, a8⟩ := hh
  refine ⟨h0, fun x h1 h2 => wi_get a8 (by omega), fun f hf => wi_get a4 hf, fun f hf => wi_get a5 (by omega), fun f hf => ?_, fun f g hf hg hm => ?_, fun f g hf hg hm => ?_⟩
  · have := hr' f hf
    unfold rowOK at this
    rw [Bool.and_eq_true] at this
    exact of_decide_eq_true this.1
  · have := hcell f g hf hg
    unfold cellOK at this
    unfold mt at hm
    rw [hm] at this
    exact of_decide_eq_true this
  · have := hcell f g hf hg
    unfold cellOK at this
    unfold mt at hm
    rw [hm] at this
    simp only [Bool.not_true, cond_false, Bool.and_eq_true, decide_eq_true_eq] at this
    exact ⟨(inn_iff.1 this.1).1, (inn_iff.1 this.1).2, this.2.1, this.2.2⟩

theorem chk_bind {X R S : Type} {f : X → Option (LO X R)} {st : Nat → X} {n : Nat} {p : Nat → Bool} {Q : R → Prop} {o : LO X R} {k : LO X R → Option S} {Post : Option S → Prop}
    (h1 : ∀ i, i < n → (p i = true → f (st i) = some (.next (st (i + 1)))) ∧ (p i = false → ∃ r, f (st i) = some (.ret r) ∧ Q r)) (h2 : f (st n) = some o) (ho : ∀ y, o ≠ .next y)
    (hA : (List.range n).all p = true → Post (k o)) (hB : (List.range n).all p = false → ∀ r, Q r → Post (k (.ret r))) : Post (Option.bind (tloop f (st 0)) k) := by
  obtain ⟨g1, g2⟩ := tloop_chk h1 h2 ho
  cases h : (List.range n).all p with
  | true => rw [g1 h]; exact hA h
  | false => obtain ⟨r, hr, hq⟩ := g2 h; rw [hr]; exact hB h r hq
/-- two indices in range -/
theorem inN {a : Int} {n : Nat} (h : 0 ≤ a ∧ a < (n : Int)) : a.toNat < n := by omega
/- Faults: the spec's side. -/
open Go Go.Ve

/- Categories, queries. -/
open Go Go.Ve

def isCat (c : Cat) : Bool := shape c && lawOK c
end Go.Ve.D

