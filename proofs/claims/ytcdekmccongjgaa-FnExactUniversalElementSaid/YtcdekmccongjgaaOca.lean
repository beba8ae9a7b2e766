/- Profunctors: their sets and maps. -/
import Derived.Test.YtcdekmccongjgaaOaa
namespace Go.Ve.D
open Go Go.Ve
noncomputable section

/-- a loop in a loop, and what follows it -/
theorem chkN {R : Type} {bad : R → Prop} {F : Int → Option (LO Int (LO Int R))} {n : Nat} {p : Nat → Bool} {q : Bool} {id : Nat} {s : Int} {g : Nat → Int → Option (LO Int R)}
    (h1 : ∀ i, i < n → inn1 (lift bad) ((i + 1 : Nat) : Int) (p i) (F (i : Int))) (h2 : F (n : Int) = some (.brk id (n : Int))) (hk : inn1 bad s q (g id (n : Int))) :
    inn1 bad s ((List.range n).all p && q) (Option.bind (tloop F (0 : Int)) (LO.fin g)) := by
  refine chk_bind (st := fun i : Nat => (i : Int)) (p := p) (Q := lift bad) (o := .brk id (n : Int)) (Post := fun x => inn1 bad s ((List.range n).all p && q) x) h1 h2 (fun y => by simp) (fun hall => ?_) (fun hall r hr => ?_)
  · rw [hall, Bool.true_and]
    exact hk
  · rw [hall]
    obtain ⟨r', rfl, hb⟩ := hr
    exact ⟨(fun h => by cases h), fun _ => ⟨r', rfl, hb⟩⟩
def badB (r : Bool) : Prop := r = false
theorem inn1_bad {s : Int} {R : Type} {bad : R → Prop} {o : Option (LO Int (LO Int R))} {r : R} (h : o = some (.ret (.ret r))) (hb : bad r) : inn1 (lift bad) s false o := inn1_f ⟨_, h, _, rfl, hb⟩
theorem lt_self {n : Nat} : decide ((n : Int) < (n : Int)) = false := decide_eq_false (by omega)

abbrev PF := Int × List Int × List Int × List Int × List (List Int) × Int × List Int × List Int × List Int × List (List Int) × List (List Int) × List (List (List Int)) × List (List (List Int))
def mkP (c d : Cat) (s : List (List Int)) (be bh : List (List (List Int))) : PF := (c.1, (c.2.1, (c.2.2.1, (c.2.2.2.1, (c.2.2.2.2, (d.1, (d.2.1, (d.2.2.1, (d.2.2.2.1, (d.2.2.2.2, (s, (be, bh))))))))))))
def S2 (s : List (List Int)) (x : Nat) (y : Int) : Int := (s.getD x []).getD y.toNat 0
def M2 (m : List (List (List Int))) (a : Nat) (y : Int) : List Int := (m.getD a []).getD y.toNat []
def sRow (d : Cat) (s : List (List Int)) (x : Nat) : Bool := decide (((s.getD x []).length : Int) = d.1) && wi 65 (s.getD x [])
def lens (c d : Cat) (s : List (List Int)) (be bh : List (List (List Int))) : Bool := decide ((s.length : Int) = c.1) && (decide ((be.length : Int) = (c.2.1.length : Int)) && decide ((bh.length : Int) = (d.2.1.length : Int)))
def sized (c d : Cat) (s : List (List Int)) (be bh : List (List (List Int))) : Bool := lens c d s be bh && (List.range s.length).all (sRow d s)
theorem wi65 (x : List Int) : wi 65 x = (List.range x.length).all fun i => decide (0 ≤ x.getD i 0) && decide (x.getD i 0 ≤ 64) := by
  rw [all_idx (0 : Int) (fun a => decide (0 ≤ a) && decide (a ≤ 64)) x]
  unfold wi
  congr 1
  funext a
  unfold inn
  rw [Bool.eq_iff_iff]
  simp only [Bool.and_eq_true, decide_eq_true_eq]; omega
def okP (c d : Cat) (s : List (List Int)) (be bh : List (List (List Int))) : Prop := okC c ∧ okC d ∧ (s.length ≤ 1048576 ∧ ∀ y ∈ s, y.length ≤ 1048576) ∧ (be.length ≤ 1048576 ∧ ∀ z ∈ be, z.length ≤ 1048576 ∧ ∀ y ∈ z, y.length ≤ 1048576) ∧ (bh.length ≤ 1048576 ∧ ∀ z ∈ bh, z.length ≤ 1048576 ∧ ∀ y ∈ z, y.length ≤ 1048576)

theorem p97 {c d : Cat} {s : List (List Int)} {be bh : List (List (List Int))} (hs : s.length ≤ 1048576) (hr : ∀ y ∈ s, y.length ≤ 1048576) : G97 (mkP c d s be bh) = some (sized c d s be bh) := by
  unfold G97 mkP sized lens
  simp only
  cases decide ((s.length : Int) = c.1) with
  | false => rfl
  | true =>
  simp only [Bool.not_true, cond_false, Option.bind_some, Bool.true_and]
  cases decide ((be.length : Int) = (c.2.1.length : Int)) with
  | false => rfl
  | true =>
  simp only [Bool.not_true, cond_false, Option.bind_some, Bool.true_and]
  cases decide ((bh.length : Int) = (d.2.1.length : Int)) with
  | false => rfl
  | true =>
  simp only [Bool.not_true, cond_false, Bool.true_and]
  refine chkT (n := s.length) (p := sRow d s) (bad := badB) (id := 0) (Post := fun b (o : Option Bool) => o = some b) (fun i hi => ?_) ?_ rfl (fun r hr => by rw [hr])
  · have hl := hr _ (getD_mem' ([] : List Int) hi)
    unfold sRow
    simp only [lt_cast, hi, decide_true, cond_true, in_cast hi, and_self, if_true, Int.toNat_natCast]
    cases decide (((s.getD i []).length : Int) = d.1) with
    | false => exact inn1_f ⟨_, rfl, rfl⟩
    | true =>
    simp only [Bool.not_true, cond_false, Bool.true_and, wi65]
    refine chkL (n := (s.getD i []).length) (p := fun j => decide (0 ≤ (s.getD i []).getD j 0) && decide ((s.getD i []).getD j 0 ≤ 64)) (bad := badB) (id := 2) (s := ((i + 1 : Nat) : Int)) (fun j hj => ?_) ?_ ?_
    · simp only [lt_cast, hj, decide_true, cond_true, in_cast hj, and_self, if_true, Int.toNat_natCast, p154, Option.bind_some]
      rw [wrap_sm (by omega) (by omega)]
      cases decide (0 ≤ (s.getD i []).getD j 0) && decide ((s.getD i []).getD j 0 ≤ 64) with
      | true => exact inn1_t rfl
      | false => exact inn1_bad rfl rfl
    · simp only [lt_self, cond_false]
    · show (if 2 = 2 then _ else none) = _
      rw [if_pos rfl, wrap_sm (by omega) (by omega)]; rfl
  · simp only [lt_self, cond_false]

/-- what the lengths and the sizes give -/
structure SZ (c d : Cat) (s : List (List Int)) (be bh : List (List (List Int))) : Prop where
  l1 : (s.length : Int) = c.1
  l2 : be.length = ar c
  l3 : bh.length = ar d
  row : ∀ x, x < s.length → ((s.getD x []).length : Int) = d.1
  val : ∀ x, x < s.length → ∀ y : Int, 0 ≤ y ∧ y < d.1 → 0 ≤ S2 s x y ∧ S2 s x y ≤ 64
theorem sz_of {c d : Cat} {s : List (List Int)} {be bh : List (List (List Int))} (h : sized c d s be bh = true) : SZ c d s be bh := by
  unfold sized lens at h
  simp only [Bool.and_eq_true, decide_eq_true_eq] at h
  obtain ⟨⟨h1, h2, h3⟩, h4⟩ := h
  have hr : ∀ x, x < s.length → sRow d s x = true := fun x hx => List.all_eq_true.1 h4 x (List.mem_range.2 hx)
  refine ⟨h1, by show be.length = c.2.1.length; omega, by show bh.length = d.2.1.length; omega, fun x hx => ?_, fun x hx y hy => ?_⟩
  · have := hr x hx
    unfold sRow at this
    rw [Bool.and_eq_true, decide_eq_true_eq] at this
    exact this.1
  · have := hr x hx
    unfold sRow at this
    rw [Bool.and_eq_true, decide_eq_true_eq] at this
    obtain ⟨g1, g2⟩ := wi_get this.2 (i := y.toNat) (by omega)
    exact ⟨g1, by unfold S2; omega⟩
/-- a map is within bounds -/
def mapOf (f : List Int) (m n : Int) : Bool := decide ((f.length : Int) = m) && wi n f
def beC (c : Cat) (s : List (List Int)) (be : List (List (List Int))) (a y : Nat) : Bool := mapOf (M2 be a y) (S2 s (tT c a).toNat y) (S2 s (fT c a).toNat y)
def beR (c d : Cat) (s : List (List Int)) (be : List (List (List Int))) (a : Nat) : Bool := decide (((be.getD a []).length : Int) = d.1) && (List.range (be.getD a []).length).all (beC c s be a)
def bhC (d : Cat) (s : List (List Int)) (bh : List (List (List Int))) (b x : Nat) : Bool := mapOf (M2 bh b x) (S2 s x (fT d b)) (S2 s x (tT d b))
def bhR (c d : Cat) (s : List (List Int)) (bh : List (List (List Int))) (b : Nat) : Bool := decide (((bh.getD b []).length : Int) = c.1) && (List.range (bh.getD b []).length).all (bhC d s bh b)
def mapsB (c d : Cat) (s : List (List Int)) (be bh : List (List (List Int))) : Bool := (List.range be.length).all (beR c d s be) && (List.range bh.length).all (bhR c d s bh)
theorem p98 {c d : Cat} {s : List (List Int)} {be bh : List (List (List Int))} (hc : Sh c) (hd : Sh d) (ok : okP c d s be bh) (h : SZ c d s be bh) : G98 (mkP c d s be bh) = some (mapsB c d s be bh) := by
  obtain ⟨_, _, _, ⟨k1, k2⟩, ⟨k3, k4⟩⟩ := ok
  have l2 : be.length = c.2.1.length := h.l2
  have l3 : bh.length = d.2.1.length := h.l3
  have ct : c.2.2.1.length = c.2.1.length := hc.hd.2.2.1
  have dt : d.2.2.1.length = d.2.1.length := hd.hd.2.2.1
  have l1 := h.l1
  unfold G98 mkP mapsB
  simp only
  refine chkT (n := be.length) (p := beR c d s be) (bad := badB) (id := 0) (Post := fun b (o : Option Bool) => o = some (b && (List.range bh.length).all (bhR c d s bh))) (fun a ha => ?_) ?_ ?_ (fun r hr => by rw [hr]; rfl)
  · obtain ⟨q1, q2⟩ := k2 _ (getD_mem' ([] : List (List Int)) ha)
    have hac : a < ar c := by show a < c.2.1.length; omega
    have ha2 : a < c.2.1.length := by omega
    have ha3 : a < c.2.2.1.length := by omega
    obtain ⟨f1, f2⟩ := hc.fr a hac
    obtain ⟨t1, t2⟩ := hc.to a hac
    unfold beR
    simp only [lt_cast, ha, decide_true, cond_true, in_cast ha, and_self, if_true, Int.toNat_natCast]
    cases hl : decide (((be.getD a []).length : Int) = d.1) with
    | false => exact inn1_f ⟨_, rfl, rfl⟩
    | true =>
    have hl := of_decide_eq_true hl
    simp only [Bool.not_true, cond_false, Bool.true_and]
    refine chkL (n := (be.getD a []).length) (p := beC c s be a) (bad := badB) (id := 2) (s := ((a + 1 : Nat) : Int)) (fun y hy => ?_) ?_ ?_
    · have hm := q2 _ (getD_mem' ([] : List Int) hy)
      obtain ⟨tn, et⟩ : ∃ n : Nat, c.2.2.1.getD a 0 = (n : Int) := ⟨(c.2.2.1.getD a 0).toNat, by omega⟩
      obtain ⟨fn, ef⟩ : ∃ n : Nat, c.2.1.getD a 0 = (n : Int) := ⟨(c.2.1.getD a 0).toNat, by omega⟩
      have htn : tn < s.length := by omega
      have hfn : fn < s.length := by omega
      have r1 := h.row tn htn
      have r2 := h.row fn hfn
      have hy1 : y < (s.getD tn []).length := by omega
      have hy2 : y < (s.getD fn []).length := by omega
      simp only [lt_cast, hy, decide_true, cond_true, in_cast hy, in_cast ha2, in_cast ha3, et, ef, in_cast htn, in_cast hfn, in_cast hy1, in_cast hy2, and_self, if_true, Int.toNat_natCast, p143 hm, Option.bind_some]
      rw [wrap_sm (by omega) (by omega)]
      unfold beC mapOf M2 S2 tT fT
      rw [et, ef, Int.toNat_natCast, Int.toNat_natCast, Int.toNat_natCast]
      cases decide ((((be.getD a []).getD y []).length : Int) = (s.getD tn []).getD y 0) with
      | false => exact inn1_bad rfl rfl
      | true =>
      rw [Bool.true_and]
      cases wi ((s.getD fn []).getD y 0) ((be.getD a []).getD y []) with
      | false => exact inn1_bad rfl rfl
      | true => exact inn1_t rfl
    · simp only [lt_self, cond_false]
    · show (if 2 = 2 then _ else none) = _
      rw [if_pos rfl, wrap_sm (by omega) (by omega)]; rfl
  · simp only [lt_self, cond_false]
  show (if 0 = 0 then _ else none) = _
  rw [if_pos rfl, Bool.true_and]
  refine chkT (n := bh.length) (p := bhR c d s bh) (bad := badB) (id := 4) (Post := fun b (o : Option Bool) => o = some b) (fun b hb => ?_) ?_ rfl (fun r hr => by rw [hr])
  · obtain ⟨q1, q2⟩ := k4 _ (getD_mem' ([] : List (List Int)) hb)
    have hbd : b < ar d := by show b < d.2.1.length; omega
    have hb2 : b < d.2.1.length := by omega
    have hb3 : b < d.2.2.1.length := by omega
    obtain ⟨f1, f2⟩ := hd.fr b hbd
    obtain ⟨t1, t2⟩ := hd.to b hbd
    unfold bhR
    simp only [lt_cast, hb, decide_true, cond_true, in_cast hb, and_self, if_true, Int.toNat_natCast]
    cases hl : decide (((bh.getD b []).length : Int) = c.1) with
    | false => exact inn1_f ⟨_, rfl, rfl⟩
    | true =>
    have hl := of_decide_eq_true hl
    simp only [Bool.not_true, cond_false, Bool.true_and]
    refine chkL (n := (bh.getD b []).length) (p := bhC d s bh b) (bad := badB) (id := 6) (s := ((b + 1 : Nat) : Int)) (fun x hx => ?_) ?_ ?_
    · have hm := q2 _ (getD_mem' ([] : List Int) hx)
      obtain ⟨tn, et⟩ : ∃ n : Nat, d.2.2.1.getD b 0 = (n : Int) := ⟨(d.2.2.1.getD b 0).toNat, by omega⟩
      obtain ⟨fn, ef⟩ : ∃ n : Nat, d.2.1.getD b 0 = (n : Int) := ⟨(d.2.1.getD b 0).toNat, by omega⟩
      have hxs : x < s.length := by omega
      have r1 := h.row x hxs
      have hy1 : tn < (s.getD x []).length := by omega
      have hy2 : fn < (s.getD x []).length := by omega
      simp only [lt_cast, hx, decide_true, cond_true, in_cast hx, in_cast hb2, in_cast hb3, et, ef, in_cast hxs, in_cast hy1, in_cast hy2, and_self, if_true, Int.toNat_natCast, p143 hm, Option.bind_some]
      rw [wrap_sm (by omega) (by omega)]
      unfold bhC mapOf M2 S2 tT fT
      rw [et, ef, Int.toNat_natCast, Int.toNat_natCast, Int.toNat_natCast]
      cases decide ((((bh.getD b []).getD x []).length : Int) = (s.getD x []).getD fn 0) with
      | false => exact inn1_bad rfl rfl
      | true =>
      rw [Bool.true_and]
      cases wi ((s.getD x []).getD tn 0) ((bh.getD b []).getD x []) with
      | false => exact inn1_bad rfl rfl
      | true => exact inn1_t rfl
    · simp only [lt_self, cond_false]
    · show (if 6 = 6 then _ else none) = _
      rw [if_pos rfl, wrap_sm (by omega) (by omega)]; rfl
  · simp only [lt_self, cond_false]
end
end Go.Ve.D


namespace Go.Ve.D
open Go Go.Ve
noncomputable section

abbrev cat0 : Cat := ((0 : Int), (([] : List Int), (([] : List Int), (([] : List Int), ([] : List (List Int))))))
theorem p158 {x : List Cat} (hx : x.length ≤ 1048576) (h : ∀ c ∈ x, okC c) : G158 x = some (x.all isCat) := by
  unfold G158
  rw [← all_idx cat0 isCat x]
  refine chkT (n := x.length) (p := fun i => isCat (x.getD i cat0)) (bad := badB) (id := 0) (Post := fun b (o : Option Bool) => o = some b) (fun i hi => ?_) ?_ rfl (fun r hr => by rw [hr])
  · simp only [lt_cast, hi, decide_true, cond_true, in_cast hi, and_self, if_true, Int.toNat_natCast, p111 (h _ (getD_mem' cat0 hi)), Option.bind_some]
    rw [wrap_sm (by omega) (by omega)]
    cases isCat (x.getD i cat0) with
    | true => exact inn1_t rfl
    | false => exact inn1_f ⟨_, rfl, rfl⟩
  · simp only [lt_self, cond_false]
def pshape (c d : Cat) (s : List (List Int)) (be bh : List (List (List Int))) : Bool := (isCat c && isCat d) && (sized c d s be bh && mapsB c d s be bh)
theorem p101 {c d : Cat} {s : List (List Int)} {be bh : List (List (List Int))} (ok : okP c d s be bh) : G101 (mkP c d s be bh) = some (pshape c d s be bh) := by
  obtain ⟨oc, od, ⟨k1, k2⟩, ⟨k3, k4⟩, ⟨k5, k6⟩⟩ := ok
  have e0 : G158 (c :: d :: []) = some (isCat c && isCat d) := by
    rw [p158 (by simp) (fun x hx => by
      rcases List.mem_cons.1 hx with rfl | hx
      · exact oc
      · rw [List.mem_singleton.1 hx]; exact od)]
    simp
  unfold G101 mkP pshape
  simp only [Prod.eta, e0, p113, Option.bind_some]
  cases hcc : isCat c && isCat d with
  | false => rfl
  | true =>
  rw [Bool.and_eq_true] at hcc
  have hc := isCat_sh hcc.1
  have hd := isCat_sh hcc.2
  have ct : c.2.2.1.length = c.2.1.length := hc.hd.2.2.1
  have dt : d.2.2.1.length = d.2.1.length := hd.hd.2.2.1
  unfold sized
  cases hl : lens c d s be bh with
  | false =>
    unfold lens at hl
    revert hl
    cases decide ((s.length : Int) = c.1) with
    | false => intro _; rfl
    | true => cases decide ((be.length : Int) = (c.2.1.length : Int)) with
      | false => intro _; rfl
      | true => cases decide ((bh.length : Int) = (d.2.1.length : Int)) with
        | false => intro _; rfl
        | true => intro h; cases h
  | true =>
  have hl' := hl
  unfold lens at hl'
  simp only [Bool.and_eq_true, decide_eq_true_eq] at hl'
  obtain ⟨m1, m2, m3⟩ := hl'
  have n1 : decide ((s.length : Int) = c.1) = true := decide_eq_true m1
  have n2 : decide ((be.length : Int) = (c.2.1.length : Int)) = true := decide_eq_true m2
  have n3 : decide ((bh.length : Int) = (d.2.1.length : Int)) = true := decide_eq_true m3
  simp only [n1, n2, n3, Bool.not_true, cond_false, Option.bind_some, Bool.true_and]
  refine chk3 (st := fun i : Nat => (i : Int)) (n := s.length) (p := sRow d s) (Q := badB) (o := .brk 0 (s.length : Int)) (Post := fun b (o : Option Bool) => o = some (b && mapsB c d s be bh)) (fun i hi => ?_) ?_ (fun y => by simp) (fun hall => ?_) (fun r hr => by rw [hr]; rfl)
  · have hl := k2 _ (getD_mem' ([] : List Int) hi)
    unfold sRow
    simp only [lt_cast, hi, decide_true, cond_true, in_cast hi, and_self, if_true, Int.toNat_natCast, p120 (n := 65) ⟨by decide, by decide⟩ hl, Option.bind_some]
    rw [wrap_sm (by omega) (by omega)]
    cases decide (((s.getD i []).length : Int) = d.1) with
    | false => exact inn1_f ⟨_, rfl, rfl⟩
    | true =>
    rw [Bool.true_and]
    cases wi 65 (s.getD i []) with
    | false => exact inn1_f ⟨_, rfl, rfl⟩
    | true => exact inn1_t rfl
  · simp only [lt_self, cond_false]
  have h : SZ c d s be bh := sz_of (by unfold sized; rw [hl, hall]; rfl)
  have l2 : be.length = c.2.1.length := h.l2
  have l3 : bh.length = d.2.1.length := h.l3
  have l1 := h.l1
  show (if 0 = 0 then _ else none) = _
  rw [if_pos rfl, Bool.true_and]
  unfold mapsB
  refine chkT (n := be.length) (p := beR c d s be) (bad := badB) (id := 2) (Post := fun b (o : Option Bool) => o = some (b && (List.range bh.length).all (bhR c d s bh))) (fun a ha => ?_) ?_ ?_ (fun r hr => by rw [hr]; rfl)
  · obtain ⟨q1, q2⟩ := k4 _ (getD_mem' ([] : List (List Int)) ha)
    have hac : a < ar c := by show a < c.2.1.length; omega
    have ha2 : a < c.2.1.length := by omega
    have ha3 : a < c.2.2.1.length := by omega
    obtain ⟨f1, f2⟩ := hc.fr a hac
    obtain ⟨t1, t2⟩ := hc.to a hac
    unfold beR
    simp only [lt_cast, ha, decide_true, cond_true, in_cast ha, and_self, if_true, Int.toNat_natCast]
    cases hl : decide (((be.getD a []).length : Int) = d.1) with
    | false => exact inn1_f ⟨_, rfl, rfl⟩
    | true =>
    have hl := of_decide_eq_true hl
    simp only [Bool.not_true, cond_false, Bool.true_and]
    refine chkL (n := (be.getD a []).length) (p := beC c s be a) (bad := badB) (id := 4) (s := ((a + 1 : Nat) : Int)) (fun y hy => ?_) ?_ ?_
    · have hm := q2 _ (getD_mem' ([] : List Int) hy)
      obtain ⟨tn, et⟩ : ∃ n : Nat, c.2.2.1.getD a 0 = (n : Int) := ⟨(c.2.2.1.getD a 0).toNat, by omega⟩
      obtain ⟨fn, ef⟩ : ∃ n : Nat, c.2.1.getD a 0 = (n : Int) := ⟨(c.2.1.getD a 0).toNat, by omega⟩
      have htn : tn < s.length := by omega
      have hfn : fn < s.length := by omega
      have r1 := h.row tn htn
      have r2 := h.row fn hfn
      have hy1 : y < (s.getD tn []).length := by omega
      have hy2 : y < (s.getD fn []).length := by omega
      obtain ⟨z1, z2⟩ := h.val fn hfn (y : Int) ⟨by omega, by omega⟩
      have e4 : G159 ((be.getD a []).getD y [], ((s.getD tn []).getD y 0, (s.getD fn []).getD y 0)) = some (mapOf (M2 be a y) (S2 s tn y) (S2 s fn y)) := p159 (x := M2 be a y) (k := S2 s tn y) (n := S2 s fn y) ⟨z1, Int.le_trans z2 (by decide)⟩ hm
      simp only [lt_cast, hy, decide_true, cond_true, in_cast hy, in_cast ha2, in_cast ha3, et, ef, in_cast htn, in_cast hfn, in_cast hy1, in_cast hy2, and_self, if_true, Int.toNat_natCast, e4, Option.bind_some]
      rw [wrap_sm (by omega) (by omega)]
      unfold beC tT fT
      rw [et, ef, Int.toNat_natCast, Int.toNat_natCast]
      cases mapOf (M2 be a y) (S2 s tn y) (S2 s fn y) with
      | false => exact inn1_bad rfl rfl
      | true => exact inn1_t rfl
    · simp only [lt_self, cond_false]
    · show (if 4 = 4 then _ else none) = _
      rw [if_pos rfl, wrap_sm (by omega) (by omega)]; rfl
  · simp only [lt_self, cond_false]
  show (if 2 = 2 then _ else none) = _
  rw [if_pos rfl, Bool.true_and]
  refine chkT (n := bh.length) (p := bhR c d s bh) (bad := badB) (id := 6) (Post := fun b (o : Option Bool) => o = some b) (fun b hb => ?_) ?_ rfl (fun r hr => by rw [hr])
  · obtain ⟨q1, q2⟩ := k6 _ (getD_mem' ([] : List (List Int)) hb)
    have hbd : b < ar d := by show b < d.2.1.length; omega
    have hb2 : b < d.2.1.length := by omega
    have hb3 : b < d.2.2.1.length := by omega
    obtain ⟨f1, f2⟩ := hd.fr b hbd
    obtain ⟨t1, t2⟩ := hd.to b hbd
    unfold bhR
    simp only [lt_cast, hb, decide_true, cond_true, in_cast hb, and_self, if_true, Int.toNat_natCast]
    cases hl : decide (((bh.getD b []).length : Int) = c.1) with
    | false => exact inn1_f ⟨_, rfl, rfl⟩
    | true =>
    have hl := of_decide_eq_true hl
    simp only [Bool.not_true, cond_false, Bool.true_and]
    refine chkL (n := (bh.getD b []).length) (p := bhC d s bh b) (bad := badB) (id := 8) (s := ((b + 1 : Nat) : Int)) (fun x hx => ?_) ?_ ?_
    · have hm := q2 _ (getD_mem' ([] : List Int) hx)
      obtain ⟨tn, et⟩ : ∃ n : Nat, d.2.2.1.getD b 0 = (n : Int) := ⟨(d.2.2.1.getD b 0).toNat, by omega⟩
      obtain ⟨fn, ef⟩ : ∃ n : Nat, d.2.1.getD b 0 = (n : Int) := ⟨(d.2.1.getD b 0).toNat, by omega⟩
      have hxs : x < s.length := by omega
      have r1 := h.row x hxs
      have hy1 : tn < (s.getD x []).length := by omega
      have hy2 : fn < (s.getD x []).length := by omega
      obtain ⟨z1, z2⟩ := h.val x hxs (tn : Int) ⟨by omega, by omega⟩
      have e4 : G159 ((bh.getD b []).getD x [], ((s.getD x []).getD fn 0, (s.getD x []).getD tn 0)) = some (mapOf (M2 bh b x) (S2 s x fn) (S2 s x tn)) := p159 (x := M2 bh b x) (k := S2 s x fn) (n := S2 s x tn) ⟨z1, Int.le_trans z2 (by decide)⟩ hm
      simp only [lt_cast, hx, decide_true, cond_true, in_cast hx, in_cast hb2, in_cast hb3, et, ef, in_cast hxs, in_cast hy1, in_cast hy2, and_self, if_true, Int.toNat_natCast, e4, Option.bind_some]
      rw [wrap_sm (by omega) (by omega)]
      unfold bhC tT fT
      rw [et, ef]
      cases mapOf (M2 bh b x) (S2 s x fn) (S2 s x tn) with
      | false => exact inn1_bad rfl rfl
      | true => exact inn1_t rfl
    · simp only [lt_self, cond_false]
    · show (if 8 = 8 then _ else none) = _
      rw [if_pos rfl, wrap_sm (by omega) (by omega)]; rfl
  · simp only [lt_self, cond_false]

/-- what the maps give -/
structure MP (c d : Cat) (s : List (List Int)) (be bh : List (List (List Int))) : Prop where
  hc : Sh c
  hd : Sh d
  sz : SZ c d s be bh
  br : ∀ a, a < ar c → ((be.getD a []).length : Int) = d.1
  bv : ∀ a, a < ar c → ∀ y : Nat, (y : Int) < d.1 → ((M2 be a y).length : Int) = S2 s (tT c a).toNat y ∧ wi (S2 s (fT c a).toNat y) (M2 be a y) = true
  hr : ∀ b, b < ar d → ((bh.getD b []).length : Int) = c.1
  hv : ∀ b, b < ar d → ∀ x : Nat, (x : Int) < c.1 → ((M2 bh b x).length : Int) = S2 s x (fT d b) ∧ wi (S2 s x (tT d b)) (M2 bh b x) = true
theorem mp_of {c d : Cat} {s : List (List Int)} {be bh : List (List (List Int))} (h : pshape c d s be bh = true) : MP c d s be bh := by
  unfold pshape mapsB at h
  simp only [Bool.and_eq_true] at h
  obtain ⟨⟨h1, h2⟩, h3, h4, h5⟩ := h
  have hs := sz_of h3
  have hb : ∀ a, a < ar c → beR c d s be a = true := fun a ha => List.all_eq_true.1 h4 a (List.mem_range.2 (by rw [hs.l2]; exact ha))
  have hh : ∀ b, b < ar d → bhR c d s bh b = true := fun b hb => List.all_eq_true.1 h5 b (List.mem_range.2 (by rw [hs.l3]; exact hb))
  have b1 : ∀ a, a < ar c → ((be.getD a []).length : Int) = d.1 := fun a ha => by
    have := hb a ha
    unfold beR at this
    rw [Bool.and_eq_true, decide_eq_true_eq] at this
    exact this.1
  have c1 : ∀ b, b < ar d → ((bh.getD b []).length : Int) = c.1 := fun b hb' => by
    have := hh b hb'
    unfold bhR at this
    rw [Bool.and_eq_true, decide_eq_true_eq] at this
    exact this.1
  refine ⟨isCat_sh h1, isCat_sh h2, hs, b1, fun a ha y hy => ?_, c1, fun b hb' x hx => ?_⟩
  · have := hb a ha
    unfold beR at this
    rw [Bool.and_eq_true] at this
    have g := List.all_eq_true.1 this.2 y (List.mem_range.2 (by have := b1 a ha; omega))
    unfold beC mapOf at g
    rw [Bool.and_eq_true, decide_eq_true_eq] at g
    exact g
  · have := hh b hb'
    unfold bhR at this
    rw [Bool.and_eq_true] at this
    have g := List.all_eq_true.1 this.2 x (List.mem_range.2 (by have := c1 b hb'; omega))
    unfold bhC mapOf at g
    rw [Bool.and_eq_true, decide_eq_true_eq] at g
    exact g
end
end Go.Ve.D


namespace Go.Ve.D
open Go Go.Ve
noncomputable section

/-! Maps. -/
def th (f g : List Int) : List Int := (List.range f.length).map fun i => g.getD (f.getD i 0).toNat 0
theorem th_len {f g : List Int} : (th f g).length = f.length := by simp [th]
theorem th_get {f g : List Int} {i : Nat} (hi : i < f.length) : (th f g).getD i 0 = g.getD (f.getD i 0).toNat 0 := by simp [th, hi]
theorem p156 {f g : List Int} (hf : f.length ≤ 1048576) (h : wi g.length f = true) : G156 (f, g) = some (th f g) := by
  unfold G156
  refine bind_of (v := .brk 0 ((f.length : Int), th f g)) (gatherM (fun i hi acc ha => ?_) fun acc => ?_) rfl
  · obtain ⟨v, hv, ev⟩ := getW h hi
    simp only [lt_cast, hi, decide_true, cond_true, in_cast hi, ev, in_cast hv, and_self, if_true, Int.toNat_natCast, List.length_cons, List.length_nil]
    rw [wrap_sm (by omega) (by omega), if_pos (show acc.length + (0 + 1) ≤ 17592186044416 by omega)]
    rfl
  · simp only [lt_self, cond_false]
theorem p103 {f g : List Int} (hf : f.length ≤ 1048576) (h : wi g.length f = true) : G103 (f, g) = some (th f g) := by
  unfold G103
  simp only [Int.toNat_natCast]
  rw [if_pos (by omega)]
  have hst : (((0 : Int), List.replicate f.length (0 : Int)) : Int × List Int) = (fun i : Nat => ((i : Int), (th f g).take i ++ (List.replicate f.length (0 : Int)).drop i)) 0 := by simp
  rw [hst]
  refine bind_of (v := .brk 0 ((f.length : Int), th f g)) (tloop_iter (st := fun i : Nat => ((i : Int), (th f g).take i ++ (List.replicate f.length (0 : Int)).drop i)) (n := f.length) (fun i hi => ?_) ?_ (fun y => by simp)) rfl
  · obtain ⟨v, hv, ev⟩ := getW h hi
    have e : ((th f g).take i ++ (List.replicate f.length (0 : Int)).drop i).length = f.length := by simp [th_len]; omega
    have hm := take_set (x := th f g) (y := List.replicate f.length (0 : Int)) (i := i) 0 (by simp [th_len]) (by rw [th_len]; exact hi)
    rw [th_get hi, ev, Int.toNat_natCast] at hm
    simp only [e, lt_cast, hi, decide_true, cond_true, in_cast hi, ev, in_cast hv, and_self, if_true, Int.toNat_natCast]
    rw [wrap_sm (by omega) (by omega), hm]
    rfl
  · have e : (th f g).take f.length ++ (List.replicate f.length (0 : Int)).drop f.length = th f g := by
      rw [List.drop_of_length_le (by simp), List.append_nil]
      exact List.take_of_length_le (by rw [th_len]; exact Nat.le_refl _)
    simp only [e, lt_self, cond_false]
theorem p160 {n : Nat} (hn : n ≤ 1048576) : G160 (n : Int) = some (nums n) := by
  unfold G160
  simp only [Int.toNat_natCast, List.length_replicate]
  rw [if_pos (by omega)]
  have hst : (((0 : Int), List.replicate n (0 : Int)) : Int × List Int) = (fun i : Nat => ((i : Int), (nums n).take i ++ (List.replicate n (0 : Int)).drop i)) 0 := by simp
  rw [hst]
  refine bind_of (v := .brk 0 ((n : Int), nums n)) (tloop_iter (st := fun i : Nat => ((i : Int), (nums n).take i ++ (List.replicate n (0 : Int)).drop i)) (n := n) (fun i hi => ?_) ?_ (fun y => by simp)) rfl
  · have e : ((nums n).take i ++ (List.replicate n (0 : Int)).drop i).length = n := by simp [nums_len]; omega
    have hm := take_set (x := nums n) (y := List.replicate n (0 : Int)) (i := i) 0 (by simp [nums_len]) (by rw [nums_len]; exact hi)
    rw [nums_get hi] at hm
    simp only [e, lt_cast, hi, decide_true, cond_true, in_cast hi, and_self, if_true, Int.toNat_natCast]
    rw [wrap_sm (by omega) (by omega), hm]
    rfl
  · have e : (nums n).take n ++ (List.replicate n (0 : Int)).drop n = nums n := by
      rw [List.drop_of_length_le (by simp), List.append_nil]
      exact List.take_of_length_le (by rw [nums_len]; exact Nat.le_refl _)
    simp only [e, lt_self, cond_false]
def calm (f : List Int) : Bool := (List.range f.length).all fun i => decide (f.getD i 0 = (i : Int))
theorem calm_eq {f : List Int} {n : Nat} (h : f.length = n) : decide (f = nums n) = calm f := by
  rw [list_eq (by rw [nums_len]; exact h)]
  unfold calm
  refine all_congr' fun i hi => ?_
  rw [nums_get (by omega)]
theorem p155 {f : List Int} (hf : f.length ≤ 1048576) : G155 f = some (calm f) := by
  unfold G155
  refine chkT (n := f.length) (p := fun i => decide (f.getD i 0 = (i : Int))) (bad := badB) (id := 0) (Post := fun b (o : Option Bool) => o = some b) (fun i hi => ?_) ?_ rfl (fun r hr => by rw [hr])
  · simp only [lt_cast, hi, decide_true, cond_true, in_cast hi, and_self, if_true, Int.toNat_natCast]
    rw [wrap_sm (by omega) (by omega)]
    cases decide (f.getD i 0 = (i : Int)) with
    | true => exact inn1_t rfl
    | false => exact inn1_f ⟨_, rfl, rfl⟩
  · simp only [lt_self, cond_false]

/-! What composes. -/
theorem idX {c : Cat} (h : Sh c) (hs : isCat c = true) {x : Nat} (hx : (x : Int) < c.1) : ∃ a : Nat, a < ar c ∧ c.2.2.2.1.getD x 0 = (a : Int) ∧ fT c a = (x : Int) ∧ tT c a = (x : Int) := by
  unfold isCat shape at hs
  rw [Bool.and_eq_true, Bool.and_eq_true, Bool.and_eq_true] at hs
  obtain ⟨a1, a2, a3, a4, a5, a6, a7, a8⟩ := h.hd
  have hi := List.all_eq_true.1 hs.1.2.1 x (List.mem_range.2 (by omega))
  unfold idOK at hi
  rw [Bool.and_eq_true, decide_eq_true_eq, decide_eq_true_eq] at hi
  obtain ⟨g1, g2⟩ := wi_get a8 (i := x) (by omega)
  exact ⟨(c.2.2.2.1.getD x 0).toNat, by show _ < c.2.1.length; omega, by omega, hi⟩
def idA (c : Cat) (x : Nat) : Nat := (c.2.2.2.1.getD x 0).toNat
section
variable {c d : Cat} {s : List (List Int)} {be bh : List (List (List Int))}
theorem MP.bl (h : MP c d s be bh) {a y : Nat} (ha : a < ar c) (hy : (y : Int) < d.1) : (M2 be a y).length ≤ 64 := by
  obtain ⟨h1, _⟩ := h.bv a ha y hy
  obtain ⟨t1, t2⟩ := h.hc.to a ha
  have t2 : tT c a < c.1 := t2
  have t1 : 0 ≤ tT c a := t1
  have l1 := h.sz.l1
  obtain ⟨z1, z2⟩ := h.sz.val (tT c a).toNat (by omega) (y : Int) ⟨by omega, hy⟩
  omega
theorem MP.hl (h : MP c d s be bh) {b x : Nat} (hb : b < ar d) (hx : (x : Int) < c.1) : (M2 bh b x).length ≤ 64 := by
  obtain ⟨h1, _⟩ := h.hv b hb x hx
  obtain ⟨t1, t2⟩ := h.hd.fr b hb
  have l1 := h.sz.l1
  obtain ⟨z1, z2⟩ := h.sz.val x (by omega) (fT d b) ⟨t1, t2⟩
  omega
theorem MP.cb (h : MP c d s be bh) {a b y : Nat} (ha : a < ar c) (hb : b < ar c) (hm : mt c a b = true) (hy : (y : Int) < d.1) : wi (M2 be a y).length (M2 be b y) = true := by
  obtain ⟨h1, _⟩ := h.bv a ha y hy
  obtain ⟨_, h2⟩ := h.bv b hb y hy
  have e : tT c a = fT c b := of_decide_eq_true hm
  rw [h1, e]
  exact h2
theorem MP.ch (h : MP c d s be bh) {a b x : Nat} (ha : a < ar d) (hb : b < ar d) (hm : mt d a b = true) (hx : (x : Int) < c.1) : wi (M2 bh b x).length (M2 bh a x) = true := by
  obtain ⟨h1, _⟩ := h.hv b hb x hx
  obtain ⟨_, h2⟩ := h.hv a ha x hx
  have e : tT d a = fT d b := of_decide_eq_true hm
  rw [h1, ← e]
  exact h2
theorem MP.x1 (h : MP c d s be bh) {a b f f' : Nat} (ha : a < ar c) (hb : b < ar d) (ef : fT c a = (f : Int)) (ef' : fT d b = (f' : Int)) : wi (M2 bh b f).length (M2 be a f') = true := by
  have q1 := (h.hc.fr a ha).2
  have q2 := (h.hd.fr b hb).2
  have q1 : fT c a < c.1 := q1
  have q2 : fT d b < d.1 := q2
  obtain ⟨_, h2⟩ := h.bv a ha f' (by omega)
  obtain ⟨h1, _⟩ := h.hv b hb f (by omega)
  rw [h1, ef']
  rw [ef] at h2
  exact h2
theorem MP.x2 (h : MP c d s be bh) {a b t t' : Nat} (ha : a < ar c) (hb : b < ar d) (et : tT c a = (t : Int)) (et' : tT d b = (t' : Int)) : wi (M2 be a t').length (M2 bh b t) = true := by
  have q1 := (h.hc.to a ha).2
  have q2 := (h.hd.to b hb).2
  have q1 : tT c a < c.1 := q1
  have q2 : tT d b < d.1 := q2
  obtain ⟨h1, _⟩ := h.bv a ha t' (by omega)
  obtain ⟨_, h2⟩ := h.hv b hb t (by omega)
  rw [h1, et]
  rw [et'] at h2
  exact h2
end
/-! The laws. -/
section
variable (c d : Cat) (be bh : List (List (List Int)))
def idC (y x : Nat) : Bool := calm (M2 be (idA c x) y) && calm (M2 bh (idA d y) x)
def coC (y a b : Nat) : Bool := !mt c a b || decide (M2 be (T c a b).toNat y = th (M2 be b y) (M2 be a y))
def coH (x a b : Nat) : Bool := !mt d a b || decide (M2 bh (T d a b).toNat x = th (M2 bh a x) (M2 bh b x))
def crC (a b : Nat) : Bool := decide (th (M2 be a (fT d b)) (M2 bh b (fT c a)) = th (M2 bh b (tT c a)) (M2 be a (tT d b)))
def lawY (y : Nat) : Bool := (List.range c.1.toNat).all (idC c d be bh y) && (List.range (ar c)).all fun a => (List.range (ar c)).all (coC c be y a)
def actsB : Bool := (List.range d.1.toNat).all (lawY c d be bh) && (List.range c.1.toNat).all fun x => (List.range (ar d)).all fun a => (List.range (ar d)).all (coH d bh x a)
def lawP : Bool := actsB c d be bh && (List.range (ar c)).all fun a => (List.range (ar d)).all (crC c d be bh a)
end
end
end Go.Ve.D


namespace Go.Ve.D
open Go Go.Ve
noncomputable section

theorem p99 {c d : Cat} {s : List (List Int)} {be bh : List (List (List Int))} (hcc : isCat c = true) (hdd : isCat d = true) (h : MP c d s be bh) : G99 (mkP c d s be bh) = some (lawP c d be bh) := by
  obtain ⟨a1, a2, a3, a4, a5, a6, a7, a8⟩ := h.hc.hd
  obtain ⟨b1, b2, b3, b4, b5, b6, b7, b8⟩ := h.hd.hd
  have hm : ar c ≤ 40 := a2
  have hm' : ar d ≤ 40 := b2
  obtain ⟨n, hn⟩ : ∃ n : Nat, c.1 = (n : Int) := ⟨c.1.toNat, by omega⟩
  obtain ⟨m, hmm⟩ : ∃ m : Nat, d.1 = (m : Int) := ⟨d.1.toNat, by omega⟩
  have l2 : be.length = ar c := h.sz.l2
  have l3 : bh.length = ar d := h.sz.l3
  have c5 : c.2.2.2.2.length = ar c := a6
  have d5 : d.2.2.2.2.length = ar d := b6
  unfold G99 mkP lawP actsB
  simp only [hn, hmm, Int.toNat_natCast]
  refine chkT (n := m) (p := lawY c d be bh) (bad := badB) (id := 0) (Post := fun b (o : Option Bool) => o = some ((b && (List.range n).all fun x => (List.range (ar d)).all fun a => (List.range (ar d)).all (coH d bh x a)) && (List.range (ar c)).all fun a => (List.range (ar d)).all (crC c d be bh a))) (fun y hy => ?_) ?_ ?_ (fun r hr => by rw [hr]; rfl)
  · have hyd : (y : Int) < d.1 := by omega
    unfold lawY
    rw [hn, Int.toNat_natCast]
    simp only [lt_cast, hy, decide_true, cond_true]
    refine chkN (n := n) (p := idC c d be bh y) (q := (List.range (ar c)).all fun a => (List.range (ar c)).all (coC c be y a)) (id := 2) (s := ((y + 1 : Nat) : Int)) (fun x hx => ?_) ?_ ?_
    · have hxc : (x : Int) < c.1 := by omega
      obtain ⟨a, ha, ea, e1, e2⟩ := idX h.hc hcc hxc
      obtain ⟨b, hb, eb, e3, e4⟩ := idX h.hd hdd hyd
      have x1 : x < c.2.2.2.1.length := by omega
      have y1 : y < d.2.2.2.1.length := by omega
      have ha' : a < be.length := by omega
      have hb' : b < bh.length := by omega
      have ya : y < (be.getD a []).length := by have := h.br a ha; omega
      have xb : x < (bh.getD b []).length := by have := h.hr b hb; omega
      have q1 : G155 ((be.getD a []).getD y []) = some (calm (M2 be a y)) := p155 (f := M2 be a y) (by have := h.bl ha hyd; omega)
      have q2 : G155 ((bh.getD b []).getD x []) = some (calm (M2 bh b x)) := p155 (f := M2 bh b x) (by have := h.hl hb hxc; omega)
      simp only [lt_cast, hx, decide_true, cond_true, in_cast x1, ea, in_cast ha', in_cast ya, q1, Option.bind_some, in_cast y1, eb, in_cast hb', in_cast xb, q2, and_self, if_true, Int.toNat_natCast]
      rw [wrap_sm (by omega) (by omega)]
      unfold idC idA
      rw [ea, eb, Int.toNat_natCast, Int.toNat_natCast]
      cases calm (M2 be a y) with
      | false => exact inn1_bad rfl rfl
      | true => cases calm (M2 bh b x) with
        | false => exact inn1_bad rfl rfl
        | true => exact inn1_t rfl
    · simp only [lt_self, cond_false]
    · show inn1 _ _ _ (if 2 = 2 then _ else none)
      rw [if_pos rfl]
      refine chkL (n := ar c) (p := fun a => (List.range (ar c)).all (coC c be y a)) (bad := badB) (id := 4) (s := ((y + 1 : Nat) : Int)) (fun a ha => ?_) ?_ ?_
      · have ha2 : a < c.2.1.length := ha
        simp only [lt_cast, ha2, decide_true, cond_true]
        refine chkL (n := ar c) (p := coC c be y a) (bad := lift badB) (id := 6) (s := ((a + 1 : Nat) : Int)) (fun b hb => ?_) ?_ ?_
        · have hb2 : b < c.2.1.length := hb
          have r1 : a < c.2.2.2.2.length := by omega
          have r2 : b < (c.2.2.2.2.getD a []).length := by
            have := h.hc.row a ha
            omega
          simp only [lt_cast, hb2, decide_true, cond_true, in_cast r1, in_cast r2, and_self, if_true, Int.toNat_natCast]
          rw [wrap_sm (by omega) (by omega)]
          unfold coC
          cases hmt : mt c a b with
          | false =>
            have e : (c.2.2.2.2.getD a []).getD b 0 = -1 := h.hc.neg a b ha hb hmt
            have e0 : decide (0 ≤ (c.2.2.2.2.getD a []).getD b 0) = false := decide_eq_false (by omega)
            refine inn1_t ?_
            simp only [e0, cond_false, Option.bind_some]
            rfl
          | true =>
            obtain ⟨t1, t2, _⟩ := h.hc.pos a b ha hb hmt
            obtain ⟨t, et⟩ : ∃ t : Nat, T c a b = (t : Int) := ⟨(T c a b).toNat, by omega⟩
            have et' : (c.2.2.2.2.getD a []).getD b 0 = (t : Int) := et
            have ht : t < ar c := by show t < c.2.1.length; omega
            have e0 : decide ((0 : Int) ≤ (t : Int)) = true := decide_eq_true (by omega)
            have yt : y < (be.getD t []).length := by have := h.br t ht; omega
            have ya : y < (be.getD a []).length := by have := h.br a ha; omega
            have yb : y < (be.getD b []).length := by have := h.br b hb; omega
            have ht' : t < be.length := by omega
            have ha' : a < be.length := by omega
            have hb' : b < be.length := by omega
            have q1 : G156 ((be.getD b []).getD y [], (be.getD a []).getD y []) = some (th (M2 be b y) (M2 be a y)) := p156 (f := M2 be b y) (g := M2 be a y) (by have := h.bl hb hyd; omega) (h.cb ha hb hmt hyd)
            have q2 : G89 ((be.getD t []).getD y [], th (M2 be b y) (M2 be a y)) = some (decide (M2 be t y = th (M2 be b y) (M2 be a y))) := p89 (x := M2 be t y) (by have := h.bl ht hyd; omega)
            simp only [et', e0, decide_true, cond_true, in_cast ht', in_cast ha', in_cast hb', in_cast yt, in_cast ya, in_cast yb, and_self, if_true, Int.toNat_natCast, q1, q2, Option.bind_some, Bool.not_true, Bool.false_or]
            rw [et, Int.toNat_natCast]
            cases decide (M2 be t y = th (M2 be b y) (M2 be a y)) with
            | true => exact inn1_t rfl
            | false => exact inn1_f ⟨_, rfl, _, rfl, _, rfl, rfl⟩
        · have e : decide (ar c < c.2.1.length) = false := decide_eq_false (Nat.lt_irrefl _)
          simp only [lt_cast, e, cond_false]
        · show (if 6 = 6 then _ else none) = _
          rw [if_pos rfl, wrap_sm (by omega) (by omega)]; rfl
      · have e : decide (ar c < c.2.1.length) = false := decide_eq_false (Nat.lt_irrefl _)
        simp only [lt_cast, e, cond_false]
      · show (if 4 = 4 then _ else none) = _
        rw [if_pos rfl, wrap_sm (by omega) (by omega)]; rfl
  · simp only [lt_self, cond_false]
  show (if 0 = 0 then _ else none) = _
  rw [if_pos rfl, Bool.true_and]
  refine chkT (n := n) (p := fun x => (List.range (ar d)).all fun a => (List.range (ar d)).all (coH d bh x a)) (bad := badB) (id := 8) (Post := fun b (o : Option Bool) => o = some (b && (List.range (ar c)).all fun a => (List.range (ar d)).all (crC c d be bh a))) (fun x hx => ?_) ?_ ?_ (fun r hr => by rw [hr]; rfl)
  · have hxc : (x : Int) < c.1 := by omega
    simp only [lt_cast, hx, decide_true, cond_true]
    refine chkL (n := ar d) (p := fun a => (List.range (ar d)).all (coH d bh x a)) (bad := badB) (id := 10) (s := ((x + 1 : Nat) : Int)) (fun a ha => ?_) ?_ ?_
    · have ha2 : a < d.2.1.length := ha
      simp only [lt_cast, ha2, decide_true, cond_true]
      refine chkL (n := ar d) (p := coH d bh x a) (bad := lift badB) (id := 12) (s := ((a + 1 : Nat) : Int)) (fun b hb => ?_) ?_ ?_
      · have hb2 : b < d.2.1.length := hb
        have r1 : a < d.2.2.2.2.length := by omega
        have r2 : b < (d.2.2.2.2.getD a []).length := by
          have := h.hd.row a ha
          omega
        simp only [lt_cast, hb2, decide_true, cond_true, in_cast r1, in_cast r2, and_self, if_true, Int.toNat_natCast]
        rw [wrap_sm (by omega) (by omega)]
        unfold coH
        cases hmt : mt d a b with
        | false =>
          have e : (d.2.2.2.2.getD a []).getD b 0 = -1 := h.hd.neg a b ha hb hmt
          have e0 : decide (0 ≤ (d.2.2.2.2.getD a []).getD b 0) = false := decide_eq_false (by omega)
          refine inn1_t ?_
          simp only [e0, cond_false, Option.bind_some]
          rfl
        | true =>
          obtain ⟨t1, t2, _⟩ := h.hd.pos a b ha hb hmt
          obtain ⟨t, et⟩ : ∃ t : Nat, T d a b = (t : Int) := ⟨(T d a b).toNat, by omega⟩
          have et' : (d.2.2.2.2.getD a []).getD b 0 = (t : Int) := et
          have ht : t < ar d := by show t < d.2.1.length; omega
          have e0 : decide ((0 : Int) ≤ (t : Int)) = true := decide_eq_true (by omega)
          have yt : x < (bh.getD t []).length := by have := h.hr t ht; omega
          have ya : x < (bh.getD a []).length := by have := h.hr a ha; omega
          have yb : x < (bh.getD b []).length := by have := h.hr b hb; omega
          have ht' : t < bh.length := by omega
          have ha' : a < bh.length := by omega
          have hb' : b < bh.length := by omega
          have q1 : G156 ((bh.getD a []).getD x [], (bh.getD b []).getD x []) = some (th (M2 bh a x) (M2 bh b x)) := p156 (f := M2 bh a x) (g := M2 bh b x) (by have := h.hl ha hxc; omega) (h.ch ha hb hmt hxc)
          have q2 : G89 ((bh.getD t []).getD x [], th (M2 bh a x) (M2 bh b x)) = some (decide (M2 bh t x = th (M2 bh a x) (M2 bh b x))) := p89 (x := M2 bh t x) (by have := h.hl ht hxc; omega)
          simp only [et', e0, decide_true, cond_true, in_cast ht', in_cast ha', in_cast hb', in_cast yt, in_cast ya, in_cast yb, and_self, if_true, Int.toNat_natCast, q1, q2, Option.bind_some, Bool.not_true, Bool.false_or]
          rw [et, Int.toNat_natCast]
          cases decide (M2 bh t x = th (M2 bh a x) (M2 bh b x)) with
          | true => exact inn1_t rfl
          | false => exact inn1_f ⟨_, rfl, _, rfl, _, rfl, rfl⟩
      · have e : decide (ar d < d.2.1.length) = false := decide_eq_false (Nat.lt_irrefl _)
        simp only [lt_cast, e, cond_false]
      · show (if 12 = 12 then _ else none) = _
        rw [if_pos rfl, wrap_sm (by omega) (by omega)]; rfl
    · have e : decide (ar d < d.2.1.length) = false := decide_eq_false (Nat.lt_irrefl _)
      simp only [lt_cast, e, cond_false]
    · show (if 10 = 10 then _ else none) = _
      rw [if_pos rfl, wrap_sm (by omega) (by omega)]; rfl
  · simp only [lt_self, cond_false]
  show (if 8 = 8 then _ else none) = _
  rw [if_pos rfl, Bool.true_and]
  refine chkT (n := ar c) (p := fun a => (List.range (ar d)).all (crC c d be bh a)) (bad := badB) (id := 14) (Post := fun b (o : Option Bool) => o = some b) (fun a ha => ?_) ?_ rfl (fun r hr => by rw [hr])
  · have ha2 : a < c.2.1.length := ha
    have ha3 : a < c.2.2.1.length := by omega
    simp only [lt_cast, ha2, decide_true, cond_true]
    refine chkL (n := ar d) (p := crC c d be bh a) (bad := badB) (id := 16) (s := ((a + 1 : Nat) : Int)) (fun b hb => ?_) ?_ ?_
    · have hb2 : b < d.2.1.length := hb
      have hb3 : b < d.2.2.1.length := by omega
      obtain ⟨f1, f2⟩ := h.hc.fr a ha
      obtain ⟨t1, t2⟩ := h.hc.to a ha
      obtain ⟨g1, g2⟩ := h.hd.fr b hb
      obtain ⟨u1, u2⟩ := h.hd.to b hb
      obtain ⟨f, ef⟩ : ∃ n : Nat, c.2.1.getD a 0 = (n : Int) := ⟨(c.2.1.getD a 0).toNat, by omega⟩
      obtain ⟨t, et⟩ : ∃ n : Nat, c.2.2.1.getD a 0 = (n : Int) := ⟨(c.2.2.1.getD a 0).toNat, by omega⟩
      obtain ⟨f', ef'⟩ : ∃ n : Nat, d.2.1.getD b 0 = (n : Int) := ⟨(d.2.1.getD b 0).toNat, by omega⟩
      obtain ⟨t', et'⟩ : ∃ n : Nat, d.2.2.1.getD b 0 = (n : Int) := ⟨(d.2.2.1.getD b 0).toNat, by omega⟩
      have ha' : a < be.length := by omega
      have hb' : b < bh.length := by omega
      have i1 : f' < (be.getD a []).length := by have := h.br a ha; omega
      have i2 : t' < (be.getD a []).length := by have := h.br a ha; omega
      have i3 : f < (bh.getD b []).length := by have := h.hr b hb; omega
      have i4 : t < (bh.getD b []).length := by have := h.hr b hb; omega
      have w1 := h.bl ha (y := f') (by omega)
      have w2 := h.hl hb (x := t) (by omega)
      have q1 : G156 ((be.getD a []).getD f' [], (bh.getD b []).getD f []) = some (th (M2 be a f') (M2 bh b f)) := p156 (f := M2 be a f') (g := M2 bh b f) (by omega) (h.x1 ha hb ef ef')
      have q2 : G156 ((bh.getD b []).getD t [], (be.getD a []).getD t' []) = some (th (M2 bh b t) (M2 be a t')) := p156 (f := M2 bh b t) (g := M2 be a t') (by omega) (h.x2 ha hb et et')
      have q3 := p89 (x := th (M2 be a f') (M2 bh b f)) (y := th (M2 bh b t) (M2 be a t')) (by rw [th_len]; omega)
      simp only [lt_cast, hb2, decide_true, cond_true, in_cast ha', in_cast hb2, in_cast hb3, in_cast ha2, in_cast ha3, ef, et, ef', et', in_cast hb', in_cast i1, in_cast i2, in_cast i3, in_cast i4, and_self, if_true, Int.toNat_natCast, q1, q2, q3, Option.bind_some]
      rw [wrap_sm (by omega) (by omega)]
      unfold crC fT tT
      rw [ef, et, ef', et']
      cases decide (th (M2 be a f') (M2 bh b f) = th (M2 bh b t) (M2 be a t')) with
      | true => exact inn1_t rfl
      | false => exact inn1_bad rfl rfl
    · have e : decide (ar d < d.2.1.length) = false := decide_eq_false (Nat.lt_irrefl _)
      simp only [lt_cast, e, cond_false]
    · show (if 16 = 16 then _ else none) = _
      rw [if_pos rfl, wrap_sm (by omega) (by omega)]; rfl
  · have e : decide (ar c < c.2.1.length) = false := decide_eq_false (Nat.lt_irrefl _)
    simp only [lt_cast, e, cond_false]
end
end Go.Ve.D


namespace Go.Ve.D
open Go Go.Ve
noncomputable section

theorem p102 {c d : Cat} {s : List (List Int)} {be bh : List (List (List Int))} (hcc : isCat c = true) (hdd : isCat d = true) (h : MP c d s be bh) : G102 (mkP c d s be bh) = some (actsB c d be bh) := by
  obtain ⟨a1, a2, a3, a4, a5, a6, a7, a8⟩ := h.hc.hd
  obtain ⟨b1, b2, b3, b4, b5, b6, b7, b8⟩ := h.hd.hd
  have hm : ar c ≤ 40 := a2
  have hm' : ar d ≤ 40 := b2
  obtain ⟨n, hn⟩ : ∃ n : Nat, c.1 = (n : Int) := ⟨c.1.toNat, by omega⟩
  obtain ⟨m, hmm⟩ : ∃ m : Nat, d.1 = (m : Int) := ⟨d.1.toNat, by omega⟩
  have l2 : be.length = ar c := h.sz.l2
  have l3 : bh.length = ar d := h.sz.l3
  have c5 : c.2.2.2.2.length = ar c := a6
  have d5 : d.2.2.2.2.length = ar d := b6
  unfold G102 mkP actsB
  simp only [hn, hmm, Int.toNat_natCast]
  refine chkT (n := m) (p := lawY c d be bh) (bad := badB) (id := 0) (Post := fun b (o : Option Bool) => o = some (b && (List.range n).all fun x => (List.range (ar d)).all fun a => (List.range (ar d)).all (coH d bh x a))) (fun y hy => ?_) ?_ ?_ (fun r hr => by rw [hr]; rfl)
  · have hyd : (y : Int) < d.1 := by omega
    unfold lawY
    rw [hn, Int.toNat_natCast]
    simp only [lt_cast, hy, decide_true, cond_true]
    refine chkN (n := n) (p := idC c d be bh y) (q := (List.range (ar c)).all fun a => (List.range (ar c)).all (coC c be y a)) (id := 2) (s := ((y + 1 : Nat) : Int)) (fun x hx => ?_) ?_ ?_
    · have hxc : (x : Int) < c.1 := by omega
      obtain ⟨a, ha, ea, e1, e2⟩ := idX h.hc hcc hxc
      obtain ⟨b, hb, eb, e3, e4⟩ := idX h.hd hdd hyd
      have x1 : x < c.2.2.2.1.length := by omega
      have y1 : y < d.2.2.2.1.length := by omega
      have ha' : a < be.length := by omega
      have hb' : b < bh.length := by omega
      have ya : y < (be.getD a []).length := by have := h.br a ha; omega
      have xb : x < (bh.getD b []).length := by have := h.hr b hb; omega
      have xs : x < s.length := by have := h.sz.l1; omega
      have ys : y < (s.getD x []).length := by have := h.sz.row x xs; omega
      obtain ⟨z1, z2⟩ := h.sz.val x xs (y : Int) ⟨by omega, by omega⟩
      obtain ⟨z, ez⟩ : ∃ z : Nat, S2 s x y = (z : Int) := ⟨(S2 s x y).toNat, by omega⟩
      have ez' : (s.getD x []).getD y 0 = (z : Int) := ez
      have w1 : (M2 be a y).length = z := by
        have := (h.bv a ha y hyd).1
        rw [e2, Int.toNat_natCast] at this; omega
      have w2 : (M2 bh b x).length = z := by
        have := (h.hv b hb x hxc).1
        rw [e3] at this; omega
      have q0 := p160 (n := z) (by omega)
      have q1 : G94 ((be.getD a []).getD y [], nums z) = some (calm (M2 be a y)) := by
        rw [← calm_eq w1]
        exact p94 (x := M2 be a y) (by omega) (by rw [nums_len]; omega)
      have q2 : G94 ((bh.getD b []).getD x [], nums z) = some (calm (M2 bh b x)) := by
        rw [← calm_eq w2]
        exact p94 (x := M2 bh b x) (by omega) (by rw [nums_len]; omega)
      simp only [lt_cast, x1, decide_true, cond_true, in_cast x1, ea, in_cast ha', in_cast ya, in_cast xs, in_cast ys, ez', q0, q1, Option.bind_some, in_cast y1, eb, in_cast hb', in_cast xb, q2, and_self, if_true, Int.toNat_natCast]
      rw [wrap_sm (by omega) (by omega)]
      unfold idC idA
      rw [ea, eb, Int.toNat_natCast, Int.toNat_natCast]
      cases calm (M2 be a y) with
      | false => exact inn1_bad rfl rfl
      | true => cases calm (M2 bh b x) with
        | false => exact inn1_bad rfl rfl
        | true => exact inn1_t rfl
    · have e : decide ((n : Int) < ((c.2.2.2.1.length : Nat) : Int)) = false := decide_eq_false (by omega)
      simp only [e, cond_false]
    · show inn1 _ _ _ (if 2 = 2 then _ else none)
      rw [if_pos rfl]
      refine chkL (n := ar c) (p := fun a => (List.range (ar c)).all (coC c be y a)) (bad := badB) (id := 4) (s := ((y + 1 : Nat) : Int)) (fun a ha => ?_) ?_ ?_
      · have ha2 : a < c.2.2.2.2.length := by omega
        have er : (c.2.2.2.2.getD a []).length = ar c := h.hc.row a ha
        simp only [lt_cast, ha2, decide_true, cond_true, in_cast ha2, and_self, if_true, Int.toNat_natCast, er]
        refine chkL (n := ar c) (p := coC c be y a) (bad := lift badB) (id := 6) (s := ((a + 1 : Nat) : Int)) (fun b hb => ?_) ?_ ?_
        · simp only [lt_cast, hb, decide_true, cond_true, in_cast hb, and_self, if_true, Int.toNat_natCast]
          rw [wrap_sm (by omega) (by omega)]
          unfold coC
          cases hmt : mt c a b with
          | false =>
            have e : (c.2.2.2.2.getD a []).getD b 0 = -1 := h.hc.neg a b ha hb hmt
            have e0 : decide (0 ≤ (c.2.2.2.2.getD a []).getD b 0) = false := decide_eq_false (by omega)
            refine inn1_t ?_
            simp only [e0, cond_false, Option.bind_some]
            rfl
          | true =>
            obtain ⟨t1, t2, _⟩ := h.hc.pos a b ha hb hmt
            obtain ⟨t, et⟩ : ∃ t : Nat, T c a b = (t : Int) := ⟨(T c a b).toNat, by omega⟩
            have et' : (c.2.2.2.2.getD a []).getD b 0 = (t : Int) := et
            have ht : t < ar c := by show t < c.2.1.length; omega
            have e0 : decide ((0 : Int) ≤ (t : Int)) = true := decide_eq_true (by omega)
            have yt : y < (be.getD t []).length := by have := h.br t ht; omega
            have ya : y < (be.getD a []).length := by have := h.br a ha; omega
            have yb : y < (be.getD b []).length := by have := h.br b hb; omega
            have ht' : t < be.length := by omega
            have ha' : a < be.length := by omega
            have hb' : b < be.length := by omega
            have q1 : G103 ((be.getD b []).getD y [], (be.getD a []).getD y []) = some (th (M2 be b y) (M2 be a y)) := p103 (f := M2 be b y) (g := M2 be a y) (by have := h.bl hb hyd; omega) (h.cb ha hb hmt hyd)
            have q2 : G94 ((be.getD t []).getD y [], th (M2 be b y) (M2 be a y)) = some (decide (M2 be t y = th (M2 be b y) (M2 be a y))) := p94 (x := M2 be t y) (by have := h.bl ht hyd; omega) (by rw [th_len]; have := h.bl hb hyd; omega)
            simp only [et', e0, decide_true, cond_true, in_cast ht', in_cast ha', in_cast hb', in_cast yt, in_cast ya, in_cast yb, and_self, if_true, Int.toNat_natCast, q1, q2, Option.bind_some, Bool.not_true, Bool.false_or]
            rw [et, Int.toNat_natCast]
            cases decide (M2 be t y = th (M2 be b y) (M2 be a y)) with
            | true => exact inn1_t rfl
            | false => exact inn1_f ⟨_, rfl, _, rfl, _, rfl, rfl⟩
        · simp only [lt_self, cond_false]
        · show (if 6 = 6 then _ else none) = _
          rw [if_pos rfl, wrap_sm (by omega) (by omega)]; rfl
      · have e : decide (ar c < c.2.2.2.2.length) = false := decide_eq_false (by omega)
        simp only [lt_cast, e, cond_false]
      · show (if 4 = 4 then _ else none) = _
        rw [if_pos rfl, wrap_sm (by omega) (by omega)]; rfl
  · simp only [lt_self, cond_false]
  show (if 0 = 0 then _ else none) = _
  rw [if_pos rfl, Bool.true_and]
  refine chkT (n := n) (p := fun x => (List.range (ar d)).all fun a => (List.range (ar d)).all (coH d bh x a)) (bad := badB) (id := 8) (Post := fun b (o : Option Bool) => o = some b) (fun x hx => ?_) ?_ rfl (fun r hr => by rw [hr])
  · have hxc : (x : Int) < c.1 := by omega
    simp only [lt_cast, hx, decide_true, cond_true]
    refine chkL (n := ar d) (p := fun a => (List.range (ar d)).all (coH d bh x a)) (bad := badB) (id := 10) (s := ((x + 1 : Nat) : Int)) (fun a ha => ?_) ?_ ?_
    · have ha2 : a < d.2.2.2.2.length := by omega
      have er : (d.2.2.2.2.getD a []).length = ar d := h.hd.row a ha
      simp only [lt_cast, ha2, decide_true, cond_true, in_cast ha2, and_self, if_true, Int.toNat_natCast, er]
      refine chkL (n := ar d) (p := coH d bh x a) (bad := lift badB) (id := 12) (s := ((a + 1 : Nat) : Int)) (fun b hb => ?_) ?_ ?_
      · simp only [lt_cast, hb, decide_true, cond_true, in_cast hb, and_self, if_true, Int.toNat_natCast]
        rw [wrap_sm (by omega) (by omega)]
        unfold coH
        cases hmt : mt d a b with
        | false =>
          have e : (d.2.2.2.2.getD a []).getD b 0 = -1 := h.hd.neg a b ha hb hmt
          have e0 : decide (0 ≤ (d.2.2.2.2.getD a []).getD b 0) = false := decide_eq_false (by omega)
          refine inn1_t ?_
          simp only [e0, cond_false, Option.bind_some]
          rfl
        | true =>
          obtain ⟨t1, t2, _⟩ := h.hd.pos a b ha hb hmt
          obtain ⟨t, et⟩ : ∃ t : Nat, T d a b = (t : Int) := ⟨(T d a b).toNat, by omega⟩
          have et' : (d.2.2.2.2.getD a []).getD b 0 = (t : Int) := et
          have ht : t < ar d := by show t < d.2.1.length; omega
          have e0 : decide ((0 : Int) ≤ (t : Int)) = true := decide_eq_true (by omega)
          have yt : x < (bh.getD t []).length := by have := h.hr t ht; omega
          have ya : x < (bh.getD a []).length := by have := h.hr a ha; omega
          have yb : x < (bh.getD b []).length := by have := h.hr b hb; omega
          have ht' : t < bh.length := by omega
          have ha' : a < bh.length := by omega
          have hb' : b < bh.length := by omega
          have q1 : G103 ((bh.getD a []).getD x [], (bh.getD b []).getD x []) = some (th (M2 bh a x) (M2 bh b x)) := p103 (f := M2 bh a x) (g := M2 bh b x) (by have := h.hl ha hxc; omega) (h.ch ha hb hmt hxc)
          have q2 : G94 ((bh.getD t []).getD x [], th (M2 bh a x) (M2 bh b x)) = some (decide (M2 bh t x = th (M2 bh a x) (M2 bh b x))) := p94 (x := M2 bh t x) (by have := h.hl ht hxc; omega) (by rw [th_len]; have := h.hl ha hxc; omega)
          simp only [et', e0, decide_true, cond_true, in_cast ht', in_cast ha', in_cast hb', in_cast yt, in_cast ya, in_cast yb, and_self, if_true, Int.toNat_natCast, q1, q2, Option.bind_some, Bool.not_true, Bool.false_or]
          rw [et, Int.toNat_natCast]
          cases decide (M2 bh t x = th (M2 bh a x) (M2 bh b x)) with
          | true => exact inn1_t rfl
          | false => exact inn1_f ⟨_, rfl, _, rfl, _, rfl, rfl⟩
      · simp only [lt_self, cond_false]
      · show (if 12 = 12 then _ else none) = _
        rw [if_pos rfl, wrap_sm (by omega) (by omega)]; rfl
    · have e : decide (ar d < d.2.2.2.2.length) = false := decide_eq_false (by omega)
      simp only [lt_cast, e, cond_false]
    · show (if 10 = 10 then _ else none) = _
      rw [if_pos rfl, wrap_sm (by omega) (by omega)]; rfl
  · simp only [lt_self, cond_false]
def isPro (c d : Cat) (s : List (List Int)) (be bh : List (List (List Int))) : Bool := pshape c d s be bh && lawP c d be bh
theorem ps_cat {c d : Cat} {s : List (List Int)} {be bh : List (List (List Int))} (h : pshape c d s be bh = true) : isCat c = true ∧ isCat d = true := by
  unfold pshape at h
  rw [Bool.and_eq_true, Bool.and_eq_true] at h
  exact h.1
theorem p61 {c d : Cat} {s : List (List Int)} {be bh : List (List (List Int))} (ok : okP c d s be bh) : G61 (mkP c d s be bh) = some (isPro c d s be bh) := by
  unfold G61 isPro lawP
  simp only [p101 ok, Option.bind_some]
  cases hps : pshape c d s be bh with
  | false => rfl
  | true =>
  obtain ⟨hcc, hdd⟩ := ps_cat hps
  have h := mp_of hps
  simp only [p102 hcc hdd h, Option.bind_some, Bool.not_true, cond_false, Bool.true_and]
  cases actsB c d be bh with
  | false => rfl
  | true =>
  simp only [Bool.not_true, cond_false, Bool.true_and]
  unfold mkP
  simp only
  obtain ⟨a1, a2, a3, a4, a5, a6, a7, a8⟩ := h.hc.hd
  obtain ⟨b1, b2, b3, b4, b5, b6, b7, b8⟩ := h.hd.hd
  have hm : ar c ≤ 40 := a2
  have hm' : ar d ≤ 40 := b2
  have l2 : be.length = ar c := h.sz.l2
  have l3 : bh.length = ar d := h.sz.l3
  refine chkT (n := ar c) (p := fun a => (List.range (ar d)).all (crC c d be bh a)) (bad := badB) (id := 0) (Post := fun b (o : Option Bool) => o = some b) (fun a ha => ?_) ?_ rfl (fun r hr => by rw [hr])
  · have ha2 : a < c.2.1.length := ha
    have ha3 : a < c.2.2.1.length := by omega
    have ha' : a < be.length := by omega
    simp only [lt_cast, ha', decide_true, cond_true]
    refine chkL (n := ar d) (p := crC c d be bh a) (bad := badB) (id := 2) (s := ((a + 1 : Nat) : Int)) (fun b hb => ?_) ?_ ?_
    · have hb2 : b < d.2.1.length := hb
      have hb3 : b < d.2.2.1.length := by omega
      obtain ⟨f1, f2⟩ := h.hc.fr a ha
      obtain ⟨t1, t2⟩ := h.hc.to a ha
      obtain ⟨g1, g2⟩ := h.hd.fr b hb
      obtain ⟨u1, u2⟩ := h.hd.to b hb
      obtain ⟨f, ef⟩ : ∃ n : Nat, c.2.1.getD a 0 = (n : Int) := ⟨(c.2.1.getD a 0).toNat, by omega⟩
      obtain ⟨t, et⟩ : ∃ n : Nat, c.2.2.1.getD a 0 = (n : Int) := ⟨(c.2.2.1.getD a 0).toNat, by omega⟩
      obtain ⟨f', ef'⟩ : ∃ n : Nat, d.2.1.getD b 0 = (n : Int) := ⟨(d.2.1.getD b 0).toNat, by omega⟩
      obtain ⟨t', et'⟩ : ∃ n : Nat, d.2.2.1.getD b 0 = (n : Int) := ⟨(d.2.2.1.getD b 0).toNat, by omega⟩
      have hb' : b < bh.length := by omega
      have i1 : f' < (be.getD a []).length := by have := h.br a ha; omega
      have i2 : t' < (be.getD a []).length := by have := h.br a ha; omega
      have i3 : f < (bh.getD b []).length := by have := h.hr b hb; omega
      have i4 : t < (bh.getD b []).length := by have := h.hr b hb; omega
      have w1 := h.bl ha (y := f') (by omega)
      have w2 := h.hl hb (x := t) (by omega)
      have q1 : G103 ((be.getD a []).getD f' [], (bh.getD b []).getD f []) = some (th (M2 be a f') (M2 bh b f)) := p103 (f := M2 be a f') (g := M2 bh b f) (by omega) (h.x1 ha hb ef ef')
      have q2 : G103 ((bh.getD b []).getD t [], (be.getD a []).getD t' []) = some (th (M2 bh b t) (M2 be a t')) := p103 (f := M2 bh b t) (g := M2 be a t') (by omega) (h.x2 ha hb et et')
      have q3 := p94 (x := th (M2 be a f') (M2 bh b f)) (y := th (M2 bh b t) (M2 be a t')) (by rw [th_len]; omega) (by rw [th_len]; omega)
      simp only [lt_cast, hb', decide_true, cond_true, in_cast ha', in_cast hb2, in_cast hb3, in_cast ha2, in_cast ha3, ef, et, ef', et', in_cast hb', in_cast i1, in_cast i2, in_cast i3, in_cast i4, and_self, if_true, Int.toNat_natCast, q1, q2, q3, Option.bind_some]
      rw [wrap_sm (by omega) (by omega)]
      unfold crC fT tT
      rw [ef, et, ef', et']
      cases decide (th (M2 be a f') (M2 bh b f) = th (M2 bh b t) (M2 be a t')) with
      | true => exact inn1_t rfl
      | false => exact inn1_bad rfl rfl
    · have e : decide (ar d < bh.length) = false := decide_eq_false (by omega)
      simp only [lt_cast, e, cond_false]
    · show (if 2 = 2 then _ else none) = _
      rw [if_pos rfl, wrap_sm (by omega) (by omega)]; rfl
  · have e : decide (ar c < be.length) = false := decide_eq_false (by omega)
    simp only [lt_cast, e, cond_false]
theorem p57 {c d : Cat} {s : List (List Int)} {be bh : List (List (List Int))} (ok : okP c d s be bh) : G57 (mkP c d s be bh) = some (isPro c d s be bh) := by
  have ok' := ok
  obtain ⟨oc, od, ⟨k1, k2⟩, _, _⟩ := ok'
  have e97 := p97 (c := c) (d := d) (be := be) (bh := bh) k1 k2
  unfold mkP at e97
  unfold G57 isPro pshape mkP
  simp only [Prod.eta, p96 oc, p96 od, e97, Option.bind_some]
  cases hc : isCat c with
  | false => rfl
  | true =>
  cases hd : isCat d with
  | false => rfl
  | true =>
  simp only [cond_true, Option.bind_some, Bool.true_and]
  cases hs : sized c d s be bh with
  | false => rfl
  | true =>
  have e98 := p98 (isCat_sh hc) (isCat_sh hd) ok (sz_of hs)
  unfold mkP at e98
  simp only [cond_true, e98, Option.bind_some, Bool.true_and]
  cases hm : mapsB c d s be bh with
  | false => rfl
  | true =>
  have h : MP c d s be bh := mp_of (by unfold pshape; rw [hc, hd, hs, hm]; rfl)
  have e99 := p99 hc hd h
  unfold mkP at e99
  simp only [cond_true, e99, Option.bind_some, Bool.true_and]
end
end Go.Ve.D

