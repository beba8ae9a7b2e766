/- Profunctors: universal elements. -/
import Derived.Test.YtcdekmccongjgaaOca
namespace Go.Ve.D
open Go Go.Ve
noncomputable section

/-! Loops. -/
/-- a loop that stops before its end, one way or another -/
theorem tloop_stop {X R : Type} {f : X → Option (LO X R)} {st : Nat → X} {n : Nat} {p : Nat → Bool} {Q : LO X R → Prop} {o : LO X R}
    (h1 : ∀ i, i < n → (p i = true → f (st i) = some (.next (st (i + 1)))) ∧ (p i = false → ∃ r, f (st i) = some r ∧ (∀ y, r ≠ .next y) ∧ Q r)) (h2 : f (st n) = some o) (ho : ∀ y, o ≠ .next y) :
    ((List.range n).all p = true → tloop f (st 0) = some o) ∧ ((List.range n).all p = false → ∃ r, tloop f (st 0) = some r ∧ Q r) := by
  have fin : ∀ x o, f x = some o → (∀ y, o ≠ .next y) → tloop f x = some o := by
    intro x o h ho
    rw [tloop_eq, h]
    cases o with
    | next y => exact absurd rfl (ho y)
    | brk id y => rfl
    | ret r => rfl
  have key : ∀ k i, i + k = n → ((List.range' i k).all p = true → tloop f (st i) = some o) ∧ ((List.range' i k).all p = false → ∃ r, tloop f (st i) = some r ∧ Q r) := by
    intro k
    induction k with
    | zero =>
      intro i hi
      obtain rfl : i = n := by omega
      exact ⟨fun _ => fin _ _ h2 ho, (fun h => by cases h)⟩
    | succ k ih =>
      intro i hi
      rw [List.range'_succ, List.all_cons]
      obtain ⟨g1, g2⟩ := h1 i (by omega)
      cases hp : p i with
      | true =>
        rw [Bool.true_and]
        have e : tloop f (st i) = tloop f (st (i + 1)) := by rw [tloop_eq, g1 hp]; rfl
        rw [e]
        exact ih (i + 1) (by omega)
      | false =>
        refine ⟨(fun h => by cases h), fun _ => ?_⟩
        obtain ⟨r, hr, hn, hq⟩ := g2 hp
        exact ⟨r, fin _ _ hr hn, hq⟩
  rw [List.range_eq_range']
  exact key n 0 (by omega)
def fLO {R R' : Type} (g : R → R') (id n : Nat) : Option R → LO Int R'
  | some r => .ret (g r)
  | none => .brk id (n : Int)
/-- a loop that looks for something, and hands it back -/
theorem tloop_find {R R' : Type} {f : Int → Option (LO Int R')} {n : Nat} {q : Nat → Option R} (g : R → R') {id : Nat}
    (h1 : ∀ i, i < n → (q i = none → f (i : Int) = some (.next ((i + 1 : Nat) : Int))) ∧ (∀ r, q i = some r → f (i : Int) = some (.ret (g r)))) (h2 : f (n : Int) = some (.brk id (n : Int))) :
    tloop f (0 : Int) = some (fLO g id n ((List.range n).findSome? q)) := by
  have key : ∀ k i, i + k = n → tloop f (i : Int) = some (fLO g id n ((List.range' i k).findSome? q)) := by
    intro k
    induction k with
    | zero =>
      intro i hi
      obtain rfl : i = n := by omega
      rw [tloop_eq, h2]; rfl
    | succ k ih =>
      intro i hi
      rw [List.range'_succ, List.findSome?_cons]
      obtain ⟨g1, g2⟩ := h1 i (by omega)
      cases hq : q i with
      | none =>
        have e : tloop f (i : Int) = tloop f ((i + 1 : Nat) : Int) := by rw [tloop_eq, g1 hq]; rfl
        rw [e]
        exact ih (i + 1) (by omega)
      | some r => rw [tloop_eq, g2 r hq]; rfl
  rw [List.range_eq_range']
  exact key n 0 (by omega)
/-- a loop that is left in its first turn -/
theorem scope {A : Type} {F : Nat × Unit → Option (LO (Nat × Unit) A)} {X : A} (h : F (0, ()) = some (.ret X)) : Option.bind (tloop F (0, ())) LO.fin1 = some X := by
  rw [tloop_eq, h]; rfl

/-! Arrows between two objects. -/
theorem p108 {c : Cat} (hm : c.2.1.length ≤ 1048576) (ht : c.2.2.1.length = c.2.1.length) (x y : Int) : G108 (c, (x, y)) = some (homL c x y) := by
  obtain ⟨c1, c2, c3, c4, c5⟩ := c
  unfold G108
  simp only at hm ht ⊢
  refine bind_of (v := .brk 0 ((c2.length : Int), homL (c1, (c2, (c3, (c4, c5)))) x y)) (gather (fun i hi acc ha => ?_) fun acc => ?_) rfl
  · have hi3 : i < c3.length := by omega
    simp only [lt_cast, hi, decide_true, cond_true, in_cast hi, in_cast hi3, if_true, and_self, Int.toNat_natCast, List.length_cons, List.length_nil]
    rw [wrap_sm (by omega) (by omega), if_pos (show acc.length + (0 + 1) ≤ 17592186044416 by omega)]
    show _ = some (LO.next (((i + 1 : Nat) : Int), bif decide (c2.getD i 0 = x) && decide (c3.getD i 0 = y) then acc ++ [(i : Int)] else acc))
    cases decide (c2.getD i 0 = x) <;> cases decide (c3.getD i 0 = y) <;> rfl
  · simp only [lt_cast, Nat.lt_irrefl, decide_false, cond_false]
theorem p69 {c : Cat} (hm : c.2.1.length ≤ 1048576) (ht : c.2.2.1.length = c.2.1.length) (x y : Int) : G69 (c, (x, y)) = some (homL c x y) := p108 hm ht x y
theorem homL_to {c : Cat} {x y : Int} {i : Nat} (hi : i < (homL c x y).length) : ∃ f : Nat, f < ar c ∧ (homL c x y).getD i 0 = (f : Int) ∧ fT c f = x ∧ tT c f = y := by
  have hm : (homL c x y).getD i 0 ∈ homL c x y := getD_mem' 0 hi
  obtain ⟨f, hf, e⟩ := List.mem_map.1 hm
  obtain ⟨g1, g2⟩ := List.mem_filter.1 hf
  rw [Bool.and_eq_true, decide_eq_true_eq, decide_eq_true_eq] at g2
  exact ⟨f, List.mem_range.1 g1, e.symm, g2⟩

/-! Bijective maps. -/
def img (n : Nat) (f : List Int) : List Int := ((List.range n).filter fun (y : Nat) => f.contains (y : Int)).map fun (y : Nat) => (y : Int)
def bij (n : Int) (f : List Int) : Bool := decide ((f.length : Int) = n) && decide (((img n.toNat f).length : Int) = n)
theorem p180 {n : Nat} (hn : n ≤ 1048576) {f : List Int} (hf : f.length ≤ 1048576) : G180 ((n : Int), f) = some (img n f) := by
  unfold G180
  refine bind_of (v := .brk 0 ((n : Int), img n f)) (gather (fun i hi acc ha => ?_) fun acc => ?_) rfl
  · simp only [lt_cast, hi, decide_true, cond_true, p131 hf, Option.bind_some, List.length_cons, List.length_nil]
    rw [wrap_sm (by omega) (by omega), if_pos (show acc.length + (0 + 1) ≤ 17592186044416 by omega)]
    cases f.contains (i : Int) <;> rfl
  · simp only [lt_self, cond_false]
theorem p157 {n : Nat} (hn : n ≤ 1048576) {f : List Int} (hf : f.length ≤ 1048576) : G157 ((n : Int), f) = some (bij n f) := by
  unfold G157 bij
  simp only [p180 hn hf, Option.bind_some, Int.toNat_natCast]
  cases hl : decide ((f.length : Int) = (n : Int)) with
  | false => rfl
  | true =>
    rw [of_decide_eq_true hl]; rfl
def mkN (n : Nat) (w : List Int) : List Bool := (List.range n).map fun (f : Nat) => w.contains (f : Int)
theorem p181 {n : Nat} (hn : n ≤ 1048576) {f : List Int} : G181 (mkN n f) = some (img n f) := by
  unfold G181
  have hl : (mkN n f).length = n := by simp [mkN]
  refine bind_of (v := .brk 0 ((n : Int), img n f)) (gather (fun i hi acc ha => ?_) fun acc => ?_) rfl
  · have hg : (mkN n f).getD i false = f.contains (i : Int) := by simp [mkN, hi]
    simp only [hl, lt_cast, hi, decide_true, cond_true, in_cast hi, and_self, if_true, Int.toNat_natCast, hg, List.length_cons, List.length_nil]
    rw [wrap_sm (by omega) (by omega), if_pos (show acc.length + (0 + 1) ≤ 17592186044416 by omega)]
    cases f.contains (i : Int) <;> rfl
  · simp only [hl, lt_self, cond_false]
theorem p161 {n : Nat} (hn : n ≤ 1048576) {w : List Int} (hw : w.length ≤ 1048576) (hwi : wi n w = true) : G161 ((n : Int), w) = some (img n w) := by
  unfold G161
  simp only
  rw [if_pos ⟨by omega, by omega, by omega, by omega⟩]
  let M : Nat → List Bool := fun i => (List.range n).map fun (f : Nat) => (w.take i).contains (f : Int)
  have hM : ∀ i, (M i).length = n := fun i => by simp [M]
  have e0 : List.replicate ((n : Nat) : Int).toNat false = M 0 := by
    show _ = (List.range n).map fun (f : Nat) => ([] : List Int).contains (f : Int)
    apply List.ext_getElem?
    intro j
    by_cases hj : j < n
    · simp [hj]
    · simp [hj]
  have eN : M w.length = mkN n w := by
    show (List.range n).map _ = _
    rw [List.take_length]; rfl
  show Option.bind (tloop _ ((0 : Int), List.replicate ((n : Nat) : Int).toNat false)) _ = _
  rw [e0]
  refine bind_of (v := .brk 0 ((w.length : Int), M w.length)) (tloop_iter (st := fun i : Nat => ((i : Int), M i)) (n := w.length) (fun i hi => ?_) ?_ (fun y => by simp)) ?_
  · obtain ⟨g1, g2⟩ := wi_get hwi hi
    have g3 : 0 ≤ w.getD i 0 ∧ w.getD i 0 < ((n : Nat) : Int) := ⟨g1, g2⟩
    simp only [lt_cast, hi, decide_true, cond_true, in_cast hi, if_true, and_self, Int.toNat_natCast, hM, g3]
    rw [wrap_sm (by omega) (by omega)]
    have e : (M i).set (w.getD i 0).toNat true = M (i + 1) := by
      apply List.ext_getElem?
      intro j
      have hl : (M i).length = n := hM i
      by_cases hj : j < n
      · have ht : w.take (i + 1) = w.take i ++ [w.getD i 0] := by
          rw [List.take_add_one, List.getD_eq_getElem?_getD, List.getElem?_eq_getElem hi]; rfl
        have e2 : (M (i + 1))[j]? = some ((w.take i ++ [w.getD i 0]).contains (j : Int)) := by
          show ((List.range n).map fun (f : Nat) => (w.take (i + 1)).contains (f : Int))[j]? = _
          rw [ht]; simp [hj]
        have e1 : (M i)[j]? = some ((w.take i).contains (j : Int)) := by
          show ((List.range n).map fun (f : Nat) => (w.take i).contains (f : Int))[j]? = _
          simp [hj]
        rw [e2]
        by_cases hjw : (w.getD i 0).toNat = j
        · have : (j : Int) = w.getD i 0 := by omega
          rw [hjw, List.getElem?_set_self (by rw [hl]; exact hj), this]
          simp
        · have : ¬ (j : Int) = w.getD i 0 := by omega
          rw [List.getElem?_set_ne hjw, e1]
          congr 1
          rw [Bool.eq_iff_iff]
          simp only [List.contains_eq_mem, decide_eq_true_eq, List.mem_append, List.mem_singleton, this, or_false]
      · rw [List.getElem?_eq_none (by rw [List.length_set, hl]; omega), List.getElem?_eq_none (by rw [hM]; omega)]
    rw [e]
    rfl
  · simp only [lt_cast, Nat.lt_irrefl, decide_false, cond_false]
  · show (if 0 = 0 then _ else none) = _
    rw [if_pos rfl, eN]
    simp only [p181 hn, Option.bind_some]
theorem p104 {n : Nat} (hn : n ≤ 1048576) {w : List Int} (hw : w.length ≤ 1048576) (hwi : wi n w = true) : G104 (w, (n : Int)) = some (bij n w) := by
  unfold G104 bij
  simp only [p120 (n := (n : Int)) (x := w) ⟨by omega, by omega⟩ hw, p161 hn hw hwi, hwi, Option.bind_some, Int.toNat_natCast]
  cases decide ((w.length : Int) = (n : Int)) <;> rfl
end
end Go.Ve.D


namespace Go.Ve.D
open Go Go.Ve
noncomputable section

section
variable (d : Cat) (s : List (List Int)) (bh : List (List (List Int))) (x : Nat)
def ims (y e z : Nat) : List Int := (List.range (homL d (y : Int) (z : Int)).length).map fun i => (M2 bh ((homL d (y : Int) (z : Int)).getD i 0).toNat x).getD e 0
def uniC (y e z : Nat) : Bool := bij (S2 s x z) (ims d bh x y e z)
def univ (y e : Nat) : Bool := (List.range d.1.toNat).all (uniC d s bh x y e)
def fnE (y e : Nat) : Option (Int × Int × Bool) := bif univ d s bh x y e then some ((y : Int), ((e : Int), true)) else none
def fnY (y : Nat) : Option (Int × Int × Bool) := (List.range (S2 s x y).toNat).findSome? (fnE d s bh x y)
def fnd : Option (Int × Int × Bool) := (List.range d.1.toNat).findSome? (fnY d s bh x)
def fres : Int × Int × Bool := match fnd d s bh x with | some r => r | none => ((0 : Int), ((0 : Int), false))
end
section
variable {c d : Cat} {s : List (List Int)} {be bh : List (List (List Int))}
theorem ims_len {x y e z : Nat} : (ims d bh x y e z).length ≤ ar d := by
  unfold ims
  rw [List.length_map, List.length_range]
  exact homL_len
theorem MP.el (h : MP c d s be bh) {x y e z i : Nat} (hx : (x : Int) < c.1) (he : (e : Int) < S2 s x y) (hi : i < (homL d (y : Int) (z : Int)).length) : ∃ b : Nat, b < ar d ∧ (homL d (y : Int) (z : Int)).getD i 0 = (b : Int) ∧ e < (M2 bh b x).length ∧ 0 ≤ (M2 bh b x).getD e 0 ∧ (M2 bh b x).getD e 0 < S2 s x z := by
  obtain ⟨b, hb, eb, e1, e2⟩ := homL_to hi
  obtain ⟨g1, g2⟩ := h.hv b hb x hx
  rw [e1] at g1
  rw [e2] at g2
  have hl : e < (M2 bh b x).length := by omega
  obtain ⟨v1, v2⟩ := wi_get g2 hl
  exact ⟨b, hb, eb, hl, v1, v2⟩
theorem MP.iw (h : MP c d s be bh) {x y e z : Nat} (hx : (x : Int) < c.1) (he : (e : Int) < S2 s x y) : wi (S2 s x z) (ims d bh x y e z) = true := by
  unfold wi
  rw [List.all_eq_true]
  intro v hv
  obtain ⟨i, hi, rfl⟩ := List.mem_map.1 hv
  obtain ⟨b, hb, eb, hl, v1, v2⟩ := h.el hx he (List.mem_range.1 hi)
  rw [eb, Int.toNat_natCast]
  exact inn_t v1 v2
theorem MP.ag (h : MP c d s be bh) {x y e z : Nat} (hx : (x : Int) < c.1) (he : (e : Int) < S2 s x y) {R : Type} {id : Nat} {g : Nat → Int × List Int → Option R} {r : R} (hg : g id (((homL d (y : Int) (z : Int)).length : Int), ims d bh x y e z) = some r) :
    Option.bind (tloop (fun (v2 : (Int × (List Int))) => (bif (decide (v2.1 < (((homL d (y : Int) (z : Int)).length : Nat) : Int))) then (if (((0 : Int) ≤ v2.1) ∧ (v2.1 < (((homL d (y : Int) (z : Int)).length : Nat) : Int))) then (if (((0 : Int) ≤ ((homL d (y : Int) (z : Int)).getD (v2.1).toNat (0 : Int))) ∧ (((homL d (y : Int) (z : Int)).getD (v2.1).toNat (0 : Int)) < ((bh.length : Nat) : Int))) then (if (((0 : Int) ≤ (x : Int)) ∧ ((x : Int) < (((bh.getD (((homL d (y : Int) (z : Int)).getD (v2.1).toNat (0 : Int))).toNat ([] : (List (List Int)))).length : Nat) : Int))) then (if (((0 : Int) ≤ (e : Int)) ∧ ((e : Int) < ((((bh.getD (((homL d (y : Int) (z : Int)).getD (v2.1).toNat (0 : Int))).toNat ([] : (List (List Int)))).getD ((x : Int)).toNat ([] : (List Int))).length : Nat) : Int))) then (if ((v2.2.length + ((((bh.getD (((homL d (y : Int) (z : Int)).getD (v2.1).toNat (0 : Int))).toNat ([] : (List (List Int)))).getD ((x : Int)).toNat ([] : (List Int))).getD ((e : Int)).toNat (0 : Int)) :: ([] : (List Int))).length) ≤ 17592186044416) then (some (LO.next ((IntKind.wrap .i64 (v2.1 + (1 : Int))), (v2.2 ++ ((((bh.getD (((homL d (y : Int) (z : Int)).getD (v2.1).toNat (0 : Int))).toNat ([] : (List (List Int)))).getD ((x : Int)).toNat ([] : (List Int))).getD ((e : Int)).toNat (0 : Int)) :: ([] : (List Int))))))) else none) else none) else none) else none) else none) else (some (LO.brk id (v2.1, v2.2))))) ((0 : Int), ([] : (List Int)))) (LO.fin g) = some r := by
  obtain ⟨b1, b2, b3, b4, b5, b6, b7, b8⟩ := h.hd.hd
  have hm' : ar d ≤ 40 := b2
  have l3 : bh.length = ar d := h.sz.l3
  have hll : (homL d (y : Int) (z : Int)).length ≤ ar d := homL_len
  refine bind_of (v := .brk id (((homL d (y : Int) (z : Int)).length : Int), ims d bh x y e z)) (gatherM (fun i hi acc ha => ?_) fun acc => ?_) (by exact hg)
  · obtain ⟨b, hb, eb, hl, v1, v2⟩ := h.el hx he hi
    have hb' : b < bh.length := by omega
    have xb : x < (bh.getD b []).length := by have := h.hr b hb; omega
    have hl' : e < ((bh.getD b []).getD x []).length := hl
    simp only [lt_cast, hi, decide_true, cond_true, in_cast hi, eb, in_cast hb', in_cast xb, in_cast hl', and_self, if_true, Int.toNat_natCast, List.length_cons, List.length_nil]
    rw [wrap_sm (by omega) (by omega), if_pos (show acc.length + (0 + 1) ≤ 17592186044416 by omega)]
    rfl
  · simp only [lt_self, cond_false]
theorem p100 (h : MP c d s be bh) {x y e : Nat} (hx : (x : Int) < c.1) (hy : (y : Int) < d.1) (he : (e : Int) < S2 s x y) : G100 (mkP c d s be bh, ((x : Int), ((y : Int), (e : Int)))) = some (univ d s bh x y e) := by
  obtain ⟨b1, b2, b3, b4, b5, b6, b7, b8⟩ := h.hd.hd
  have hm' : ar d ≤ 40 := b2
  obtain ⟨m, hmm⟩ : ∃ m : Nat, d.1 = (m : Int) := ⟨d.1.toNat, by omega⟩
  have xs : x < s.length := by have := h.sz.l1; omega
  unfold G100 mkP univ
  rw [hmm, Int.toNat_natCast]
  simp only [Prod.eta]
  refine chkT (n := m) (p := uniC d s bh x y e) (bad := badB) (id := 0) (Post := fun b (o : Option Bool) => o = some b) (fun z hz => ?_) ?_ rfl (fun r hr => by rw [hr])
  · have zs : z < (s.getD x []).length := by have := h.sz.row x xs; omega
    obtain ⟨z1, z2⟩ := h.sz.val x xs (z : Int) ⟨by omega, by omega⟩
    obtain ⟨k, ek⟩ : ∃ k : Nat, S2 s x z = (k : Int) := ⟨(S2 s x z).toNat, by omega⟩
    have ek' : (s.getD x []).getD z 0 = (k : Int) := ek
    have hil := ims_len (d := d) (bh := bh) (x := x) (y := y) (e := e) (z := z)
    have q0 : G108 ((((m : Int), (d.2.1, (d.2.2.1, (d.2.2.2.1, d.2.2.2.2)))) : Cat), ((y : Int), (z : Int))) = some (homL d (y : Int) (z : Int)) := by
      rw [← hmm]
      exact p108 (c := d) (by omega) b3 _ _
    have q1 : G157 ((k : Int), ims d bh x y e z) = some (uniC d s bh x y e z) := by
      unfold uniC
      rw [ek]
      exact p157 (by omega) (by omega)
    simp only [lt_cast, hz, decide_true, cond_true, q0, Option.bind_some]
    have key : ∀ r, (bif (!uniC d s bh x y e z) then (retM (some false)) else (some (LO.next (IntKind.wrap .i64 ((z : Int) + (1 : Int)))) : Option (LO Int Bool))) = some r → _ := fun r hr => h.ag hx he (id := 2) (r := r) (R := LO Int Bool) (g := fun i2 (v2 : (Int × (List Int))) => (if i2 = 2 then (if (((0 : Int) ≤ (x : Int)) ∧ ((x : Int) < ((s.length : Nat) : Int))) then (if (((0 : Int) ≤ (z : Int)) ∧ ((z : Int) < (((s.getD ((x : Int)).toNat ([] : (List Int))).length : Nat) : Int))) then (Option.bind (G157 (((s.getD ((x : Int)).toNat ([] : (List Int))).getD ((z : Int)).toNat (0 : Int)), v2.2)) (fun (v3 : Bool) => (bif (!v3) then (retM (some false)) else (some (LO.next (IntKind.wrap .i64 ((z : Int) + (1 : Int)))))))) else none) else none) else none)) (z := z) (by
        simp only [in_cast xs, in_cast zs, Int.toNat_natCast, ek', q1, Option.bind_some, and_self, if_true]
        exact hr)
    cases hu : uniC d s bh x y e z with
    | true =>
      refine inn1_t (key _ ?_)
      rw [hu, wrap_sm (by omega) (by omega)]; rfl
    | false =>
      refine inn1_f ⟨_, key (.ret false) ?_, rfl⟩
      rw [hu]; rfl
  · simp only [lt_self, cond_false]
end
end
end Go.Ve.D


namespace Go.Ve.D
open Go Go.Ve
noncomputable section

section
variable {c d : Cat} {s : List (List Int)} {be bh : List (List (List Int))}
theorem p59 (h : MP c d s be bh) {x : Nat} (hx : (x : Int) < c.1) : G59 (mkP c d s be bh, (x : Int)) = some (fres d s bh x) := by
  obtain ⟨b1, b2, b3, b4, b5, b6, b7, b8⟩ := h.hd.hd
  obtain ⟨m, hmm⟩ : ∃ m : Nat, d.1 = (m : Int) := ⟨d.1.toNat, by omega⟩
  have xs : x < s.length := by have := h.sz.l1; omega
  unfold G59 fres fnd
  have en : d.1.toNat = m := by omega
  rw [en]
  unfold mkP
  simp only
  refine bind_of (v := fLO (fun r => r) 0 m ((List.range m).findSome? (fnY d s bh x))) (tloop_find (id := 0) (fun r => r) (fun y hy => ?_) ?_) ?_
  · have hyd : (y : Int) < d.1 := by omega
    have ys : y < (s.getD x []).length := by have := h.sz.row x xs; omega
    obtain ⟨z1, z2⟩ := h.sz.val x xs (y : Int) ⟨by omega, hyd⟩
    obtain ⟨k, ek⟩ : ∃ k : Nat, S2 s x y = (k : Int) := ⟨(S2 s x y).toNat, by omega⟩
    have ek' : (s.getD x []).getD y 0 = (k : Int) := ek
    unfold fnY
    rw [ek, Int.toNat_natCast]
    simp only [hmm, lt_cast, hy, decide_true, cond_true, in_cast xs, in_cast ys, and_self, if_true, Int.toNat_natCast, ek']
    have key : ∀ (F : Int → Option (LO Int (LO Int (Int × Int × Bool)))), F = (fun (v1 : Int) => (bif (decide (v1 < (k : Int))) then (Option.bind (G100 (mkP c d s be bh, ((x : Int), ((y : Int), v1)))) (fun (v2 : Bool) => (bif v2 then (retM (retM (some ((y : Int), (v1, true))))) else (some (LO.next (IntKind.wrap .i64 (v1 + (1 : Int)))))))) else (some (LO.brk 2 v1)))) →
        tloop F (0 : Int) = some (fLO (fun r => LO.ret r) 2 k ((List.range k).findSome? (fnE d s bh x y))) := by
      rintro F rfl
      refine tloop_find (id := 2) (fun r => LO.ret r) (fun e he => ?_) ?_
      · have q := p100 h hx hyd (e := e) (by omega)
        simp only [lt_cast, he, decide_true, cond_true, q, Option.bind_some]
        rw [wrap_sm (by omega) (by omega)]
        unfold fnE
        cases univ d s bh x y e with
        | true => exact ⟨(fun h => by cases h), fun r hr => by cases hr; rfl⟩
        | false => exact ⟨fun _ => rfl, fun r hr => by cases hr⟩
      · simp only [lt_self, cond_false]
    have ke := key _ rfl
    unfold mkP at ke
    rw [hmm] at ke
    rw [ke]
    cases (List.range k).findSome? (fnE d s bh x y) with
    | some r => exact ⟨(fun h => by cases h), fun r' hr => by cases hr; rfl⟩
    | none =>
      refine ⟨fun _ => ?_, fun r hr => by cases hr⟩
      show (if 2 = 2 then _ else none) = _
      rw [if_pos rfl, wrap_sm (by omega) (by omega)]; rfl
  · rw [hmm]
    simp only [lt_self, cond_false]
  · cases (List.range m).findSome? (fnY d s bh x) with
    | some r => rfl
    | none => rfl
theorem p63 (h : MP c d s be bh) {x : Nat} (hx : (x : Int) < c.1) : G63 (mkP c d s be bh, (x : Int)) = some (fres d s bh x) := by
  obtain ⟨b1, b2, b3, b4, b5, b6, b7, b8⟩ := h.hd.hd
  have hm' : ar d ≤ 40 := b2
  obtain ⟨m, hmm⟩ : ∃ m : Nat, d.1 = (m : Int) := ⟨d.1.toNat, by omega⟩
  have xs : x < s.length := by have := h.sz.l1; omega
  unfold G63 fres fnd
  have en : d.1.toNat = m := by omega
  rw [en]
  unfold mkP
  simp only [Prod.eta]
  refine bind_of (v := fLO (fun r => r) 0 m ((List.range m).findSome? (fnY d s bh x))) (tloop_find (id := 0) (fun r => r) (fun y hy => ?_) ?_) ?_
  · have hyd : (y : Int) < d.1 := by omega
    have ys : y < (s.getD x []).length := by have := h.sz.row x xs; omega
    obtain ⟨z1, z2⟩ := h.sz.val x xs (y : Int) ⟨by omega, hyd⟩
    obtain ⟨k, ek⟩ : ∃ k : Nat, S2 s x y = (k : Int) := ⟨(S2 s x y).toNat, by omega⟩
    have ek' : (s.getD x []).getD y 0 = (k : Int) := ek
    unfold fnY
    rw [ek, Int.toNat_natCast]
    simp only [hmm, lt_cast, hy, decide_true, cond_true]
    have fin : ∀ (A : Option (LO (Nat × Unit) (LO Int (Int × Int × Bool)))), A = some (.ret (match (List.range k).findSome? (fnE d s bh x y) with | some r => .ret r | none => .next ((y + 1 : Nat) : Int))) →
        ∀ F : Nat × Unit → Option (LO (Nat × Unit) (LO Int (Int × Int × Bool))), F (0, ()) = A →
        ((List.range k).findSome? (fnE d s bh x y) = none → Option.bind (tloop F (0, ())) LO.fin1 = some (.next ((y + 1 : Nat) : Int))) ∧ (∀ r, (List.range k).findSome? (fnE d s bh x y) = some r → Option.bind (tloop F (0, ())) LO.fin1 = some (.ret r)) := by
      rintro A rfl F hF
      have := scope hF
      cases hq : (List.range k).findSome? (fnE d s bh x y) with
      | some r => rw [hq] at this; exact ⟨(fun h => by cases h), fun r' hr => by cases hr; exact this⟩
      | none => rw [hq] at this; exact ⟨fun _ => this, fun r hr => by cases hr⟩
    refine fin _ ?_ _ rfl
    rw [if_pos rfl]
    simp only [in_cast xs, in_cast ys, and_self, if_true, Int.toNat_natCast, ek']
    refine bind_of (v := fLO (fun r => LO.ret (LO.ret r)) 2 k ((List.range k).findSome? (fnE d s bh x y))) (tloop_find (id := 2) (fun r => LO.ret (LO.ret r)) (fun e he => ?_) ?_) ?_
    · have hes : (e : Int) < S2 s x y := by omega
      simp only [lt_cast, he, decide_true, cond_true]
      have hz : ∀ (F : Int → Option (LO Int (LO Int (LO (Nat × Unit) (LO Int (Int × Int × Bool)))))) (K : LO Int (LO Int (LO (Nat × Unit) (LO Int (Int × Int × Bool)))) → Option (LO Int (LO (Nat × Unit) (LO Int (Int × Int × Bool))))),
          (∀ z, z < m → F (z : Int) = some (bif uniC d s bh x y e z then .next ((z + 1 : Nat) : Int) else .brk 3 (z : Int))) → F (m : Int) = some (.brk 4 (m : Int)) → K (.brk 4 (m : Int)) = some (.ret (.ret (.ret ((y : Int), ((e : Int), true))))) → (∀ z, K (.brk 3 z) = some (.next ((e + 1 : Nat) : Int))) →
          (fnE d s bh x y e = none → Option.bind (tloop F (0 : Int)) K = some (.next ((e + 1 : Nat) : Int))) ∧ ∀ r, fnE d s bh x y e = some r → Option.bind (tloop F (0 : Int)) K = some (.ret (.ret (.ret r))) := by
        intro F K g1 g2 g3 g4
        have hu : univ d s bh x y e = (List.range m).all (uniC d s bh x y e) := by unfold univ; rw [en]
        obtain ⟨u1, u2⟩ := tloop_stop (f := F) (st := fun z : Nat => (z : Int)) (n := m) (p := uniC d s bh x y e) (Q := fun r => ∃ z, r = .brk 3 z) (o := .brk 4 (m : Int)) (fun z hz => by
          rw [g1 z hz]
          cases uniC d s bh x y e z with
          | true => exact ⟨fun _ => rfl, (fun h => by cases h)⟩
          | false => exact ⟨(fun h => by cases h), fun _ => ⟨_, rfl, (fun y => by simp), _, rfl⟩⟩) g2 (fun y => by simp)
        rw [← hu] at u1 u2
        unfold fnE
        cases hu : univ d s bh x y e with
        | true =>
          refine ⟨(fun h => by cases h), fun r hr => ?_⟩
          cases hr
          exact bind_of (u1 hu) g3
        | false =>
          refine ⟨fun _ => ?_, fun r hr => by cases hr⟩
          obtain ⟨r, hr, z, rfl⟩ := u2 hu
          exact bind_of hr (g4 z)
      refine hz _ _ (fun z hz => ?_) ?_ rfl (fun z => ?_)
      · have zs : z < (s.getD x []).length := by have := h.sz.row x xs; omega
        obtain ⟨z1, z2⟩ := h.sz.val x xs (z : Int) ⟨by omega, by omega⟩
        obtain ⟨kz, ekz⟩ : ∃ k : Nat, S2 s x z = (k : Int) := ⟨(S2 s x z).toNat, by omega⟩
        have ekz' : (s.getD x []).getD z 0 = (kz : Int) := ekz
        have hil := ims_len (d := d) (bh := bh) (x := x) (y := y) (e := e) (z := z)
        have q0 : G69 (d, ((y : Int), (z : Int))) = some (homL d (y : Int) (z : Int)) := p69 (c := d) (by omega) b3 _ _
        have hw := h.iw (z := z) hx hes
        rw [ekz] at hw
        have q1 : G104 (ims d bh x y e z, (kz : Int)) = some (uniC d s bh x y e z) := by
          unfold uniC
          rw [ekz]
          exact p104 (by omega) (by omega) hw
        simp only [lt_cast, hz, decide_true, cond_true, q0, Option.bind_some]
        refine bind_of (v := .brk 6 (((homL d (y : Int) (z : Int)).length : Int), ims d bh x y e z)) (gatherM (fun i hi acc ha => ?_) fun acc => ?_) ?_
        · obtain ⟨b, hb, eb, hl, v1, v2⟩ := h.el hx hes hi
          have l3 : bh.length = ar d := h.sz.l3
          have hll : (homL d (y : Int) (z : Int)).length ≤ ar d := homL_len
          have hb' : b < bh.length := by omega
          have xb : x < (bh.getD b []).length := by have := h.hr b hb; omega
          have hl' : e < ((bh.getD b []).getD x []).length := hl
          simp only [lt_cast, hi, decide_true, cond_true, in_cast hi, eb, in_cast hb', in_cast xb, in_cast hl', and_self, if_true, Int.toNat_natCast, List.length_cons, List.length_nil]
          rw [wrap_sm (by omega) (by omega), if_pos (show acc.length + (0 + 1) ≤ 17592186044416 by omega)]
          rfl
        · simp only [lt_self, cond_false]
        show (if 6 = 6 then _ else none) = _
        rw [if_pos rfl]
        simp only [in_cast xs, in_cast zs, Int.toNat_natCast, ekz', q1, Option.bind_some, and_self, if_true]
        rw [wrap_sm (by omega) (by omega)]
        cases uniC d s bh x y e z <;> rfl
      · simp only [lt_self, cond_false]
      · show (if 3 = 4 then _ else if 3 = 3 then _ else none) = _
        rw [if_neg (by decide), if_pos rfl, wrap_sm (by omega) (by omega)]; rfl
    · simp only [lt_self, cond_false]
    · cases (List.range k).findSome? (fnE d s bh x y) with
      | some r => rfl
      | none =>
        show (if 2 = 2 then _ else none) = _
        rw [if_pos rfl, wrap_sm (by omega) (by omega)]; rfl
  · rw [hmm]
    simp only [lt_self, cond_false]
  · cases (List.range m).findSome? (fnY d s bh x) with
    | some r => rfl
    | none => rfl
end
end
end Go.Ve.D


namespace Go.Ve.D
open Go Go.Ve
noncomputable section

def resU (c d : Cat) (s : List (List Int)) (be bh : List (List (List Int))) (x : Int) : Int × Int × Int :=
  bif !isPro c d s be bh then (0, (0, 1)) else bif !inn c.1 x then (0, (0, 2)) else bif !(fres d s bh x.toNat).2.2 then (0, (0, 4)) else ((fres d s bh x.toNat).1, ((fres d s bh x.toNat).2.1, 0))
section
variable {c d : Cat} {s : List (List Int)} {be bh : List (List (List Int))}
theorem isPro_mp (h : isPro c d s be bh = true) : MP c d s be bh := by
  unfold isPro at h
  rw [Bool.and_eq_true] at h
  exact mp_of h.1
theorem p19 (ok : okP c d s be bh) (x : Int) : G19 (mkP c d s be bh, x) = some (resU c d s be bh x) := by
  unfold G19 resU
  have e1 := p57 ok
  simp only [Prod.eta, e1, Option.bind_some]
  cases hp : isPro c d s be bh with
  | false => rfl
  | true =>
  have h := isPro_mp hp
  have e2 : G58 (((mkP c d s be bh).1, ((mkP c d s be bh).2.1, ((mkP c d s be bh).2.2.1, ((mkP c d s be bh).2.2.2.1, (mkP c d s be bh).2.2.2.2.1)))), x) = some (inn c.1 x) := p58 c x
  simp only [Bool.not_true, cond_false, e2, Option.bind_some]
  cases hx : inn c.1 x with
  | false => rfl
  | true =>
  obtain ⟨x1, x2⟩ := inn_iff.1 hx
  obtain ⟨n, rfl⟩ : ∃ n : Nat, x = (n : Int) := ⟨x.toNat, by omega⟩
  simp only [Bool.not_true, cond_false, p59 h x2, Option.bind_some, Int.toNat_natCast]
  generalize fres d s bh n = r
  obtain ⟨r1, r2, r3⟩ := r
  cases r3 <;> rfl
theorem p21 (ok : okP c d s be bh) (x : Int) : G21 (mkP c d s be bh, x) = some (resU c d s be bh x) := by
  unfold G21 resU
  have e1 := p61 ok
  simp only [Prod.eta, e1, Option.bind_some]
  cases hp : isPro c d s be bh with
  | false => rfl
  | true =>
  have h := isPro_mp hp
  obtain ⟨a1, a2, a3, a4, a5, a6, a7, a8⟩ := h.hc.hd
  have e2 : G62 (x, ((0 : Int), IntKind.wrap .i64 ((mkP c d s be bh).1 - 1))) = some (inn c.1 x) := p62' x c.1 ⟨a1.1, by omega⟩
  simp only [Bool.not_true, cond_false, e2, Option.bind_some]
  cases hx : inn c.1 x with
  | false => rfl
  | true =>
  obtain ⟨x1, x2⟩ := inn_iff.1 hx
  obtain ⟨n, rfl⟩ : ∃ n : Nat, x = (n : Int) := ⟨x.toNat, by omega⟩
  simp only [Bool.not_true, cond_false, p63 h x2, Option.bind_some, Int.toNat_natCast]
  generalize fres d s bh n = r
  obtain ⟨r1, r2, r3⟩ := r
  cases r3 <;> rfl
end

/-! Sizes. -/
def okL (x : List (List (List Int))) : Prop := x.length ≤ 1048576 ∧ ∀ z ∈ x, z.length ≤ 1048576 ∧ ∀ y ∈ z, y.length ≤ 1048576
def okM (x : List (List (List Int))) : Prop := x.length ≤ maxLen ∧ ∀ z ∈ x, z.length ≤ maxLen ∧ ∀ y ∈ z, y.length ≤ maxLen
theorem p41b {c : Cat} {b : Int} (hb : 0 ≤ b ∧ b ≤ 1048576) (h1 : c.2.1.length ≤ maxLen) (h2 : c.2.2.1.length ≤ maxLen) (h3 : c.2.2.2.1.length ≤ maxLen) (h4 : c.2.2.2.2.length ≤ maxLen) (h5 : ∀ y ∈ c.2.2.2.2, y.length ≤ maxLen) :
    ∃ r, G41 (c, b) = some r ∧ (r < 0 ∨ (0 ≤ r ∧ r ≤ 1048576 ∧ okC c)) := by
  unfold G41
  obtain ⟨r1, e1, f1⟩ := p47 (b := b) hb h1
  simp only [e1, Option.bind_some]
  by_cases n1 : r1 < 0
  · exact ⟨-1, by simp only [n1, decide_true, cond_true], .inl (by decide)⟩
  simp only [n1, decide_false, cond_false]
  obtain ⟨r2, e2, f2⟩ := p47 (b := r1) (by omega) h2
  simp only [e2, Option.bind_some]
  by_cases n2 : r2 < 0
  · exact ⟨-1, by simp only [n2, decide_true, cond_true], .inl (by decide)⟩
  simp only [n2, decide_false, cond_false]
  obtain ⟨r3, e3, f3⟩ := p47 (b := r2) (by omega) h3
  simp only [e3, Option.bind_some]
  by_cases n3 : r3 < 0
  · exact ⟨-1, by simp only [n3, decide_true, cond_true], .inl (by decide)⟩
  simp only [n3, decide_false, cond_false]
  obtain ⟨r4, e4, f4⟩ := p48 (b := r3) (by omega) h4 h5
  simp only [e4, Option.bind_some]
  by_cases n4 : r4 < 0
  · exact ⟨-1, by simp only [n4, decide_true, cond_true], .inl (by decide)⟩
  simp only [n4, decide_false, cond_false]
  refine ⟨r4, rfl, .inr ?_⟩
  have f4 := f4.resolve_left n4
  exact ⟨f4.1, by omega, by omega, by omega, by omega, f4.2.2.1, f4.2.2.2⟩
theorem p56 {x : List (List (List Int))} {b : Int} (hb : 0 ≤ b ∧ b ≤ 1048576) (hx : okM x) : ∃ r, G56 (x, b) = some r ∧ (r < 0 ∨ (0 ≤ r ∧ r ≤ b ∧ okL x)) := by
  obtain ⟨hx, hy⟩ := hx
  unfold G56
  have hm : maxLen = 9223372036854775807 := by decide
  rw [hm] at hx
  have e : IntKind.wrap .i64 (b - (x.length : Int)) = b - x.length := wrap_id (by omega) (by omega)
  simp only [e]
  by_cases h : b - (x.length : Int) < 0
  · exact ⟨-1, by simp only [h, decide_true, cond_true], .inl (by decide)⟩
  · simp only [h, decide_false, cond_false]
    obtain ⟨o, ho, hq⟩ := tloop_inv (f := (fun (v0 : (Int × Int)) => (bif (decide (v0.2 < ((x.length : Nat) : Int))) then (if (((0 : Int) ≤ v0.2) ∧ (v0.2 < ((x.length : Nat) : Int))) then (Option.bind (G48 ((x.getD (v0.2).toNat []), v0.1)) (fun (v1 : Int) => (bif (decide (v1 < (0 : Int))) then (retM (some (-(1 : Int)))) else (some (LO.next (v1, (IntKind.wrap .i64 (v0.2 + (1 : Int))))))))) else none) else (some (LO.brk 0 (v0.1, v0.2))))))
      (I := fun i t => t.2 = (i : Int) ∧ 0 ≤ t.1 ∧ t.1 ≤ b - x.length ∧ ∀ z ∈ x.take i, z.length ≤ 1048576 ∧ ∀ y ∈ z, y.length ≤ 1048576)
      (Q := fun o => match o with
        | .brk id t => id = 0 ∧ 0 ≤ t.1 ∧ t.1 ≤ b ∧ ∀ z ∈ x, z.length ≤ 1048576 ∧ ∀ y ∈ z, y.length ≤ 1048576
        | .ret r => r < 0
        | .next _ => False)
      (n := x.length) (x := (b - (x.length : Int), (0 : Int))) ⟨rfl, by omega, by omega, by simp⟩
      (fun i hi t ht => by
        obtain ⟨c, k⟩ := t
        obtain ⟨rfl, h1, h2, h3⟩ := ht
        simp only at h1 h2 h3
        have hmem : x.getD i [] ∈ x := getD_mem' [] hi
        obtain ⟨g1, g2⟩ := hy _ hmem
        obtain ⟨r, hr, hr2⟩ := p48 (x := x.getD i []) (b := c) ⟨h1, by omega⟩ g1 g2
        simp only [lt_cast, hi, decide_true, cond_true, in_cast hi, if_true, Int.toNat_natCast, and_self, hr, Option.bind_some]
        by_cases hneg : r < 0
        · right
          exact ⟨.ret (-1), by simp only [hneg, decide_true, cond_true]; rfl, (fun y => by simp), (by decide : (-1 : Int) < 0)⟩
        · left
          have hr3 := hr2.resolve_left hneg
          refine ⟨(r, (i : Int) + 1), by simp only [hneg, decide_false, cond_false, wrap_sm (show (0 : Int) ≤ (i : Int) + 1 by omega) (by omega)], rfl, hr3.1, ?_, ?_⟩
          · simp only; omega
          · intro z hmz
            rw [List.take_add_one, List.mem_append] at hmz
            rcases hmz with hmz | hmz
            · exact h3 z hmz
            · rw [List.getElem?_eq_getElem hi] at hmz
              have : z = x.getD i [] := by
                rw [List.getD_eq_getElem?_getD, List.getElem?_eq_getElem hi]
                simpa using hmz
              rw [this]
              exact hr3.2.2)
      (fun t ht => by
        obtain ⟨c, k⟩ := t
        obtain ⟨rfl, h1, h2, h3⟩ := ht
        simp only at h1 h2 h3
        refine ⟨.brk 0 (c, (x.length : Int)), by simp, (fun y => by simp), rfl, h1, by simp only; omega, fun z hmz => h3 z (by simpa using hmz)⟩)
    rw [ho]
    cases o with
    | next => exact hq.elim
    | ret r => exact ⟨r, rfl, .inl hq⟩
    | brk id t =>
      obtain ⟨rfl, h1, h2, h3⟩ := hq
      exact ⟨t.1, rfl, .inr ⟨h1, h2, by omega, h3⟩⟩
theorem p60 {x : List (List (List Int))} (h : okL x) : G60 x = some x := by
  obtain ⟨h, hx⟩ := h
  unfold G60
  rw [if_pos (by omega)]
  refine bind_of (v := .brk 0 ((x.length : Int), x)) (tloop_iter (st := fun i => ((i : Int), x.take i ++ (List.replicate x.length []).drop i)) (n := x.length) (fun i hi => ?_) (by simp) (fun y => by simp)) rfl
  have e : (x.take i ++ (List.replicate x.length ([] : List (List Int))).drop i).length = x.length := by simp; omega
  obtain ⟨g1, g2⟩ := hx _ (getD_mem' [] hi)
  have g : G52 (x.getD i []) = some (x.getD i []) := p52 g1 g2
  have hm : (x.take i ++ (List.replicate x.length ([] : List (List Int))).drop i).set i (x.getD i []) = x.take (i + 1) ++ (List.replicate x.length ([] : List (List Int))).drop (i + 1) := take_set [] (by simp) hi
  simp only [lt_cast, hi, decide_true, cond_true, in_cast hi, if_true, e, Int.toNat_natCast, and_self, g, Option.bind_some]
  rw [hm, wrap_sm (by omega) (by omega)]
  rfl
theorem p27 {x : List (List (List Int))} (h : okL x) : G27 (x, x) = some true := by
  obtain ⟨h, hx⟩ := h
  unfold G27
  simp only [decide_true, Bool.not_true, cond_false]
  refine bind_of (v := .brk 0 (x.length : Int)) (tloop_iter (st := fun i => (i : Int)) (n := x.length) (fun i hi => ?_) (by simp) (fun y => by simp)) rfl
  obtain ⟨g1, g2⟩ := hx _ (getD_mem' [] hi)
  have g : G36 (x.getD i [], x.getD i []) = some true := p36 g1 g2
  simp only [lt_cast, hi, decide_true, cond_true, in_cast hi, if_true, Int.toNat_natCast, and_self, Bool.not_true, cond_false, g, Option.bind_some]
  rw [wrap_sm (by omega) (by omega)]
  rfl
section
variable {c d : Cat} {s : List (List Int)} {be bh : List (List (List Int))}
theorem p20 (ok : okP c d s be bh) : G20 (mkP c d s be bh) = some (mkP c d s be bh) := by
  obtain ⟨oc, od, ⟨k1, k2⟩, k3, k5⟩ := ok
  unfold G20 mkP
  simp only [Prod.eta, p43 oc, p43 od, p52 k1 k2, p60 k3, p60 k5, Option.bind_some]
theorem p22 (ok : okP c d s be bh) : G22 (mkP c d s be bh, mkP c d s be bh) = some true := by
  obtain ⟨oc, od, ⟨k1, k2⟩, k3, k5⟩ := ok
  unfold G22 mkP
  simp only [Prod.eta, p45 oc, p45 od, p36 k1 k2, p27 k3, p27 k5, Option.bind_some, Bool.not_true, cond_false]
end
theorem p4 (x : PF × Int) (h : okT (PT S4.ps) x) : G4 x = some true := by
  obtain ⟨⟨c1, c2, c3, c4, c5, d1, d2, d3, d4, d5, s, be, bh⟩, x⟩ := x
  obtain ⟨⟨_, h2, h3, h4, h5, _, g2, g3, g4, g5, hs, hbe, hbh⟩, _⟩ := h
  unfold G4 G18
  simp only [Prod.eta]
  obtain ⟨r1, e1, f1⟩ := p41b (c := (c1, (c2, (c3, (c4, c5))))) (b := 1048576) (by omega) h2.1 h3.1 h4.1 h5.1 (fun y hy => (h5.2 y hy).1)
  simp only [e1, Option.bind_some]
  by_cases n1 : r1 < 0
  · simp only [n1, decide_true, cond_true, Option.bind_some]; rfl
  have f1 := f1.resolve_left n1
  obtain ⟨r2, e2, f2⟩ := p41b (c := (d1, (d2, (d3, (d4, d5))))) (b := r1) ⟨f1.1, f1.2.1⟩ g2.1 g3.1 g4.1 g5.1 (fun y hy => (g5.2 y hy).1)
  simp only [n1, decide_false, cond_false, e2, Option.bind_some]
  by_cases n2 : r2 < 0
  · simp only [n2, decide_true, cond_true, Option.bind_some]; rfl
  have f2 := f2.resolve_left n2
  obtain ⟨r3, e3, f3⟩ := p48 (x := s) (b := r2) ⟨f2.1, f2.2.1⟩ hs.1 (fun y hy => (hs.2 y hy).1)
  simp only [n2, decide_false, cond_false, e3, Option.bind_some]
  by_cases n3 : r3 < 0
  · simp only [n3, decide_true, cond_true, Option.bind_some]; rfl
  have f3 := f3.resolve_left n3
  obtain ⟨r4, e4, f4⟩ := p56 (x := be) (b := r3) ⟨f3.1, by omega⟩ ⟨hbe.1, fun z hz => ⟨(hbe.2 z hz).1, fun y hy => ((hbe.2 z hz).2 y hy).1⟩⟩
  simp only [n3, decide_false, cond_false, e4, Option.bind_some]
  by_cases n4 : r4 < 0
  · simp only [n4, decide_true, cond_true, Option.bind_some]; rfl
  have f4 := f4.resolve_left n4
  obtain ⟨r5, e5, f5⟩ := p56 (x := bh) (b := r4) ⟨f4.1, by omega⟩ ⟨hbh.1, fun z hz => ⟨(hbh.2 z hz).1, fun y hy => ((hbh.2 z hz).2 y hy).1⟩⟩
  simp only [n4, decide_false, cond_false, e5, Option.bind_some]
  by_cases n5 : r5 < 0
  · simp only [n5, decide_true, cond_true, Option.bind_some]; rfl
  have f5 := f5.resolve_left n5
  have ok : okP (c1, (c2, (c3, (c4, c5)))) (d1, (d2, (d3, (d4, d5)))) s be bh := ⟨f1.2.2, f2.2.2, f3.2.2, f4.2.2, f5.2.2⟩
  have q20 := p20 ok
  have q22 := p22 ok
  have q19 := p19 ok x
  have q21 := p21 ok x
  unfold mkP at q20 q22 q19 q21
  simp only [n5, decide_false, cond_false, q20, q22, q19, q21, Option.bind_some, decide_true, Bool.not_true]
end
end Go.Ve.D

