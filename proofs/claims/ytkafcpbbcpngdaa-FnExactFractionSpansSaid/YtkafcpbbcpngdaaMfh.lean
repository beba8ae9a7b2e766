/- Fractions: the first condition that fails. -/
import Derived.Test.YtkafcpbbcpngdaaMfg
namespace Go.Ve.D
open Go Go.Ve

def par (c : Cat) (f g : Nat) : Bool := decide (fT c f = fT c g) && decide (tT c f = tT c g)
theorem p139 {c : Cat} (h : Sh c) {f g : Nat} (hf : f < ar c) (hg : g < ar c) : G139 (c, ((f : Int), (g : Int))) = some (par c f g) := by
  have hh := h.hd
  obtain ⟨a1, a2, a3, a4, a5, a6, a7, a8⟩ := hh
  have hf2 : f < c.2.1.length := hf
  have hg2 : g < c.2.1.length := hg
  have hf3 : f < c.2.2.1.length := by omega
  have hg3 : g < c.2.2.1.length := by omega
  unfold G139 par fT tT
  simp only [in_cast hf2, in_cast hg2, in_cast hf3, in_cast hg3, and_self, if_true, Int.toNat_natCast]
  cases decide (c.2.1.getD f 0 = c.2.1.getD g 0) <;> rfl
def sqOne (c : Cat) (w : List Int) (f i : Nat) : Bool := !decide (tT c f = c.2.2.1.getD (w.getD i 0).toNat 0) || sq c w f (w.getD i 0).toNat
def sqAll (c : Cat) (w : List Int) : Bool := (List.range (ar c)).all fun f => (List.range w.length).all (sqOne c w f)
def caOne (c : Cat) (w : List Int) (f j : Nat) : Bool := !par c f (f + 1 + j) || canc c w f (f + 1 + j)
def canAll (c : Cat) (w : List Int) : Bool := (List.range (ar c)).all fun f => (List.range (ar c - (f + 1))).all (caOne c w f)
def frac (c : Cat) (w : List Int) : Bool := (idAllS c w && compAllS c w) && (sqAll c w && canAll c w)

/-- two loops, one in the other -/
theorem chk2 {R S : Type} {F : Int → Option (LO Int R)} {n : Nat} {p : Nat → Bool} {Q : R → Prop} {o : LO Int R} {k : LO Int R → Option S} {Post : Bool → Option S → Prop}
    (h1 : ∀ i, i < n → (p i = true → F (i : Int) = some (.next ((i + 1 : Nat) : Int))) ∧ (p i = false → ∃ r, F (i : Int) = some (.ret r) ∧ Q r)) (h2 : F (n : Int) = some o) (ho : ∀ y, o ≠ .next y)
    (hA : Post true (k o)) (hB : ∀ r, Q r → Post false (k (.ret r))) : Post ((List.range n).all p) (Option.bind (tloop F (0 : Int)) k) := by
  refine chk_bind (st := fun i : Nat => (i : Int)) (p := p) (Q := Q) (o := o) (Post := fun x => Post ((List.range n).all p) x) h1 h2 ho (fun hall => ?_) (fun hall r hr => ?_)
  · rw [hall]; exact hA
  · rw [hall]; exact hB r hr

abbrev R3 := Int × Int × Int
def inner (s : Int) (p : Bool) (o : Option (LO Int R3)) : Prop := (p = true → o = some (.next s)) ∧ (p = false → ∃ r, o = some (.ret r) ∧ decide (r.1 = 0) = false)

theorem p128 {c : Cat} (h : Sh c) {w : List Int} (hw : w.length ≤ 1048576) (hwi : wi (ar c) w = true) : ∃ r, G128 (c, w) = some r ∧ decide (r.1 = 0) = frac c w := by
  have hh := h.hd
  obtain ⟨a1, a2, a3, a4, a5, a6, a7, a8⟩ := hh
  have hm : ar c ≤ 40 := a2
  obtain ⟨r0, hr0, hz⟩ := p137 h hw hwi
  unfold G128 frac
  simp only [Prod.eta, hr0, Option.bind_some]
  cases hcl : idAllS c w && compAllS c w with
  | false =>
    rw [hcl] at hz
    rw [hz]
    exact ⟨_, rfl, hz⟩
  | true =>
  rw [hcl] at hz
  rw [hz]
  simp only [Bool.not_true, cond_false, Bool.true_and]
  refine chk2 (n := ar c) (p := fun f => (List.range w.length).all (sqOne c w f)) (Q := fun r : R3 => decide (r.1 = 0) = false) (o := .brk 0 (ar c : Int)) (Post := fun b (o : Option R3) => ∃ r, o = some r ∧ decide (r.1 = 0) = (b && canAll c w)) (fun f hf => ?_) ?_ (fun y => by simp) ?_ (fun r hr => ⟨r, rfl, by rw [hr]; rfl⟩)
  · have hf2 : f < c.2.1.length := hf
    have hf3 : f < c.2.2.1.length := by omega
    simp only [lt_cast, hf2, decide_true, cond_true]
    refine chk2 (n := w.length) (p := sqOne c w f) (Q := fun r : LO Int R3 => ∃ r', r = .ret r' ∧ decide (r'.1 = 0) = false) (o := .brk 2 (w.length : Int)) (Post := inner ((f + 1 : Nat) : Int)) (fun i hi => ?_) ?_ (fun y => by simp) ⟨fun _ => ?_, (fun hc => by cases hc)⟩ (fun r hr => ⟨(fun hc => by cases hc), fun _ => ?_⟩)
    · obtain ⟨v, hv, ev⟩ := getW hwi hi
      have hv3 : v < c.2.2.1.length := by rw [a3]; exact hv
      obtain ⟨r, g1, g2⟩ := p138 h hw hf hv
      simp only [lt_cast, hi, decide_true, cond_true, in_cast hi, in_cast hf3, in_cast hv3, and_self, if_true, Int.toNat_natCast, ev, g1, Option.bind_some, g2]
      rw [wrap_sm (by omega) (by omega)]
      unfold sqOne tT
      rw [ev, Int.toNat_natCast]
      cases decide (c.2.2.1.getD f 0 = c.2.2.1.getD v 0) with
      | false => exact ⟨fun _ => rfl, (fun hc => by cases hc)⟩
      | true =>
        rw [Bool.not_true, Bool.false_or]
        refine ⟨fun hc => ?_, fun hc => ?_⟩
        · rw [hc]; rfl
        · rw [hc]; exact ⟨_, rfl, _, rfl, rfl⟩
    · simp only [lt_cast, Nat.lt_irrefl, decide_false, cond_false]
    · show (if 2 = 2 then _ else none) = _
      rw [if_pos rfl, wrap_sm (by omega) (by omega)]; rfl
    · obtain ⟨r', rfl, h'⟩ := hr
      exact ⟨r', rfl, h'⟩
  · have e : decide (((ar c : Nat) : Int) < ((c.2.1.length : Nat) : Int)) = false := by rw [lt_cast]; exact decide_eq_false (Nat.lt_irrefl _)
    simp only [e, cond_false]
  · show ∃ r, (if 0 = 0 then _ else none) = some r ∧ _
    rw [if_pos rfl, Bool.true_and]
    refine chk2 (n := ar c) (p := fun f => (List.range (ar c - (f + 1))).all (caOne c w f)) (Q := fun r : R3 => decide (r.1 = 0) = false) (o := .brk 4 (ar c : Int)) (Post := fun b (o : Option R3) => ∃ r, o = some r ∧ decide (r.1 = 0) = b) (fun f hf => ?_) ?_ (fun y => by simp) ⟨_, rfl, rfl⟩ (fun r hr => ⟨r, rfl, hr⟩)
    · have hf2 : f < c.2.1.length := hf
      simp only [lt_cast, hf2, decide_true, cond_true]
      rw [wrap_sm (n := (f : Int) + 1) (by omega) (by omega)]
      refine chk_bind (st := fun j : Nat => ((f + 1 + j : Nat) : Int)) (n := ar c - (f + 1)) (p := caOne c w f) (Q := fun r : LO Int R3 => ∃ r', r = .ret r' ∧ decide (r'.1 = 0) = false) (o := .brk 6 (ar c : Int)) (Post := inner ((f + 1 : Nat) : Int) ((List.range (ar c - (f + 1))).all (caOne c w f))) (fun j hj => ?_) ?_ (fun y => by simp) (fun hall => ?_) (fun hall r hr => ?_)
      · have hg : f + 1 + j < ar c := by omega
        have e1 : decide (((f + 1 + j : Nat) : Int) < ((c.2.1.length : Nat) : Int)) = true := by rw [lt_cast]; exact decide_eq_true hg
        simp only [e1, cond_true, p139 h hf hg, Option.bind_some, p140 h hw hwi hf hg]
        rw [wrap_sm (n := ((f + 1 + j : Nat) : Int) + 1) (by omega) (by omega)]
        unfold caOne
        cases par c f (f + 1 + j) with
        | false => exact ⟨fun _ => rfl, (fun hc => by cases hc)⟩
        | true =>
          rw [Bool.not_true, Bool.false_or]
          simp only [cond_true, Option.bind_some]
          refine ⟨fun hc => ?_, fun hc => ?_⟩
          · rw [hc]; rfl
          · rw [hc]; exact ⟨_, rfl, _, rfl, rfl⟩
      · have e1 : f + 1 + (ar c - (f + 1)) = ar c := by omega
        have e : decide (((ar c : Nat) : Int) < ((c.2.1.length : Nat) : Int)) = false := by rw [lt_cast]; exact decide_eq_false (Nat.lt_irrefl _)
        simp only [e1, e, cond_false]
      · rw [hall]
        refine ⟨fun _ => ?_, (fun hc => by cases hc)⟩
        show (if 6 = 6 then _ else none) = _
        rw [if_pos rfl]; rfl
      · rw [hall]
        refine ⟨(fun hc => by cases hc), fun _ => ?_⟩
        obtain ⟨r', rfl, h'⟩ := hr
        exact ⟨r', rfl, h'⟩
    · have e : decide (((ar c : Nat) : Int) < ((c.2.1.length : Nat) : Int)) = false := by rw [lt_cast]; exact decide_eq_false (Nat.lt_irrefl _)
      simp only [e, cond_false]

theorem p119 {c : Cat} (h : Sh c) (hs : shape c = true) {w : List Int} (hw : w.length ≤ 1048576) (hwi : wi (ar c) w = true) : ∃ r, G119 (c, (w, mkB c w)) = some r ∧ decide (r.1 = 0) = frac c w := by
  have hh := h.hd
  obtain ⟨a1, a2, a3, a4, a5, a6, a7, a8⟩ := hh
  have hm : ar c ≤ 40 := a2
  obtain ⟨r0, hr0, hz⟩ := p132 h hw hwi
  unfold G119 frac
  rw [← idAll_eq h hs w, ← compAll_eq h hwi]
  simp only [hr0, Option.bind_some, p104]
  cases hcl : idAll c w && compAll c w with
  | false =>
    rw [hcl] at hz
    rw [hz]
    exact ⟨_, rfl, rfl⟩
  | true =>
  rw [hcl] at hz
  rw [hz]
  simp only [Bool.not_true, cond_false, Bool.true_and]
  refine chk2 (n := ar c) (p := fun f => (List.range w.length).all (sqOne c w f)) (Q := fun r : R3 => decide (r.1 = 0) = false) (o := .brk 0 (ar c : Int)) (Post := fun b (o : Option R3) => ∃ r, o = some r ∧ decide (r.1 = 0) = (b && canAll c w)) (fun f hf => ?_) ?_ (fun y => by simp) ?_ (fun r hr => ⟨r, rfl, by rw [hr]; rfl⟩)
  · have hf2 : f < c.2.1.length := hf
    have hf3 : f < c.2.2.1.length := by omega
    simp only [lt_cast, hf2, decide_true, cond_true]
    refine chk2 (n := w.length) (p := sqOne c w f) (Q := fun r : LO Int R3 => ∃ r', r = .ret r' ∧ decide (r'.1 = 0) = false) (o := .brk 2 (w.length : Int)) (Post := inner ((f + 1 : Nat) : Int)) (fun i hi => ?_) ?_ (fun y => by simp) ⟨fun _ => ?_, (fun hc => by cases hc)⟩ (fun r hr => ⟨(fun hc => by cases hc), fun _ => ?_⟩)
    · obtain ⟨v, hv, ev⟩ := getW hwi hi
      have hv3 : v < c.2.2.1.length := by rw [a3]; exact hv
      simp only [lt_cast, hi, decide_true, cond_true, in_cast hi, in_cast hf3, in_cast hv3, and_self, if_true, Int.toNat_natCast, ev, p133 h hf hv, Option.bind_some]
      rw [wrap_sm (by omega) (by omega)]
      unfold sqOne tT
      rw [ev, Int.toNat_natCast]
      cases decide (c.2.2.1.getD f 0 = c.2.2.1.getD v 0) with
      | false => exact ⟨fun _ => rfl, (fun hc => by cases hc)⟩
      | true =>
        rw [Bool.not_true, Bool.false_or]
        refine ⟨fun hc => ?_, fun hc => ?_⟩
        · rw [hc]; rfl
        · rw [hc]; exact ⟨_, rfl, _, rfl, rfl⟩
    · simp only [lt_cast, Nat.lt_irrefl, decide_false, cond_false]
    · show (if 2 = 2 then _ else none) = _
      rw [if_pos rfl, wrap_sm (by omega) (by omega)]; rfl
    · obtain ⟨r', rfl, h'⟩ := hr
      exact ⟨r', rfl, h'⟩
  · have e : decide (((ar c : Nat) : Int) < ((c.2.1.length : Nat) : Int)) = false := by rw [lt_cast]; exact decide_eq_false (Nat.lt_irrefl _)
    simp only [e, cond_false]
  · show ∃ r, (if 0 = 0 then _ else none) = some r ∧ _
    rw [if_pos rfl, Bool.true_and]
    refine chk2 (n := ar c) (p := fun f => (List.range (ar c - (f + 1))).all (caOne c w f)) (Q := fun r : R3 => decide (r.1 = 0) = false) (o := .brk 4 (ar c : Int)) (Post := fun b (o : Option R3) => ∃ r, o = some r ∧ decide (r.1 = 0) = b) (fun f hf => ?_) ?_ (fun y => by simp) ⟨_, rfl, rfl⟩ (fun r hr => ⟨r, rfl, hr⟩)
    · have hf2 : f < c.2.1.length := hf
      have hf3 : f < c.2.2.1.length := by omega
      simp only [lt_cast, hf2, decide_true, cond_true]
      rw [wrap_sm (n := (f : Int) + 1) (by omega) (by omega)]
      refine chk_bind (st := fun j : Nat => ((f + 1 + j : Nat) : Int)) (n := ar c - (f + 1)) (p := caOne c w f) (Q := fun r : LO Int R3 => ∃ r', r = .ret r' ∧ decide (r'.1 = 0) = false) (o := .brk 6 (ar c : Int)) (Post := inner ((f + 1 : Nat) : Int) ((List.range (ar c - (f + 1))).all (caOne c w f))) (fun j hj => ?_) ?_ (fun y => by simp) (fun hall => ?_) (fun hall r hr => ?_)
      · have hg : f + 1 + j < ar c := by omega
        have hg3 : f + 1 + j < c.2.2.1.length := by rw [a3]; exact hg
        have e1 : decide (((f + 1 + j : Nat) : Int) < ((c.2.1.length : Nat) : Int)) = true := by rw [lt_cast]; exact decide_eq_true hg
        simp only [e1, cond_true, p122 (in_cast hf2) (in_cast hf3), p122 (in_cast hg) (in_cast hg3), Option.bind_some, p134 h hw hwi hf hg, Int.toNat_natCast]
        rw [wrap_sm (n := ((f + 1 + j : Nat) : Int) + 1) (by omega) (by omega)]
        have ep : (decide (c.2.1.getD f 0 = c.2.1.getD (f + 1 + j) 0) && (decide (c.2.2.1.getD f 0 = c.2.2.1.getD (f + 1 + j) 0) && true)) = par c f (f + 1 + j) := by rw [Bool.and_true]; rfl
        rw [ep]
        unfold caOne
        cases par c f (f + 1 + j) with
        | false => exact ⟨fun _ => rfl, (fun hc => by cases hc)⟩
        | true =>
          rw [Bool.not_true, Bool.false_or]
          simp only [cond_true, Option.bind_some]
          refine ⟨fun hc => ?_, fun hc => ?_⟩
          · rw [hc]; rfl
          · rw [hc]; exact ⟨_, rfl, _, rfl, rfl⟩
      · have e1 : f + 1 + (ar c - (f + 1)) = ar c := by omega
        have e : decide (((ar c : Nat) : Int) < ((c.2.1.length : Nat) : Int)) = false := by rw [lt_cast]; exact decide_eq_false (Nat.lt_irrefl _)
        simp only [e1, e, cond_false]
      · rw [hall]
        refine ⟨fun _ => ?_, (fun hc => by cases hc)⟩
        show (if 6 = 6 then _ else none) = _
        rw [if_pos rfl]; rfl
      · rw [hall]
        refine ⟨(fun hc => by cases hc), fun _ => ?_⟩
        obtain ⟨r', rfl, h'⟩ := hr
        exact ⟨r', rfl, h'⟩
    · have e : decide (((ar c : Nat) : Int) < ((c.2.1.length : Nat) : Int)) = false := by rw [lt_cast]; exact decide_eq_false (Nat.lt_irrefl _)
      simp only [e, cond_false]
end Go.Ve.D

