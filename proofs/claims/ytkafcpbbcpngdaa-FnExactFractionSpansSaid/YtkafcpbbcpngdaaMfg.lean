/- Fractions: cancelling; the three conditions together. -/
import Derived.Test.YtkafcpbbcpngdaaMff
namespace Go.Ve.D
open Go Go.Ve

def outL (c : Cat) (x : Int) : List Int := ((List.range (ar c)).filter fun f => decide (fT c f = x)).map fun (f : Nat) => (f : Int)
def intoL (c : Cat) (x : Int) : List Int := ((List.range (ar c)).filter fun f => decide (tT c f = x)).map fun (f : Nat) => (f : Int)
theorem p143 {c : Cat} (hm : c.2.1.length ≤ 1048576) (x : Int) : G143 (c, x) = some (outL c x) := by
  obtain ⟨c1, c2, c3, c4, c5⟩ := c
  unfold G143
  simp only at hm ⊢
  refine bind_of (v := .brk 0 ((c2.length : Int), outL (c1, (c2, (c3, (c4, c5)))) x)) (gather (fun i hi acc ha => ?_) fun acc => ?_) rfl
  · simp only [lt_cast, hi, decide_true, cond_true, in_cast hi, if_true, and_self, Int.toNat_natCast, List.length_cons, List.length_nil]
    rw [wrap_sm (by omega) (by omega), if_pos (show acc.length + (0 + 1) ≤ 17592186044416 by omega)]
    show _ = some (LO.next (((i + 1 : Nat) : Int), bif decide (c2.getD i 0 = x) then acc ++ [(i : Int)] else acc))
    cases decide (c2.getD i 0 = x) <;> rfl
  · simp only [lt_cast, Nat.lt_irrefl, decide_false, cond_false]
theorem p144 {c : Cat} (hm : c.2.1.length ≤ 1048576) (ht : c.2.2.1.length = c.2.1.length) (x : Int) : G144 (c, x) = some (intoL c x) := by
  obtain ⟨c1, c2, c3, c4, c5⟩ := c
  unfold G144
  simp only at hm ht ⊢
  refine bind_of (v := .brk 0 ((c2.length : Int), intoL (c1, (c2, (c3, (c4, c5)))) x)) (gather (fun i hi acc ha => ?_) fun acc => ?_) rfl
  · simp only [ht, lt_cast, hi, decide_true, cond_true, in_cast hi, if_true, and_self, Int.toNat_natCast, List.length_cons, List.length_nil]
    rw [wrap_sm (by omega) (by omega), if_pos (show acc.length + (0 + 1) ≤ 17592186044416 by omega)]
    show _ = some (LO.next (((i + 1 : Nat) : Int), bif decide (c3.getD i 0 = x) then acc ++ [(i : Int)] else acc))
    cases decide (c3.getD i 0 = x) <;> rfl
  · simp only [ht, lt_cast, Nat.lt_irrefl, decide_false, cond_false]
theorem fm_get {m : Nat} {q : Nat → Bool} {i : Nat} (hi : i < (((List.range m).filter q).map fun (f : Nat) => (f : Int)).length) : ∃ f : Nat, f < m ∧ q f = true ∧ (((List.range m).filter q).map fun (f : Nat) => (f : Int)).getD i 0 = (f : Int) := by
  have hm := getD_mem' (0 : Int) hi
  obtain ⟨f, hf, e⟩ := List.mem_map.1 hm
  obtain ⟨h1, h2⟩ := List.mem_filter.1 hf
  exact ⟨f, List.mem_range.1 h1, h2, e.symm⟩
theorem fm_len {m : Nat} {q : Nat → Bool} : (((List.range m).filter q).map fun (f : Nat) => (f : Int)).length ≤ m := by
  rw [List.length_map]
  have := List.length_filter_le q (List.range m)
  rwa [List.length_range] at this
theorem take_any {x : List Int} {q : Int → Bool} {i : Nat} (hi : i < x.length) : (x.take (i + 1)).any q = ((x.take i).any q || q (x.getD i 0)) := by
  rw [← take_snoc 0 hi, List.any_append]; simp

/-- an arrow of the set makes them equal from behind; from ahead -/
def post (c : Cat) (f g : Nat) (v : Int) : Bool := decide (c.2.1.getD v.toNat 0 = tT c f) && decide (T c f v.toNat = T c g v.toNat)
def prec (c : Cat) (f g : Nat) (v : Int) : Bool := decide (c.2.2.1.getD v.toNat 0 = fT c f) && decide (T c v.toNat f = T c v.toNat g)
def canc (c : Cat) (w : List Int) (f g : Nat) : Bool := !w.any (post c f g) || w.any (prec c f g)
theorem p140 {c : Cat} (h : Sh c) {w : List Int} (hw : w.length ≤ 1048576) (hwi : wi (ar c) w = true) {f g : Nat} (hf : f < ar c) (hg : g < ar c) : G140 (c, (w, ((f : Int), (g : Int)))) = some (canc c w f g) := by
  have hh := h.hd
  obtain ⟨a1, a2, a3, a4, a5, a6, a7, a8⟩ := hh
  have hm : ar c ≤ 40 := a2
  have hf2 : f < c.2.1.length := hf
  have hf3 : f < c.2.2.1.length := by omega
  unfold G140 canc
  simp only [Prod.eta]
  refine bind_of (v := .brk 0 (w.any (post c f g), (w.length : Int))) ?_ ?_
  · have hst := tloop_iter (R := Bool) (st := fun i : Nat => ((w.take i).any (post c f g), (i : Int))) (n := w.length) (o := .brk 0 (w.any (post c f g), (w.length : Int))) (f := fun (v0 : (Bool × Int)) => (bif (decide (v0.2 < ((w.length : Nat) : Int))) then (Option.bind (bif v0.1 then (some true) else (if (((0 : Int) ≤ v0.2) ∧ (v0.2 < ((w.length : Nat) : Int))) then (if (((0 : Int) ≤ (w.getD (v0.2).toNat (0 : Int))) ∧ ((w.getD (v0.2).toNat (0 : Int)) < ((c.2.1.length : Nat) : Int))) then (if (((0 : Int) ≤ (f : Int)) ∧ ((f : Int) < ((c.2.2.1.length : Nat) : Int))) then (bif (decide ((c.2.1.getD ((w.getD (v0.2).toNat (0 : Int))).toNat (0 : Int)) = (c.2.2.1.getD ((f : Int)).toNat (0 : Int)))) then (if (((0 : Int) ≤ v0.2) ∧ (v0.2 < ((w.length : Nat) : Int))) then (Option.bind (G145 (c, ((f : Int), (w.getD (v0.2).toNat (0 : Int))))) (fun (v1 : Int) => (if (((0 : Int) ≤ v0.2) ∧ (v0.2 < ((w.length : Nat) : Int))) then (Option.bind (G145 (c, ((g : Int), (w.getD (v0.2).toNat (0 : Int))))) (fun (v2 : Int) => (some (decide (v1 = v2))))) else none))) else none) else (some false)) else none) else none) else none)) (fun (v1 : Bool) => (some (LO.next (v1, (IntKind.wrap .i64 (v0.2 + (1 : Int)))))))) else (some (LO.brk 0 (v0.1, v0.2))))) (fun i hi => ?_) ?_ (fun y => by simp)
    · exact hst
    · obtain ⟨b, hb, eb⟩ := getW hwi hi
      have hb2 : b < c.2.1.length := hb
      simp only [lt_cast, hi, decide_true, cond_true, in_cast hi, in_cast hf3, in_cast hb2, and_self, if_true, Int.toNat_natCast, eb, p145 h (in_cast hf) (in_cast hb), p145 h (in_cast hg) (in_cast hb), Option.bind_some]
      rw [wrap_sm (by omega) (by omega), take_any hi, eb]
      cases (w.take i).any (post c f g) with
      | true => rfl
      | false =>
        rw [Bool.false_or]
        unfold post tT
        rw [Int.toNat_natCast]
        cases decide (c.2.1.getD b 0 = c.2.2.1.getD f 0) <;> rfl
    · simp only [lt_cast, Nat.lt_irrefl, decide_false, cond_false, List.take_length]
  show (if 0 = 0 then _ else none) = _
  rw [if_pos rfl]
  cases w.any (post c f g) with
  | false => rfl
  | true =>
  simp only [Bool.not_true, cond_false, Bool.false_or]
  rw [← any_idx' (0 : Int) (prec c f g) w]
  refine srch (st := fun i : Nat => (i : Int)) (n := w.length) (q := fun i => prec c f g (w.getD i 0)) (Q := fun r : Bool => r = true) (o := .brk 2 (w.length : Int)) (Post := fun b (o : Option Bool) => o = some b) (fun i hi => ?_) ?_ (fun y => by simp) rfl (fun r hr => by rw [hr])
  · obtain ⟨b, hb, eb⟩ := getW hwi hi
    have hb3 : b < c.2.2.1.length := by rw [a3]; exact hb
    simp only [lt_cast, hi, decide_true, cond_true, in_cast hi, in_cast hf2, in_cast hb3, and_self, if_true, Int.toNat_natCast, eb, p145 h (in_cast hb) (in_cast hf), p145 h (in_cast hb) (in_cast hg), Option.bind_some]
    rw [wrap_sm (by omega) (by omega)]
    unfold prec fT
    rw [Int.toNat_natCast]
    cases decide (c.2.2.1.getD b 0 = c.2.1.getD f 0) with
    | false => exact ⟨fun _ => rfl, (fun hc => by cases hc)⟩
    | true =>
      rw [Bool.true_and]
      simp only [cond_true, Option.bind_some]
      refine ⟨fun hc => ?_, fun hc => ?_⟩
      · rw [hc]; rfl
      · rw [hc]; exact ⟨_, rfl, rfl⟩
  · simp only [lt_cast, Nat.lt_irrefl, decide_false, cond_false]

theorem p134 {c : Cat} (h : Sh c) {w : List Int} (hw : w.length ≤ 1048576) (hwi : wi (ar c) w = true) {f g : Nat} (hf : f < ar c) (hg : g < ar c) : G134 ((c, (w, mkB c w)), ((f : Int), (g : Int))) = some (canc c w f g) := by
  have hh := h.hd
  obtain ⟨a1, a2, a3, a4, a5, a6, a7, a8⟩ := hh
  have hm : ar c ≤ 40 := a2
  have hm2 : c.2.1.length ≤ 1048576 := by omega
  have hf2 : f < c.2.1.length := hf
  have hf3 : f < c.2.2.1.length := by omega
  have eo : w.any (post c f g) = (outL c (tT c f)).any fun v => w.contains v && decide (T c f v.toNat = T c g v.toNat) := by
    rw [any_w hwi]
    unfold outL
    rw [any_fm]
    refine any_congr' fun v _ => ?_
    unfold post
    rw [Int.toNat_natCast]
    show (w.contains (v : Int) && (decide (fT c v = tT c f) && _)) = (decide (fT c v = tT c f) && (w.contains (v : Int) && _))
    cases w.contains (v : Int) <;> cases decide (fT c v = tT c f) <;> rfl
  have ei : w.any (prec c f g) = (intoL c (fT c f)).any fun v => w.contains v && decide (T c v.toNat f = T c v.toNat g) := by
    rw [any_w hwi]
    unfold intoL
    rw [any_fm]
    refine any_congr' fun v _ => ?_
    unfold prec
    rw [Int.toNat_natCast]
    show (w.contains (v : Int) && (decide (tT c v = fT c f) && _)) = (decide (tT c v = fT c f) && (w.contains (v : Int) && _))
    cases w.contains (v : Int) <;> cases decide (tT c v = fT c f) <;> rfl
  unfold G134 canc
  rw [eo, ei]
  simp only [in_cast hf2, in_cast hf3, and_self, if_true, Int.toNat_natCast, p143 hm2, p144 hm2 a3, Option.bind_some]
  obtain ⟨l, hl⟩ : ∃ l, l = outL c (tT c f) := ⟨_, rfl⟩
  obtain ⟨l2, hl2⟩ : ∃ l, l = intoL c (fT c f) := ⟨_, rfl⟩
  have hll : l.length ≤ ar c := by rw [hl]; exact fm_len
  have hll2 : l2.length ≤ ar c := by rw [hl2]; exact fm_len
  have hl' : outL c (c.2.2.1.getD f 0) = l := hl.symm
  have hl2' : intoL c (c.2.1.getD f 0) = l2 := hl2.symm
  rw [hl', hl2', ← hl, ← hl2]
  obtain ⟨P, hP⟩ : ∃ P : Int → Bool, P = fun v => w.contains v && decide (T c f v.toNat = T c g v.toNat) := ⟨_, rfl⟩
  rw [← hP]
  refine bind_of (v := .brk 0 (l.any P, (l.length : Int))) ?_ ?_
  · have hst := tloop_iter (R := Bool) (st := fun i : Nat => ((l.take i).any P, (i : Int))) (n := l.length) (o := .brk 0 (l.any P, (l.length : Int))) (f := fun (v1 : (Bool × Int)) => (bif (decide (v1.2 < ((l.length : Nat) : Int))) then (if (((0 : Int) ≤ v1.2) ∧ (v1.2 < ((l.length : Nat) : Int))) then (Option.bind (bif v1.1 then (some true) else (if (((0 : Int) ≤ (l.getD (v1.2).toNat (0 : Int))) ∧ ((l.getD (v1.2).toNat (0 : Int)) < (((mkB c w).length : Nat) : Int))) then (bif ((mkB c w).getD ((l.getD (v1.2).toNat (0 : Int))).toNat false) then (Option.bind (G123 (c, ((f : Int), (l.getD (v1.2).toNat (0 : Int))))) (fun (v2 : Int) => (Option.bind (G123 (c, ((g : Int), (l.getD (v1.2).toNat (0 : Int))))) (fun (v3 : Int) => (some (decide (v2 = v3))))))) else (some false)) else none)) (fun (v2 : Bool) => (some (LO.next (v2, (IntKind.wrap .i64 (v1.2 + (1 : Int)))))))) else none) else (some (LO.brk 0 (v1.1, v1.2))))) (fun i hi => ?_) ?_ (fun y => by simp)
    · exact hst
    · obtain ⟨b, hb, _, eb⟩ := fm_get (m := ar c) (q := fun v => decide (fT c v = tT c f)) (i := i) (by rw [hl] at hi; exact hi)
      have eb : l.getD i 0 = (b : Int) := by rw [hl]; exact eb
      simp only [lt_cast, hi, decide_true, cond_true, in_cast hi, and_self, if_true, Int.toNat_natCast, eb, mkB_len, in_cast hb, mkB_get hb, p123 h (in_cast hf) (in_cast hb), p123 h (in_cast hg) (in_cast hb), Option.bind_some]
      rw [wrap_sm (by omega) (by omega), take_any hi, eb]
      cases (l.take i).any P with
      | true => rfl
      | false =>
        rw [Bool.false_or, hP]
        simp only [Int.toNat_natCast]
        cases w.contains (b : Int) <;> rfl
    · simp only [lt_cast, Nat.lt_irrefl, decide_false, cond_false, List.take_length]
  show (if 0 = 0 then _ else none) = _
  rw [if_pos rfl]
  cases l.any P with
  | false => rfl
  | true =>
  simp only [Bool.not_true, cond_false, Bool.false_or]
  rw [← any_idx' (0 : Int) (fun v : Int => w.contains v && decide (T c v.toNat f = T c v.toNat g)) l2]
  refine srch (st := fun i : Nat => (i : Int)) (n := l2.length) (q := fun i => w.contains (l2.getD i 0) && decide (T c (l2.getD i 0).toNat f = T c (l2.getD i 0).toNat g)) (Q := fun r : Bool => r = true) (o := .brk 2 (l2.length : Int)) (Post := fun b (o : Option Bool) => o = some b) (fun i hi => ?_) ?_ (fun y => by simp) rfl (fun r hr => by rw [hr])
  · obtain ⟨b, hb, _, eb⟩ := fm_get (m := ar c) (q := fun v => decide (tT c v = fT c f)) (i := i) (by rw [hl2] at hi; exact hi)
    have eb : l2.getD i 0 = (b : Int) := by rw [hl2]; exact eb
    simp only [lt_cast, hi, decide_true, cond_true, in_cast hi, and_self, if_true, Int.toNat_natCast, eb, mkB_len, in_cast hb, mkB_get hb, p123 h (in_cast hb) (in_cast hf), p123 h (in_cast hb) (in_cast hg), Option.bind_some]
    rw [wrap_sm (by omega) (by omega)]
    cases w.contains (b : Int) with
    | false => exact ⟨fun _ => rfl, (fun hc => by cases hc)⟩
    | true =>
      rw [Bool.true_and]
      simp only [cond_true, Option.bind_some]
      refine ⟨fun hc => ?_, fun hc => ?_⟩
      · rw [hc]; rfl
      · rw [hc]; exact ⟨_, rfl, rfl⟩
  · simp only [lt_cast, Nat.lt_irrefl, decide_false, cond_false]
end Go.Ve.D

