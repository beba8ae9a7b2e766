/- Fractions: the search that jumps. -/
import Derived.Test.YtkafcpbbcpngdaaMfe
namespace Go.Ve.D
open Go Go.Ve

abbrev SqS := Nat × (Int × (Int × (Int × ((List Int) × (List Int)))))
noncomputable def F142 (x : (((Int × ((List Int) × ((List Int) × ((List Int) × (List (List Int)))))) × ((List Int) × (List Bool))) × (Int × Int))) : SqS → Option (LO SqS (Int × Int × Bool)) := (fun (v0 : (Nat × (Int × (Int × (Int × ((List Int) × (List Int))))))) => (if v0.1 = 0 then (bif (decide (v0.2.1 = x.1.1.1)) then (retM (some ((0 : Int), ((0 : Int), false)))) else (if (((0 : Int) ≤ x.2.1) ∧ (x.2.1 < ((x.1.1.2.1.length : Nat) : Int))) then (Option.bind (G120 (x.1.1, (v0.2.1, (x.1.1.2.1.getD (x.2.1).toNat (0 : Int))))) (fun (v1 : (List Int)) => (if (((0 : Int) ≤ x.2.2) ∧ (x.2.2 < ((x.1.1.2.1.length : Nat) : Int))) then (Option.bind (G120 (x.1.1, (v0.2.1, (x.1.1.2.1.getD (x.2.2).toNat (0 : Int))))) (fun (v2 : (List Int)) => (some (LO.next (1, ((IntKind.wrap .i64 (v0.2.1 + (1 : Int))), ((0 : Int), ((0 : Int), (v1, v2))))))))) else none))) else none)) else (if v0.1 = 1 then (bif (decide (v0.2.2.1 = ((v0.2.2.2.2.1.length : Nat) : Int))) then (some (LO.next (0, (v0.2.1, (v0.2.2.1, (v0.2.2.2.1, (v0.2.2.2.2.1, v0.2.2.2.2.2))))))) else (Option.bind (bif (decide (v0.2.2.2.1 = ((v0.2.2.2.2.2.length : Nat) : Int))) then (some true) else (if (((0 : Int) ≤ v0.2.2.1) ∧ (v0.2.2.1 < ((v0.2.2.2.2.1.length : Nat) : Int))) then (if (((0 : Int) ≤ (v0.2.2.2.2.1.getD (v0.2.2.1).toNat (0 : Int))) ∧ ((v0.2.2.2.2.1.getD (v0.2.2.1).toNat (0 : Int)) < ((x.1.2.2.length : Nat) : Int))) then (some (!(x.1.2.2.getD ((v0.2.2.2.2.1.getD (v0.2.2.1).toNat (0 : Int))).toNat false))) else none) else none)) (fun (v1 : Bool) => (bif v1 then (some (LO.next (1, (v0.2.1, ((IntKind.wrap .i64 (v0.2.2.1 + (1 : Int))), ((0 : Int), (v0.2.2.2.2.1, v0.2.2.2.2.2))))))) else (if (((0 : Int) ≤ v0.2.2.1) ∧ (v0.2.2.1 < ((v0.2.2.2.2.1.length : Nat) : Int))) then (Option.bind (G123 (x.1.1, ((v0.2.2.2.2.1.getD (v0.2.2.1).toNat (0 : Int)), x.2.1))) (fun (v2 : Int) => (if (((0 : Int) ≤ v0.2.2.2.1) ∧ (v0.2.2.2.1 < ((v0.2.2.2.2.2.length : Nat) : Int))) then (Option.bind (G123 (x.1.1, ((v0.2.2.2.2.2.getD (v0.2.2.2.1).toNat (0 : Int)), x.2.2))) (fun (v3 : Int) => (bif (decide (v2 = v3)) then (if (((0 : Int) ≤ v0.2.2.1) ∧ (v0.2.2.1 < ((v0.2.2.2.2.1.length : Nat) : Int))) then (if (((0 : Int) ≤ v0.2.2.2.1) ∧ (v0.2.2.2.1 < ((v0.2.2.2.2.2.length : Nat) : Int))) then (retM (some ((v0.2.2.2.2.1.getD (v0.2.2.1).toNat (0 : Int)), ((v0.2.2.2.2.2.getD (v0.2.2.2.1).toNat (0 : Int)), true)))) else none) else none) else (some (LO.next (1, (v0.2.1, (v0.2.2.1, ((IntKind.wrap .i64 (v0.2.2.2.1 + (1 : Int))), (v0.2.2.2.2.1, v0.2.2.2.2.2)))))))))) else none))) else none))))) else none)))
theorem G142_eq (x : (((Int × ((List Int) × ((List Int) × ((List Int) × (List (List Int)))))) × ((List Int) × (List Bool))) × (Int × Int))) : G142 x = Option.bind (tloop (F142 x) (0, ((0 : Int), ((0 : Int), ((0 : Int), ([], [])))))) LO.fin1 := rfl

theorem wi_homL {c : Cat} {x y : Int} : wi (ar c) (homL c x y) = true := by
  unfold wi
  rw [List.all_eq_true]
  intro a ha
  obtain ⟨g, hg, rfl⟩ := List.mem_map.1 ha
  exact inn_iff.2 (in_cast (List.mem_range.1 (List.mem_filter.1 hg).1))
section
variable {c : Cat} {w : List Int} {f v : Nat} (h : Sh c) (hf : f < ar c) (hv : v < ar c)
include h hf hv
def St1 (u : Int) (i k : Nat) (d n : List Int) : SqS := (1, (u, ((i : Int), ((k : Int), (d, n)))))
/-- one row: the numerators from k on -/
theorem sq_row {u : Int} {d n : List Int} (hd : wi (ar c) d = true) (hn : wi (ar c) n = true) (hdl : d.length ≤ 40) (hnl : n.length ≤ 40) {i : Nat} (hi : i < d.length) : ∀ m k, k + m = n.length →
    ((n.drop k).any (hit c w f v (d.getD i 0)) = true → ∃ r, tloop (F142 ((c, (w, mkB c w)), ((f : Int), (v : Int)))) (St1 u i k d n) = some (.ret r) ∧ r.2.2 = true) ∧
    ((n.drop k).any (hit c w f v (d.getD i 0)) = false → tloop (F142 ((c, (w, mkB c w)), ((f : Int), (v : Int)))) (St1 u i k d n) = tloop (F142 ((c, (w, mkB c w)), ((f : Int), (v : Int)))) (St1 u (i + 1) 0 d n)) := by
  have hm : ar c ≤ 40 := h.hd.2.1
  obtain ⟨b, hb, eb⟩ := getW hd hi
  intro m
  induction m with
  | zero =>
    intro k hk
    obtain rfl : k = n.length := by omega
    rw [List.drop_length]
    refine ⟨(fun hc => by cases hc), fun _ => ?_⟩
    rw [tloop_eq]
    have e : F142 ((c, (w, mkB c w)), ((f : Int), (v : Int))) (St1 u i n.length d n) = some (.next (St1 u (i + 1) 0 d n)) := by
      unfold F142 St1
      have e1 : decide ((i : Int) = ((d.length : Nat) : Int)) = false := decide_eq_false (by omega)
      simp only [Nat.one_ne_zero, if_false, if_true, e1, cond_false, decide_true, cond_true, Option.bind_some]
      rw [wrap_sm (by omega) (by omega)]
      rfl
    rw [e]; rfl
  | succ m ih =>
    intro k hk
    have hkn : k < n.length := by omega
    obtain ⟨a, ha, ea⟩ := getW hn hkn
    have ed : n.drop k = (a : Int) :: n.drop (k + 1) := by
      rw [List.drop_eq_getElem_cons hkn]
      congr 1
      rw [← ea, List.getD_eq_getElem?_getD, List.getElem?_eq_getElem hkn]; rfl
    rw [ed, List.any_cons]
    have e1 : decide ((i : Int) = ((d.length : Nat) : Int)) = false := decide_eq_false (by omega)
    have e2 : decide ((k : Int) = ((n.length : Nat) : Int)) = false := decide_eq_false (by omega)
    have ehit : hit c w f v (d.getD i 0) (a : Int) = (w.contains (b : Int) && decide (T c b f = T c a v)) := by
      unfold hit; rw [eb]; rfl
    cases hw : w.contains (b : Int) with
    | false =>
      have hall : ∀ y : Int, hit c w f v (d.getD i 0) y = false := fun y => by unfold hit; rw [eb, hw]; rfl
      have hz : (n.drop (k + 1)).any (hit c w f v (d.getD i 0)) = false := by rw [List.any_eq_false]; intro y _; rw [hall]; simp
      rw [hall, hz]
      refine ⟨(fun hc => by cases hc), fun _ => ?_⟩
      rw [tloop_eq]
      have e : F142 ((c, (w, mkB c w)), ((f : Int), (v : Int))) (St1 u i k d n) = some (.next (St1 u (i + 1) 0 d n)) := by
        unfold F142 St1
        simp only [Nat.one_ne_zero, if_false, if_true, e1, e2, cond_false, in_cast hi, and_self, Int.toNat_natCast, eb, mkB_len, in_cast hb, mkB_get hb, hw, Bool.not_false, Option.bind_some, cond_true]
        rw [wrap_sm (by omega) (by omega)]
        rfl
      rw [e]; rfl
    | true =>
      rw [ehit, hw, Bool.true_and]
      have e : F142 ((c, (w, mkB c w)), ((f : Int), (v : Int))) (St1 u i k d n) = (bif decide (T c b f = T c a v) then retM (some ((b : Int), ((a : Int), true))) else some (.next (St1 u i (k + 1) d n))) := by
        unfold F142 St1
        simp only [Nat.one_ne_zero, if_false, if_true, e1, e2, cond_false, in_cast hi, in_cast hkn, and_self, Int.toNat_natCast, eb, ea, mkB_len, in_cast hb, mkB_get hb, hw, Bool.not_true, Option.bind_some, cond_false, p123 h (in_cast hb) (in_cast hf), p123 h (in_cast ha) (in_cast hv)]
        rw [wrap_sm (by omega) (by omega)]
        rfl
      rw [tloop_eq, e]
      cases decide (T c b f = T c a v) with
      | true => exact ⟨fun _ => ⟨_, rfl, rfl⟩, (fun hc => by cases hc)⟩
      | false =>
        rw [Bool.false_or]
        exact ih (k + 1) (by omega)
/-- all rows from i on -/
theorem sq_rows {u : Int} {d n : List Int} (hd : wi (ar c) d = true) (hn : wi (ar c) n = true) (hdl : d.length ≤ 40) (hnl : n.length ≤ 40) : ∀ m i, i + m = d.length →
    ((d.drop i).any (fun b => n.any (hit c w f v b)) = true → ∃ r, tloop (F142 ((c, (w, mkB c w)), ((f : Int), (v : Int)))) (St1 u i 0 d n) = some (.ret r) ∧ r.2.2 = true) ∧
    ((d.drop i).any (fun b => n.any (hit c w f v b)) = false → tloop (F142 ((c, (w, mkB c w)), ((f : Int), (v : Int)))) (St1 u i 0 d n) = tloop (F142 ((c, (w, mkB c w)), ((f : Int), (v : Int)))) (0, (u, ((d.length : Int), ((0 : Int), (d, n)))))) := by
  intro m
  induction m with
  | zero =>
    intro i hi
    obtain rfl : i = d.length := by omega
    rw [List.drop_length]
    refine ⟨(fun hc => by cases hc), fun _ => ?_⟩
    rw [tloop_eq]
    have e : F142 ((c, (w, mkB c w)), ((f : Int), (v : Int))) (St1 u d.length 0 d n) = some (.next (0, (u, ((d.length : Int), ((0 : Int), (d, n)))))) := by
      unfold F142 St1
      simp only [Nat.one_ne_zero, if_false, if_true, decide_true, cond_true]
      rfl
    rw [e]; rfl
  | succ m ih =>
    intro i hi
    have hid : i < d.length := by omega
    have ed : d.drop i = d.getD i 0 :: d.drop (i + 1) := by
      rw [List.drop_eq_getElem_cons hid]
      congr 1
      rw [List.getD_eq_getElem?_getD, List.getElem?_eq_getElem hid]; rfl
    rw [ed, List.any_cons]
    obtain ⟨g1, g2⟩ := sq_row h hf hv (u := u) hd hn hdl hnl hid n.length 0 (by omega)
    rw [List.drop_zero] at g1 g2
    cases hr : n.any (hit c w f v (d.getD i 0)) with
    | true => exact ⟨fun _ => g1 hr, (fun hc => by cases hc)⟩
    | false =>
      rw [g2 hr, Bool.false_or]
      exact ih (i + 1) (by omega)
/-- all objects from s on -/
theorem sq_all {n : Nat} (hn : c.1 = (n : Int)) : ∀ m s, s + m = n → ∀ (i k : Int) (d e : List Int), ∃ r, tloop (F142 ((c, (w, mkB c w)), ((f : Int), (v : Int)))) (0, ((s : Int), (i, (k, (d, e))))) = some (.ret r) ∧ r.2.2 = (List.range' s m).any (sqS c w f v) := by
  have hh := h.hd
  obtain ⟨a1, a2, a3, a4, a5, a6, a7, a8⟩ := hh
  have hm2 : c.2.1.length ≤ 1048576 := by omega
  intro m
  induction m with
  | zero =>
    intro s hs i k d e
    rw [tloop_eq]
    have e : F142 ((c, (w, mkB c w)), ((f : Int), (v : Int))) (0, ((s : Int), (i, (k, (d, e))))) = retM (some ((0 : Int), ((0 : Int), false))) := by
      unfold F142
      simp only [if_true]
      have : decide ((s : Int) = c.1) = true := decide_eq_true (by omega)
      rw [this]; rfl
    rw [e]
    exact ⟨_, rfl, rfl⟩
  | succ m ih =>
    intro s hs i k d e
    have hf2 : f < c.2.1.length := hf
    have hv2 : v < c.2.1.length := hv
    have ef : F142 ((c, (w, mkB c w)), ((f : Int), (v : Int))) (0, ((s : Int), (i, (k, (d, e))))) = some (.next (St1 ((s + 1 : Nat) : Int) 0 0 (homL c (s : Int) (fT c f)) (homL c (s : Int) (fT c v)))) := by
      unfold F142 St1
      have e1 : decide ((s : Int) = c.1) = false := decide_eq_false (by omega)
      simp only [if_true, e1, cond_false, in_cast hf2, in_cast hv2, and_self, Int.toNat_natCast, p120 hm2 a3, Option.bind_some]
      rw [wrap_sm (by omega) (by omega)]
      rfl
    rw [tloop_eq, ef]
    show ∃ r, tloop _ _ = _ ∧ _
    have hm : ar c ≤ 40 := a2
    have l1 := homL_len (c := c) (x := (s : Int)) (y := fT c f)
    have l2 := homL_len (c := c) (x := (s : Int)) (y := fT c v)
    obtain ⟨g1, g2⟩ := sq_rows (w := w) h hf hv (u := ((s + 1 : Nat) : Int)) (wi_homL (x := (s : Int)) (y := fT c f)) (wi_homL (x := (s : Int)) (y := fT c v)) (by omega) (by omega) (homL c (s : Int) (fT c f)).length 0 (by omega)
    rw [List.drop_zero] at g1 g2
    rw [List.range'_succ, List.any_cons]
    have es : sqS c w f v s = (homL c (s : Int) (fT c f)).any fun b => (homL c (s : Int) (fT c v)).any (hit c w f v b) := rfl
    cases hq : sqS c w f v s with
    | true =>
      obtain ⟨r, h1, h2⟩ := g1 (es ▸ hq)
      exact ⟨r, h1, h2⟩
    | false =>
      rw [g2 (es ▸ hq), Bool.false_or]
      exact ih (s + 1) (by omega) _ _ _ _
theorem p142 : ∃ r, G142 ((c, (w, mkB c w)), ((f : Int), (v : Int))) = some r ∧ r.2.2 = sq c w f v := by
  have hh := h.hd
  obtain ⟨a1, _⟩ := hh
  obtain ⟨n, hn⟩ : ∃ n : Nat, c.1 = (n : Int) := ⟨c.1.toNat, by omega⟩
  obtain ⟨r, h1, h2⟩ := sq_all (w := w) h hf hv hn n 0 (by omega) 0 0 [] []
  rw [G142_eq]
  refine ⟨r, ?_, ?_⟩
  · show Option.bind (tloop _ (0, (((0 : Nat) : Int), _))) _ = _
    rw [h1]; rfl
  · rw [h2]
    unfold sq
    rw [hn, Int.toNat_natCast, List.range_eq_range']
theorem p133 : G133 ((c, (w, mkB c w)), ((f : Int), (v : Int))) = some (sq c w f v) := by
  obtain ⟨r, h1, h2⟩ := p142 (w := w) h hf hv
  unfold G133
  rw [h1, ← h2]; rfl
end
end Go.Ve.D

