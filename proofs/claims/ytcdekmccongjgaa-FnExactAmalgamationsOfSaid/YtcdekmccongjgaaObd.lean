/- Families on a sieve: amalgamations. -/
import Derived.Test.YtcdekmccongjgaaObc
namespace Go.Ve.D
open Go Go.Ve
noncomputable section

abbrev Rule := Int × Int × List Int
def ruOf (f : SF) (w : List Int) (i b : Nat) : Rule := ((i : Int), (ix w (T (shS f) (wa w i) b), act f b))
def ruRow (f : SF) (w : List Int) (i : Nat) : List Rule := (List.range (outL (shS f) (tT (shS f) (wa w i))).length).flatMap fun j => [ruOf f w i ((outL (shS f) (tT (shS f) (wa w i))).getD j 0).toNat]
def rules (f : SF) (w : List Int) : List Rule := (List.range w.length).flatMap (ruRow f w)
def szE (f : SF) (w : List Int) (i : Nat) : Int := sz f (tT (shS f) (wa w i))
def szs (f : SF) (w : List Int) : List Int := (List.range w.length).map (szE f w)
theorem ruRow_len {f : SF} (hm : ar (shS f) ≤ 40) {w : List Int} {i : Nat} : (ruRow f w i).length ≤ 40 := by
  have := flat_len (g := fun j => [ruOf f w i ((outL (shS f) (tT (shS f) (wa w i))).getD j 0).toNat]) (K := 1) (outL (shS f) (tT (shS f) (wa w i))).length fun b _ => Nat.le_refl _
  have h2 : (outL (shS f) (tT (shS f) (wa w i))).length ≤ ar (shS f) := fm_len
  unfold ruRow; omega
theorem rules_len {f : SF} (hm : ar (shS f) ≤ 40) {w : List Int} {n : Nat} (hn : n ≤ 1048576) : ((List.range n).flatMap (ruRow f w)).length ≤ 41943040 := by
  have := flat_len (g := ruRow f w) (K := 40) n fun i _ => ruRow_len hm
  omega
theorem p93 {f : SF} (h : FS f) {x : Int} {w : List Int} (hw : w.length ≤ 1048576) (hs : SV (shS f) x w) : G93 (f, w) = some (szs f w, rules f w) := by
  obtain ⟨a1, a2, a3, a4, a5, a6, a7, a8⟩ := h.sh.hd
  have hm : ar (shS f) ≤ 40 := a2
  have l1 : ((f.2.2.2.2.2.1.length : Nat) : Int) = f.1 := h.l1
  have l2 : f.2.2.2.2.2.2.length = ar (shS f) := h.l2
  have b3 : f.2.2.1.length = ar (shS f) := a3
  unfold G93
  refine bind_of (v := .brk 0 ((w.length : Int), (szs f w, rules f w))) (tloop_iter (st := fun i : Nat => ((i : Int), ((List.range i).map (szE f w), (List.range i).flatMap (ruRow f w)))) (n := w.length) (fun i hi => ?_) ?_ (fun y => by simp)) rfl
  · obtain ⟨a, ha, ea, ef, hc⟩ := hs.el i hi
    have ewa : wa w i = a := by unfold wa; rw [ea, Int.toNat_natCast]
    have ha3 : a < f.2.2.1.length := by omega
    obtain ⟨t1, t2⟩ := h.sh.to a ha
    have hg : (0 : Int) ≤ f.2.2.1.getD a 0 ∧ f.2.2.1.getD a 0 < ((f.2.2.2.2.2.1.length : Nat) : Int) := ⟨t1, by rw [l1]; exact t2⟩
    have e0 : G148 ((f.1, (f.2.1, (f.2.2.1, (f.2.2.2.1, f.2.2.2.2.1)))), f.2.2.1.getD a 0) = some (outL (shS f) (tT (shS f) a)) := p148 (c := shS f) (by show ar (shS f) ≤ 1048576; omega) _
    simp only [lt_cast, hi, decide_true, cond_true, in_cast hi, ea, in_cast ha3, hg, and_self, if_true, Int.toNat_natCast, e0, Option.bind_some, List.length_map, List.length_range, List.length_cons, List.length_nil]
    rw [if_pos (show i + (0 + 1) ≤ 17592186044416 by omega)]
    have hl := rules_len (f := f) hm (w := w) (n := i) (by omega)
    have hol : (outL (shS f) (tT (shS f) a)).length ≤ ar (shS f) := fm_len
    refine bind_of (v := .brk 2 (((outL (shS f) (tT (shS f) a)).length : Int), (List.range i).flatMap (ruRow f w) ++ ruRow f w i)) ?_ ?_
    · unfold ruRow
      rw [ewa]
      refine accum (K := 1) (L := ((List.range i).flatMap (ruRow f w)).length) (n := (outL (shS f) (tT (shS f) a)).length) (g := fun j => [ruOf f w i ((outL (shS f) (tT (shS f) a)).getD j 0).toNat]) (fun j hj => Nat.le_refl _) (fun j hj acc hacc => ?_) (fun acc => ?_) _ (Nat.le_refl _)
      · obtain ⟨b, hb, _, eb⟩ : ∃ b : Nat, b < ar (shS f) ∧ _ ∧ (outL (shS f) (tT (shS f) a)).getD j 0 = (b : Int) := fm_get hj
        have hb2 : b < f.2.2.2.2.2.2.length := by omega
        have e2 : G118 ((f.1, (f.2.1, (f.2.2.1, (f.2.2.2.1, f.2.2.2.2.1)))), ((a : Int), (b : Int))) = some (T (shS f) a b) := p118 h.sh (f := (a : Int)) (g := (b : Int)) (in_cast ha) (in_cast hb)
        simp only [lt_cast, hj, decide_true, cond_true, in_cast hj, eb, e2, p150 hw, in_cast hb2, and_self, if_true, Int.toNat_natCast, Option.bind_some]
        rw [wrap_sm (by omega) (by omega), if_pos (show acc.length + (0 + 1) ≤ 3518437208883 by omega)]
        unfold ruOf
        rw [ewa]
        rfl
      · simp only [lt_cast, Nat.lt_irrefl, decide_false, cond_false]
    · show (if 2 = 2 then _ else none) = _
      rw [if_pos rfl, wrap_sm (by omega) (by omega), List.range_succ, List.map_append, List.flatMap_append]
      simp only [List.flatMap_cons, List.flatMap_nil, List.append_nil, List.map_cons, List.map_nil]
      unfold szE sz
      rw [ewa]
      rfl
  · simp only [lt_cast, Nat.lt_irrefl, decide_false, cond_false]
    rfl
theorem ru_get {f : SF} {w : List Int} {i : Nat} (hi : i < (rules f w).length) : ∃ j b : Nat, j < w.length ∧ b < ar (shS f) ∧ fol (shS f) w j b = true ∧ (rules f w).getD i ((0 : Int), ((0 : Int), ([] : List Int))) = ruOf f w j b := by
  have hm := getD_mem' (((0 : Int), ((0 : Int), ([] : List Int))) : Rule) hi
  obtain ⟨j, hj, h2⟩ := List.mem_flatMap.1 hm
  obtain ⟨k, hk, h3⟩ := List.mem_flatMap.1 h2
  obtain ⟨b, hb, hq, eb⟩ := fm_get (List.mem_range.1 hk)
  have eb : (outL (shS f) (tT (shS f) (wa w j))).getD k 0 = (b : Int) := eb
  rw [eb, Int.toNat_natCast] at h3
  exact ⟨j, b, List.mem_range.1 hj, hb, hq, List.mem_singleton.1 h3⟩
theorem rules_all {f : SF} {w : List Int} (q : Rule → Bool) : (rules f w).all q = (List.range w.length).all fun i => (List.range (ar (shS f))).all fun b => !fol (shS f) w i b || q (ruOf f w i b) := by
  unfold rules
  rw [List.all_flatMap]
  refine all_congr' fun i _ => ?_
  unfold ruRow
  rw [List.all_flatMap]
  have e := out_all (c := shS f) (x := tT (shS f) (wa w i)) (q := fun b => q (ruOf f w i b.toNat))
  simp only [List.all_cons, List.all_nil, Bool.and_true]
  refine Eq.trans e ?_
  refine all_congr' fun b _ => ?_
  rw [Int.toNat_natCast]
  rfl
def ruOK (fam : List Int) (r : Rule) : Bool := decide (fam.getD r.2.1.toNat 0 = r.2.2.getD (fam.getD r.1.toNat 0).toNat 0)
theorem szs_get {f : SF} {w : List Int} {i : Nat} (hi : i < w.length) : (szs f w).getD i 0 = szE f w i := by
  simp [szs, hi]
theorem szs_len {f : SF} {w : List Int} : (szs f w).length = w.length := by simp [szs]
theorem p54 {f : SF} (h : FS f) {x : Int} {w fam : List Int} (hw : w.length ≤ 1048576) (hs : SV (shS f) x w) : G54 (f, (w, fam)) = some (matB f w fam) := by
  obtain ⟨a1, a2, a3, a4, a5, a6, a7, a8⟩ := h.sh.hd
  have hm : ar (shS f) ≤ 40 := a2
  unfold G54 matB
  simp only [p93 h hw hs, Option.bind_some, szs_len]
  cases hl : decide ((fam.length : Int) = (w.length : Int)) with
  | false => rfl
  | true =>
  have hl := of_decide_eq_true hl
  have hl : fam.length = w.length := by omega
  simp only [Bool.not_true, cond_false, Bool.true_and, hl]
  refine chk3 (st := fun i : Nat => (i : Int)) (n := w.length) (p := elOK f w fam) (Q := fun r : Bool => r = false) (o := .brk 0 (w.length : Int)) (Post := fun b (o : Option Bool) => o = some (b && (List.range w.length).all fun i => (List.range (ar (shS f))).all (maOK f w fam i))) (fun i hi => ?_) ?_ (fun y => by simp) (fun hall => ?_) (fun r hr => by rw [hr]; rfl)
  · obtain ⟨a, ha, ea, ef, hc⟩ := hs.el i hi
    have ewa : wa w i = a := by unfold wa; rw [ea, Int.toNat_natCast]
    obtain ⟨z1, z2⟩ := h.szi (h.sh.to a ha)
    have e1 : G62 (fam.getD i 0, ((0 : Int), IntKind.wrap .i64 (szE f w i - 1))) = some (elOK f w fam i) := by
      unfold elOK szE
      rw [ewa]
      exact p62' _ _ ⟨z1, Int.le_trans z2 (by decide)⟩
    simp only [lt_cast, hi, decide_true, cond_true, in_cast hi, and_self, if_true, Int.toNat_natCast, szs_get hi, e1, Option.bind_some]
    rw [wrap_sm (by omega) (by omega)]
    cases elOK f w fam i with
    | true => exact inn1_t rfl
    | false => exact inn1_f ⟨_, rfl, rfl⟩
  · simp only [lt_cast, Nat.lt_irrefl, decide_false, cond_false]
  · show (if 0 = 0 then _ else none) = _
    have hll := rules_len (f := f) hm (w := w) hw
    have hll : (rules f w).length ≤ 41943040 := hll
    rw [if_pos rfl, Bool.true_and]
    have es : ((List.range w.length).all fun i => (List.range (ar (shS f))).all (maOK f w fam i)) = (List.range (rules f w).length).all fun i => ruOK fam ((rules f w).getD i ((0 : Int), ((0 : Int), ([] : List Int)))) := by
      rw [all_idx (((0 : Int), ((0 : Int), ([] : List Int))) : Rule) (ruOK fam), rules_all]
      rfl
    rw [es]
    refine chk3 (st := fun i : Nat => ((i : Int), rules f w)) (n := (rules f w).length) (p := fun i => ruOK fam ((rules f w).getD i ((0 : Int), ((0 : Int), ([] : List Int))))) (Q := fun r : Bool => r = false) (o := .brk 2 ((rules f w).length, rules f w)) (Post := fun b (o : Option Bool) => o = some b) (fun i hi => ?_) ?_ (fun y => by simp) (fun _ => rfl) (fun r hr => by rw [hr])
    · obtain ⟨j, b, hj, hb, hf, el⟩ := ru_get hi
      obtain ⟨d, t, ed, hd, et, ht⟩ := fam_at h hw hs hl hall hj hb hf
      unfold ruOf at el
      rw [et] at el
      have ht' : t < w.length := by omega
      simp only [lt_cast, hi, decide_true, cond_true, in_cast hi, and_self, if_true, Int.toNat_natCast, el, in_cast hj, in_cast ht', ed, in_cast hd]
      rw [wrap_sm (by omega) (by omega)]
      unfold ruOK
      show (decide (fam.getD t 0 = (act f b).getD (fam.getD j 0).toNat 0) = true → _) ∧ (decide (fam.getD t 0 = (act f b).getD (fam.getD j 0).toNat 0) = false → _)
      rw [ed, Int.toNat_natCast]
      cases decide (fam.getD t 0 = (act f b).getD d 0) with
      | true => exact ⟨fun _ => rfl, (fun h => by cases h)⟩
      | false => exact ⟨(fun h => by cases h), fun _ => ⟨_, rfl, rfl⟩⟩
    · simp only [lt_cast, Nat.lt_irrefl, decide_false, cond_false]

/-! Images. -/
def imgs (f : SF) (w : List Int) (e : Nat) : List Int := (List.range w.length).map fun i => (act f (wa w i)).getD e 0
theorem p90 {f : SF} (h : FS f) {x : Int} {w : List Int} (hw : w.length ≤ 1048576) (hs : SV (shS f) x w) {e : Nat} (he : (e : Int) < sz f x) : G90 (f, (w, (e : Int))) = some (imgs f w e) := by
  have l2 : f.2.2.2.2.2.2.length = ar (shS f) := h.l2
  unfold G90
  refine bind_of (v := .brk 0 ((w.length : Int), imgs f w e)) (gatherM (fun i hi acc ha => ?_) fun acc => ?_) rfl
  · obtain ⟨a, hal, ea, ef, hc⟩ := hs.el i hi
    have ewa : wa w i = a := by unfold wa; rw [ea, Int.toNat_natCast]
    have hl := h.al a hal
    rw [ef] at hl
    have hel : e < (f.2.2.2.2.2.2.getD a []).length := by
      show e < (act f a).length
      omega
    have ha2 : a < f.2.2.2.2.2.2.length := by omega
    simp only [lt_cast, hi, decide_true, cond_true, in_cast hi, ea, in_cast ha2, in_cast hel, and_self, if_true, Int.toNat_natCast, List.length_cons, List.length_nil]
    rw [wrap_sm (by omega) (by omega), if_pos (show acc.length + (0 + 1) ≤ 17592186044416 by omega), ewa]
    rfl
  · simp only [lt_cast, Nat.lt_irrefl, decide_false, cond_false]
theorem p95 {f : SF} (h : FS f) {x : Int} {w : List Int} (hw : w.length ≤ 1048576) (hs : SV (shS f) x w) {e : Nat} (he : (e : Int) < sz f x) : G95 (f, (w, (e : Int))) = some (imgs f w e) := p90 h hw hs he
theorem imgs_len {f : SF} {w : List Int} {e : Nat} : (imgs f w e).length = w.length := by simp [imgs]
theorem list_eq {x y : List Int} (h : x.length = y.length) : decide (x = y) = (List.range x.length).all fun i => decide (x.getD i 0 = y.getD i 0) := by
  rw [Bool.eq_iff_iff, decide_eq_true_eq, List.all_eq_true]
  constructor
  · rintro rfl i _
    exact decide_eq_true rfl
  · intro H
    refine List.ext_getElem h fun i h1 h2 => ?_
    have := of_decide_eq_true (H i (List.mem_range.2 h1))
    simpa [h1, h2] using this
theorem p89 {x y : List Int} (hx : x.length ≤ 1048576) : G89 (x, y) = some (decide (x = y)) := by
  unfold G89
  cases hl : decide ((x.length : Int) = (y.length : Int)) with
  | false =>
    have hl := of_decide_eq_false hl
    have : decide (x = y) = false := decide_eq_false fun h => hl (by rw [h])
    rw [this]; rfl
  | true =>
    have hl := of_decide_eq_true hl
    have hl : x.length = y.length := by omega
    rw [list_eq hl]
    simp only [Bool.not_true, cond_false]
    refine chkT (n := x.length) (p := fun i => decide (x.getD i 0 = y.getD i 0)) (bad := fun r : Bool => r = false) (id := 0) (Post := fun b (o : Option Bool) => o = some b) (fun i hi => ?_) ?_ rfl (fun r hr => by rw [hr])
    · have hy : i < y.length := by omega
      simp only [lt_cast, hi, decide_true, cond_true, in_cast hi, in_cast hy, and_self, if_true, Int.toNat_natCast]
      rw [wrap_sm (by omega) (by omega)]
      cases decide (x.getD i 0 = y.getD i 0) with
      | true => exact inn1_t rfl
      | false => exact inn1_f ⟨_, rfl, rfl⟩
    · simp only [lt_cast, Nat.lt_irrefl, decide_false, cond_false]
theorem all_refl {x y : List Int} {n : Nat} (h : (List.range n).all (fun i => decide (x.getD i 0 = y.getD i 0)) = false) : decide (x = y) = false := by
  cases hd : decide (x = y) with
  | false => rfl
  | true =>
    rw [of_decide_eq_true hd] at h
    have : (List.range n).all (fun i => decide (y.getD i 0 = y.getD i 0)) = true := List.all_eq_true.2 fun i _ => decide_eq_true rfl
    rw [this] at h; cases h
theorem p94 {x y : List Int} (hx : x.length ≤ 1048576) (hy : y.length ≤ 1048576) : G94 (x, y) = some (decide (x = y)) := by
  have key : ∃ r, G151 (x, y) = some r ∧ decide (r = 0) = decide (x = y) := by
    unfold G151
    have step : ∀ i, i < x.length → i < y.length → ∀ F : Int → Option (LO Int Int), F = (fun (v0 : Int) => (bif (decide (v0 < ((x.length : Nat) : Int))) then (bif (decide (v0 = ((y.length : Nat) : Int))) then (retM (some (1 : Int))) else (if (((0 : Int) ≤ v0) ∧ (v0 < ((x.length : Nat) : Int))) then (if (((0 : Int) ≤ v0) ∧ (v0 < ((y.length : Nat) : Int))) then (bif (!decide ((x.getD (v0).toNat (0 : Int)) = (y.getD (v0).toNat (0 : Int)))) then (if (((0 : Int) ≤ v0) ∧ (v0 < ((x.length : Nat) : Int))) then (if (((0 : Int) ≤ v0) ∧ (v0 < ((y.length : Nat) : Int))) then (bif (decide ((x.getD (v0).toNat (0 : Int)) < (y.getD (v0).toNat (0 : Int)))) then (retM (some (-(1 : Int)))) else (retM (some (1 : Int)))) else none) else none) else (some (LO.next (IntKind.wrap .i64 (v0 + (1 : Int)))))) else none) else none)) else (some (LO.brk 0 v0)))) →
        (decide (x.getD i 0 = y.getD i 0) = true → F (i : Int) = some (.next ((i + 1 : Nat) : Int))) ∧ (decide (x.getD i 0 = y.getD i 0) = false → ∃ r, F (i : Int) = some (.ret r) ∧ decide (r = 0) = false) := by
      rintro i h1 h2 F rfl
      have e1 : decide ((i : Int) = (y.length : Int)) = false := decide_eq_false (by omega)
      simp only [lt_cast, h1, decide_true, cond_true, in_cast h1, and_self, if_true, Int.toNat_natCast, e1, cond_false, in_cast h2]
      rw [wrap_sm (by omega) (by omega)]
      cases decide (x.getD i 0 = y.getD i 0) with
      | true => exact ⟨fun _ => rfl, (fun h => by cases h)⟩
      | false =>
        refine ⟨(fun h => by cases h), fun _ => ?_⟩
        simp only [Bool.not_false, cond_true]
        cases decide (x.getD i 0 < y.getD i 0) <;> exact ⟨_, rfl, rfl⟩
    by_cases hl : x.length ≤ y.length
    · refine chk_bind (st := fun i : Nat => (i : Int)) (n := x.length) (p := fun i => decide (x.getD i 0 = y.getD i 0)) (Q := fun r : Int => decide (r = 0) = false) (o := .brk 0 (x.length : Int)) (Post := fun o : Option Int => ∃ r, o = some r ∧ decide (r = 0) = decide (x = y)) (fun i hi => step i hi (by omega) _ rfl) ?_ (fun y => by simp) (fun hall => ?_) (fun hall r hr => ⟨r, rfl, by rw [hr, all_refl hall]⟩)
      · simp only [lt_cast, Nat.lt_irrefl, decide_false, cond_false]
      · show ∃ r, (if 0 = 0 then _ else none) = some r ∧ _
        rw [if_pos rfl]
        simp only [lt_cast]
        by_cases h2 : x.length < y.length
        · have : decide (x = y) = false := decide_eq_false fun h => by rw [h] at h2; omega
          simp only [h2, decide_true, cond_true, this]
          exact ⟨_, rfl, rfl⟩
        · have : decide (x = y) = true := by rw [list_eq (by omega)]; exact hall
          simp only [h2, decide_false, cond_false, this]
          exact ⟨_, rfl, rfl⟩
    · have hne : decide (x = y) = false := decide_eq_false fun h => hl (by rw [h]; exact Nat.le_refl _)
      have hyx : y.length < x.length := by omega
      refine chk_bind (st := fun i : Nat => (i : Int)) (n := y.length) (p := fun i => decide (x.getD i 0 = y.getD i 0)) (Q := fun r : Int => decide (r = 0) = false) (o := .ret 1) (Post := fun o : Option Int => ∃ r, o = some r ∧ decide (r = 0) = decide (x = y)) (fun i hi => step i (by omega) hi _ rfl) ?_ (fun y => by simp) (fun hall => ?_) (fun hall r hr => ⟨r, rfl, by rw [hr, hne]⟩)
      · simp only [lt_cast, hyx, decide_true, cond_true]
        rfl
      · exact ⟨1, rfl, by rw [hne]; rfl⟩
  obtain ⟨r, hr, he⟩ := key
  unfold G94
  simp only [hr, Option.bind_some, he]
end
end Go.Ve.D

