/- Families on a sieve: which match. -/
import Derived.Test.YtcdekmccongjgaaObb
namespace Go.Ve.D
open Go Go.Ve
noncomputable section

/-- a loop that checks, with a state -/
theorem chk3 {X R S : Type} {F : X → Option (LO X R)} {st : Nat → X} {n : Nat} {p : Nat → Bool} {Q : R → Prop} {o : LO X R} {k : LO X R → Option S} {Post : Bool → Option S → Prop}
    (h1 : ∀ i, i < n → (p i = true → F (st i) = some (.next (st (i + 1)))) ∧ (p i = false → ∃ r, F (st i) = some (.ret r) ∧ Q r)) (h2 : F (st n) = some o) (ho : ∀ y, o ≠ .next y)
    (hA : (List.range n).all p = true → Post true (k o)) (hB : ∀ r, Q r → Post false (k (.ret r))) : Post ((List.range n).all p) (Option.bind (tloop F (st 0)) k) := by
  refine chk_bind (st := st) (p := p) (Q := Q) (o := o) (Post := fun x => Post ((List.range n).all p) x) h1 h2 ho (fun hall => ?_) (fun hall r hr => ?_)
  · rw [hall]; exact hA hall
  · rw [hall]; exact hB r hr
/-- a loop that gathers lists -/
theorem accum {α R : Type} {F : Int × List α → Option (LO (Int × List α) R)} {n K L : Nat} {g : Nat → List α} {id : Nat} (hg : ∀ i, i < n → (g i).length ≤ K)
    (h1 : ∀ i, i < n → ∀ acc : List α, acc.length ≤ L + i * K → F ((i : Int), acc) = some (.next (((i + 1 : Nat) : Int), acc ++ g i))) (h2 : ∀ acc : List α, F ((n : Int), acc) = some (.brk id ((n : Int), acc))) (acc0 : List α) (h0 : acc0.length ≤ L) :
    tloop F ((0 : Int), acc0) = some (.brk id ((n : Int), acc0 ++ (List.range n).flatMap g)) := by
  have hl : ∀ i, i ≤ n → (acc0 ++ (List.range i).flatMap g).length ≤ L + i * K := by
    intro i
    induction i with
    | zero => intro _; simpa using h0
    | succ i ih =>
      intro hi
      have := ih (by omega)
      have := hg i (by omega)
      rw [List.range_succ, List.flatMap_append, ← List.append_assoc, List.length_append]
      simp only [List.flatMap_cons, List.flatMap_nil, List.append_nil]
      rw [Nat.succ_mul]; omega
  have hst := tloop_iter (f := F) (st := fun i : Nat => ((i : Int), acc0 ++ (List.range i).flatMap g)) (n := n) (o := .brk id ((n : Int), acc0 ++ (List.range n).flatMap g)) (fun i hi => ?_) (h2 _) (fun y => by simp)
  · simpa using hst
  · rw [h1 i hi _ (hl i (by omega)), List.range_succ, List.flatMap_append, List.append_assoc]
    simp
theorem flat_len {α : Type} {g : Nat → List α} {K : Nat} : ∀ n, (∀ i, i < n → (g i).length ≤ K) → ((List.range n).flatMap g).length ≤ n * K
  | 0, _ => by simp
  | n + 1, h => by
    have := flat_len n fun i hi => h i (by omega)
    have := h n (by omega)
    rw [List.range_succ, List.flatMap_append, List.length_append, Nat.succ_mul]
    simp only [List.flatMap_cons, List.flatMap_nil, List.append_nil]
    omega
theorem gatherM {α R : Type} {F : (Int × List α) → Option (LO (Int × List α) R)} {n : Nat} {g : Nat → α} {id : Nat}
    (h1 : ∀ i, i < n → ∀ acc : List α, acc.length = i → F ((i : Int), acc) = some (.next (((i + 1 : Nat) : Int), acc ++ [g i])))
    (h2 : ∀ acc : List α, F ((n : Int), acc) = some (.brk id ((n : Int), acc))) :
    tloop F ((0 : Int), []) = some (.brk id ((n : Int), (List.range n).map g)) := by
  refine tloop_iter (st := fun i : Nat => ((i : Int), (List.range i).map g)) (n := n) (fun i hi => ?_) (h2 _) (fun y => by simp)
  rw [h1 i hi _ (by simp), List.range_succ, List.map_append]
  rfl

/-! Where a number is in a list. -/
def ix (w : List Int) (v : Int) : Int := (G144 (w, v)).getD 0
theorem ix_ex {w : List Int} (hw : w.length ≤ 1048576) (v : Int) : ∃ r, G144 (w, v) = some r ∧ (w.contains v = true → ∃ j : Nat, j < w.length ∧ r = (j : Int)) := by
  have e : w.contains v = (List.range w.length).any fun i => decide (w.getD i 0 = v) := by
    rw [any_idx' (0 : Int) (fun a => decide (a = v)) w, Bool.eq_iff_iff]
    simp [List.contains_eq_mem]
  unfold G144
  rw [e]
  refine srch (st := fun i : Nat => (i : Int)) (n := w.length) (q := fun i => decide (w.getD i 0 = v)) (Q := fun r : Int => ∃ j : Nat, j < w.length ∧ r = (j : Int)) (o := .brk 0 (w.length : Int)) (Post := fun b (o : Option Int) => ∃ r, o = some r ∧ (b = true → ∃ j : Nat, j < w.length ∧ r = (j : Int))) (fun i hi => ?_) ?_ (fun y => by simp) ⟨_, rfl, (fun h => by cases h)⟩ (fun r hr => ⟨r, rfl, fun _ => hr⟩)
  · simp only [lt_cast, hi, decide_true, cond_true, in_cast hi, if_true, and_self, Int.toNat_natCast]
    rw [wrap_sm (by omega) (by omega)]
    cases decide (w.getD i 0 = v) with
    | true => exact ⟨(fun h => by cases h), fun _ => ⟨_, rfl, i, hi, rfl⟩⟩
    | false => exact ⟨fun _ => rfl, (fun h => by cases h)⟩
  · simp only [lt_cast, Nat.lt_irrefl, decide_false, cond_false]
theorem p144 {w : List Int} (hw : w.length ≤ 1048576) (v : Int) : G144 (w, v) = some (ix w v) := by
  obtain ⟨r, hr, _⟩ := ix_ex hw v
  unfold ix
  rw [hr]; rfl
theorem ix_in {w : List Int} (hw : w.length ≤ 1048576) {v : Int} (h : w.contains v = true) : ∃ j : Nat, j < w.length ∧ ix w v = (j : Int) := by
  obtain ⟨r, hr, hj⟩ := ix_ex hw v
  unfold ix
  rw [hr]
  exact hj h
theorem p178 {w : List Int} (hw : w.length ≤ 1048576) (v : Int) : G178 (w, v) = some (ix w v) := by
  rw [← p144 hw v]
  have h : ∀ y : Int, decide (v = y) = decide (y = v) := fun y => decide_eq_decide.2 eq_comm
  unfold G178 G144
  simp only [h]
theorem p150 {w : List Int} (hw : w.length ≤ 1048576) (v : Int) : G150 (w, v) = some (ix w v) := by
  unfold G150
  simp only [p178 hw, Option.bind_some]

/-! What a sieve gives. -/
structure SV (c : Cat) (x : Int) (w : List Int) : Prop where
  wi : wi (ar c) w = true
  el : ∀ i, i < w.length → ∃ a : Nat, a < ar c ∧ w.getD i 0 = (a : Int) ∧ fT c a = x ∧ ∀ b, b < ar c → fT c b = tT c a → w.contains (T c a b) = true
theorem sv_of {c : Cat} {x : Int} {w : List Int} (h : sieve c x w = true) : SV c x w := by
  unfold sieve at h
  rw [Bool.and_eq_true, Bool.and_eq_true] at h
  obtain ⟨⟨_, hw⟩, h3⟩ := h
  refine ⟨hw, fun i hi => ?_⟩
  obtain ⟨a, ha, ea⟩ := getW hw hi
  have g := List.all_eq_true.1 h3 i (List.mem_range.2 hi)
  unfold svOne at g
  rw [ea, Int.toNat_natCast, Bool.and_eq_true, decide_eq_true_eq] at g
  refine ⟨a, ha, ea, g.1, fun b hb hm => ?_⟩
  have g2 := List.all_eq_true.1 g.2 b (List.mem_range.2 hb)
  unfold svCell mt at g2
  have : decide (c.2.2.1.getD a 0 = c.2.1.getD b 0) = true := decide_eq_true hm.symm
  rw [this, Bool.not_true, Bool.false_or] at g2
  exact g2

/-! The reference's links. -/
def wa (w : List Int) (i : Nat) : Nat := (w.getD i 0).toNat
def fol (c : Cat) (w : List Int) (i b : Nat) : Bool := decide (fT c b = tT c (wa w i))
def lk3 (c : Cat) (w : List Int) (i b : Nat) : List Int := [(i : Int), (b : Int), ix w (T c (wa w i) b)]
def lkCell (c : Cat) (w : List Int) (i b : Nat) : List (List Int) := bif fol c w i b then [lk3 c w i b] else []
def lkRow (c : Cat) (w : List Int) (i : Nat) : List (List Int) := (List.range (ar c)).flatMap (lkCell c w i)
def links (c : Cat) (w : List Int) : List (List Int) := (List.range w.length).flatMap (lkRow c w)
theorem lkCell_len {c : Cat} {w : List Int} {i b : Nat} : (lkCell c w i b).length ≤ 1 := by
  unfold lkCell
  cases fol c w i b <;> simp
theorem lkRow_len {c : Cat} (hm : ar c ≤ 40) {w : List Int} {i : Nat} : (lkRow c w i).length ≤ 40 := by
  have := flat_len (g := lkCell c w i) (K := 1) (ar c) fun b _ => lkCell_len
  unfold lkRow; omega
theorem links_len {c : Cat} (hm : ar c ≤ 40) {w : List Int} (hw : w.length ≤ 1048576) : (links c w).length ≤ 41943040 := by
  have := flat_len (g := lkRow c w) (K := 40) w.length fun i _ => lkRow_len hm
  unfold links; omega
theorem p88 {c : Cat} (h : Sh c) {x : Int} {w : List Int} (hw : w.length ≤ 1048576) (hs : SV c x w) : G88 (c, w) = some (links c w) := by
  obtain ⟨a1, a2, a3, a4, a5, a6, a7, a8⟩ := h.hd
  have hm : ar c ≤ 40 := a2
  unfold G88 links
  refine bind_of (v := .brk 0 ((w.length : Int), [] ++ (List.range w.length).flatMap (lkRow c w))) (accum (K := 40) (L := 0) (fun i hi => lkRow_len hm) (fun i hi acc ha => ?_) (fun acc => ?_) [] (Nat.zero_le _)) (by rw [List.nil_append]; rfl)
  · have hacc : acc.length ≤ 41943040 := by omega
    obtain ⟨a, ha, ea, ef, hc⟩ := hs.el i hi
    have ha2 : a < c.2.1.length := ha
    have ha3 : a < c.2.2.1.length := by omega
    have ewa : wa w i = a := by unfold wa; rw [ea, Int.toNat_natCast]
    simp only [lt_cast, hi, decide_true, cond_true, in_cast hi, and_self, if_true, Int.toNat_natCast, ea]
    refine bind_of (v := .brk 2 ((ar c : Int), acc ++ lkRow c w i)) (accum (K := 1) (L := acc.length) (g := lkCell c w i) (n := ar c) (fun b hb => lkCell_len) (fun b hb acc2 ha2' => ?_) (fun acc2 => ?_) acc (Nat.le_refl _)) ?_
    · have hb2 : b < c.2.1.length := hb
      have e2 := p110 h (f := (a : Int)) (g := (b : Int)) (in_cast ha2) (in_cast hb2)
      rw [Int.toNat_natCast, Int.toNat_natCast] at e2
      simp only [hb2, decide_true, cond_true, in_cast hb2, in_cast ha3, and_self, if_true, Int.toNat_natCast, Prod.eta, e2, p144 hw, Option.bind_some, List.length_cons, List.length_nil]
      rw [wrap_sm (by omega) (by omega), if_pos (show acc2.length + (0 + 1) ≤ 5864062014805 by omega)]
      unfold lkCell fol lk3
      rw [ewa]
      show (bif decide (c.2.1.getD b 0 = c.2.2.1.getD a 0) then _ else _) = some (LO.next (_, acc2 ++ bif decide (c.2.1.getD b 0 = c.2.2.1.getD a 0) then _ else []))
      cases decide (c.2.1.getD b 0 = c.2.2.1.getD a 0) with
      | true => rfl
      | false => rw [cond_false, cond_false, List.append_nil]; rfl
    · have e : decide (ar c < c.2.1.length) = false := decide_eq_false (Nat.lt_irrefl _)
      simp only [lt_cast, e, cond_false]
    · show (if 2 = 2 then _ else none) = _
      rw [if_pos rfl, wrap_sm (by omega) (by omega)]; rfl
  · simp only [lt_cast, Nat.lt_irrefl, decide_false, cond_false]
theorem lk_get {c : Cat} {w : List Int} {i : Nat} (hi : i < (links c w).length) : ∃ j b : Nat, j < w.length ∧ b < ar c ∧ fol c w j b = true ∧ (links c w).getD i [] = lk3 c w j b := by
  have hm := getD_mem' ([] : List Int) hi
  obtain ⟨j, hj, h2⟩ := List.mem_flatMap.1 hm
  obtain ⟨b, hb, h3⟩ := List.mem_flatMap.1 h2
  refine ⟨j, b, List.mem_range.1 hj, List.mem_range.1 hb, ?_⟩
  unfold lkCell at h3
  cases hf : fol c w j b with
  | true => rw [hf] at h3; exact ⟨rfl, List.mem_singleton.1 h3⟩
  | false => rw [hf] at h3; cases h3
theorem links_all {c : Cat} {w : List Int} (q : List Int → Bool) : (links c w).all q = (List.range w.length).all fun i => (List.range (ar c)).all fun b => !fol c w i b || q (lk3 c w i b) := by
  unfold links
  rw [List.all_flatMap]
  refine all_congr' fun i _ => ?_
  unfold lkRow
  rw [List.all_flatMap]
  refine all_congr' fun b _ => ?_
  unfold lkCell
  cases fol c w i b <;> simp

/-! Matching. -/
def elOK (f : SF) (w fam : List Int) (i : Nat) : Bool := inn (sz f (tT (shS f) (wa w i))) (fam.getD i 0)
def maOK (f : SF) (w fam : List Int) (i b : Nat) : Bool := !fol (shS f) w i b || decide (fam.getD (ix w (T (shS f) (wa w i) b)).toNat 0 = (act f b).getD (fam.getD i 0).toNat 0)
def matB (f : SF) (w fam : List Int) : Bool := decide ((fam.length : Int) = (w.length : Int)) && ((List.range w.length).all (elOK f w fam) && (List.range w.length).all fun i => (List.range (ar (shS f))).all (maOK f w fam i))
theorem p87 {f : SF} (h : FS f) {x e : Int} (hx : 0 ≤ x ∧ x < f.1) : G87 (f, (x, e)) = some (inn (sz f x) e) := by
  unfold G87
  have e1 : G58 ((f.1, (f.2.1, (f.2.2.1, (f.2.2.2.1, f.2.2.2.2.1)))), x) = some (inn f.1 x) := p58 _ x
  have e2 : inn f.1 x = true := inn_t hx.1 hx.2
  have l1 : ((f.2.2.2.2.2.1.length : Nat) : Int) = f.1 := h.l1
  have g : (0 : Int) ≤ x ∧ x < ((f.2.2.2.2.2.1.length : Nat) : Int) := by rw [l1]; exact hx
  simp only [e1, e2, Option.bind_some, cond_true, g, and_self, if_true]
  show _ = some (decide (0 ≤ e) && decide (e < f.2.2.2.2.2.1.getD x.toNat 0))
  cases decide (0 ≤ e) <;> rfl
/-- an element of a family, and where the arrows lead it -/
theorem fam_at {f : SF} (h : FS f) {x : Int} {w fam : List Int} (hw : w.length ≤ 1048576) (hs : SV (shS f) x w) (hl : fam.length = w.length) (hall : (List.range w.length).all (elOK f w fam) = true) {j b : Nat} (hj : j < w.length) (hb : b < ar (shS f)) (hf : fol (shS f) w j b = true) :
    ∃ d t : Nat, fam.getD j 0 = (d : Int) ∧ d < (act f b).length ∧ ix w (T (shS f) (wa w j) b) = (t : Int) ∧ t < fam.length := by
  obtain ⟨a, ha, ea, ef, hc⟩ := hs.el j hj
  have ewa : wa w j = a := by unfold wa; rw [ea, Int.toNat_natCast]
  have hfe : fT (shS f) b = tT (shS f) a := by
    unfold fol at hf
    rw [ewa] at hf
    exact of_decide_eq_true hf
  have he := List.all_eq_true.1 hall j (List.mem_range.2 hj)
  unfold elOK at he
  rw [ewa] at he
  obtain ⟨g1, g2⟩ := inn_iff.1 he
  obtain ⟨t, ht, et⟩ := ix_in hw (hc b hb hfe)
  have hal := h.al b hb
  rw [hfe] at hal
  exact ⟨(fam.getD j 0).toNat, t, by omega, by omega, by rw [ewa]; exact et, by omega⟩
theorem ln3 (a b c : Int) : (([a, b, c] : List Int).length : Int) = 3 := rfl
theorem gd0 (a b c : Int) : ([a, b, c] : List Int).getD (0 : Int).toNat 0 = a := rfl
theorem gd1 (a b c : Int) : ([a, b, c] : List Int).getD (1 : Int).toNat 0 = b := rfl
theorem gd2 (a b c : Int) : ([a, b, c] : List Int).getD (2 : Int).toNat 0 = c := rfl
theorem i03 : ((0 : Int) ≤ 0 ∧ (0 : Int) < 3) := by decide
theorem i13 : ((0 : Int) ≤ 1 ∧ (1 : Int) < 3) := by decide
theorem i23 : ((0 : Int) ≤ 2 ∧ (2 : Int) < 3) := by decide
def lkOK (f : SF) (fam : List Int) (r : List Int) : Bool := decide ((act f (r.getD 1 0).toNat).getD (fam.getD (r.getD 0 0).toNat 0).toNat 0 = fam.getD (r.getD 2 0).toNat 0)
theorem p50 {f : SF} (h : FS f) {x : Int} {w fam : List Int} (hw : w.length ≤ 1048576) (hs : SV (shS f) x w) : G50 (f, (w, fam)) = some (matB f w fam) := by
  obtain ⟨a1, a2, a3, a4, a5, a6, a7, a8⟩ := h.sh.hd
  have hm : ar (shS f) ≤ 40 := a2
  have l2 : f.2.2.2.2.2.2.length = ar (shS f) := h.l2
  unfold G50 matB
  cases hl : decide ((fam.length : Int) = (w.length : Int)) with
  | false => rfl
  | true =>
  have hl := of_decide_eq_true hl
  have hl : fam.length = w.length := by omega
  simp only [Bool.not_true, cond_false, Bool.true_and, Prod.eta]
  refine chk3 (st := fun i : Nat => (i : Int)) (n := w.length) (p := elOK f w fam) (Q := fun r : Bool => r = false) (o := .brk 0 (w.length : Int)) (Post := fun b (o : Option Bool) => o = some (b && (List.range w.length).all fun i => (List.range (ar (shS f))).all (maOK f w fam i))) (fun i hi => ?_) ?_ (fun y => by simp) (fun hall => ?_) (fun r hr => by rw [hr]; rfl)
  · obtain ⟨a, ha, ea, ef, hc⟩ := hs.el i hi
    have ewa : wa w i = a := by unfold wa; rw [ea, Int.toNat_natCast]
    have hif : i < fam.length := by omega
    have ha3 : a < f.2.2.1.length := by
      have : f.2.2.1.length = f.2.1.length := a3
      have : a < f.2.1.length := ha
      omega
    have e1 : G87 (f, (f.2.2.1.getD a 0, fam.getD i 0)) = some (elOK f w fam i) := by
      unfold elOK
      rw [ewa]
      exact p87 h (h.sh.to a ha)
    simp only [lt_cast, hi, decide_true, cond_true, in_cast hi, ea, in_cast ha3, in_cast hif, and_self, if_true, Int.toNat_natCast, e1, Option.bind_some]
    rw [wrap_sm (by omega) (by omega)]
    cases elOK f w fam i with
    | true => exact inn1_t rfl
    | false => exact inn1_f ⟨_, rfl, rfl⟩
  · simp only [lt_cast, Nat.lt_irrefl, decide_false, cond_false]
  · show (if 0 = 0 then _ else none) = _
    have e0 : G88 ((f.1, (f.2.1, (f.2.2.1, (f.2.2.2.1, f.2.2.2.2.1)))), w) = some (links (shS f) w) := p88 h.sh hw hs
    have hll := links_len (c := shS f) hm hw
    rw [if_pos rfl, Bool.true_and, e0, Option.bind_some]
    have es : ((List.range w.length).all fun i => (List.range (ar (shS f))).all (maOK f w fam i)) = (List.range (links (shS f) w).length).all fun i => lkOK f fam ((links (shS f) w).getD i []) := by
      rw [all_idx ([] : List Int) (lkOK f fam), links_all]
      refine all_congr' fun i _ => all_congr' fun b _ => ?_
      unfold maOK lkOK lk3
      congr 1
      exact decide_eq_decide.2 eq_comm
    rw [es]
    refine chkT (n := (links (shS f) w).length) (p := fun i => lkOK f fam ((links (shS f) w).getD i [])) (bad := fun r : Bool => r = false) (id := 2) (Post := fun b (o : Option Bool) => o = some b) (fun i hi => ?_) ?_ rfl (fun r hr => by rw [hr])
    · obtain ⟨j, b, hj, hb, hf, el⟩ := lk_get hi
      obtain ⟨d, t, ed, hd, et, ht⟩ := fam_at h hw hs hl hall hj hb hf
      unfold lk3 at el
      rw [et] at el
      have hjf : j < fam.length := by omega
      have hbl : b < f.2.2.2.2.2.2.length := by omega
      have hd' : d < (f.2.2.2.2.2.2.getD b []).length := hd
      simp only [lt_cast, hi, decide_true, cond_true, in_cast hi, and_self, if_true, Int.toNat_natCast, el, ln3, gd0, gd1, gd2, i03, i13, i23, in_cast hbl, in_cast hjf, ed, in_cast hd', in_cast ht]
      rw [wrap_sm (by omega) (by omega)]
      unfold lkOK
      show inn1 _ _ (decide ((f.2.2.2.2.2.2.getD b []).getD (fam.getD j 0).toNat 0 = fam.getD t 0)) _
      rw [ed, Int.toNat_natCast]
      cases decide ((f.2.2.2.2.2.2.getD b []).getD d 0 = fam.getD t 0) with
      | true => exact inn1_t rfl
      | false => exact inn1_f ⟨_, rfl, rfl⟩
    · simp only [lt_cast, Nat.lt_irrefl, decide_false, cond_false]
end
end Go.Ve.D

