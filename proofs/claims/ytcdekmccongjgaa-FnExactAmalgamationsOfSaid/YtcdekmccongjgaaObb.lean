/- Set functors: what makes them; sieves. -/
import Derived.Test.YtcdekmccongjgaaOba
namespace Go.Ve.D
open Go Go.Ve

theorem p146 {f : SF} (h : FS f) : ∃ r, G146 f = some r ∧ decide (r.1 = 0) = (idS f && coS f) := by
  obtain ⟨a1, a2, a3, a4, a5, a6, a7, a8⟩ := h.sh.hd
  have l1 : ((f.2.2.2.2.2.1.length : Nat) : Int) = f.1 := h.l1
  have l2 : f.2.2.2.2.2.2.length = ar (shS f) := h.l2
  have c4 : ((f.2.2.2.1.length : Nat) : Int) = f.1 := a7
  have c5 : f.2.2.2.2.1.length = ar (shS f) := a6
  have hf1 : f.1 ≤ 8 := a1.2
  have hm : ar (shS f) ≤ 40 := a2
  unfold G146 idS
  refine chkT (n := f.2.2.2.1.length) (p := fun x => (List.range (sz f (x : Int)).toNat).all (idOne f x)) (bad := bad4) (id := 0) (Post := fun b (o : Option R4) => ∃ r, o = some r ∧ decide (r.1 = 0) = (b && coS f)) (fun x hx => ?_) ?_ ?_ (fun r hr => ⟨r, rfl, hr⟩)
  · have hz := h.szi (x := (x : Int)) ⟨by omega, by omega⟩
    obtain ⟨n, hn⟩ : ∃ n : Nat, sz f (x : Int) = (n : Int) := ⟨(sz f (x : Int)).toNat, by omega⟩
    obtain ⟨a, ha, ea, ef⟩ := h.ida hx
    have ea' : f.2.2.2.1.getD x 0 = (a : Int) := ea
    have hal : a < f.2.2.2.2.2.2.length := by omega
    have hel : (act f a).length = n := by
      have := h.al a ha
      rw [ef, hn] at this; omega
    have hel' : (f.2.2.2.2.2.2.getD a []).length = n := hel
    simp only [lt_cast, hx, decide_true, cond_true, in_cast hx, ea', in_cast hal, and_self, if_true, Int.toNat_natCast, hel']
    rw [hn, Int.toNat_natCast]
    refine chkL (n := n) (p := idOne f x) (bad := bad4) (id := 2) (s := ((x + 1 : Nat) : Int)) (fun e he => ?_) ?_ ?_
    · simp only [he, decide_true, cond_true, in_cast he, and_self, if_true, Int.toNat_natCast]
      rw [wrap_sm (by omega) (by omega)]
      unfold idOne
      rw [ea, Int.toNat_natCast]
      show inn1 _ _ (decide ((f.2.2.2.2.2.2.getD a []).getD e 0 = (e : Int))) _
      cases decide ((f.2.2.2.2.2.2.getD a []).getD e 0 = (e : Int)) with
      | true => exact inn1_t rfl
      | false => exact inn1_f ⟨_, rfl, _, rfl, rfl⟩
    · simp only [lt_cast, Nat.lt_irrefl, decide_false, cond_false]
    · show (if 2 = 2 then _ else none) = _
      rw [if_pos rfl, wrap_sm (by omega) (by omega)]; rfl
  · have e : decide (((f.2.2.2.1.length : Nat) : Int) < ((f.2.2.2.1.length : Nat) : Int)) = false := by rw [lt_cast]; exact decide_eq_false (Nat.lt_irrefl _)
    simp only [e, cond_false]
  · show ∃ r, (if 0 = 0 then _ else none) = some r ∧ _
    rw [if_pos rfl, Bool.true_and]
    unfold coS
    refine chkT (n := ar (shS f)) (p := fun a => (List.range (ar (shS f))).all (coB f a)) (bad := bad4) (id := 4) (Post := fun b (o : Option R4) => ∃ r, o = some r ∧ decide (r.1 = 0) = b) (fun a ha => ?_) ?_ ⟨_, rfl, rfl⟩ (fun r hr => ⟨r, rfl, hr⟩)
    · have r1 : a < f.2.2.2.2.1.length := by omega
      have er : (f.2.2.2.2.1.getD a []).length = ar (shS f) := h.sh.row a ha
      have q4 : a < f.2.2.2.2.2.2.length := by omega
      simp only [lt_cast, r1, decide_true, cond_true, in_cast r1, and_self, if_true, Int.toNat_natCast, er]
      refine chkL (n := ar (shS f)) (p := coB f a) (bad := bad4) (id := 6) (s := ((a + 1 : Nat) : Int)) (fun b hb => ?_) ?_ ?_
      · simp only [hb, decide_true, cond_true, in_cast hb, and_self, if_true, Int.toNat_natCast]
        unfold coB
        cases hmt : mt (shS f) a b with
        | false =>
          have e : (f.2.2.2.2.1.getD a []).getD b 0 = -1 := h.sh.neg a b ha hb hmt
          have e0 : decide ((f.2.2.2.2.1.getD a []).getD b 0 < 0) = true := decide_eq_true (by omega)
          refine inn1_t ?_
          simp only [e0, cond_true]
          rw [wrap_sm (by omega) (by omega)]; rfl
        | true =>
          obtain ⟨t1, t2, _⟩ := h.sh.pos a b ha hb hmt
          obtain ⟨t, et⟩ : ∃ t : Nat, T (shS f) a b = (t : Int) := ⟨(T (shS f) a b).toNat, by omega⟩
          have et' : (f.2.2.2.2.1.getD a []).getD b 0 = (t : Int) := et
          have e0 : decide ((t : Int) < 0) = false := decide_eq_false (by omega)
          obtain ⟨f1, f2⟩ := h.sh.fr a ha
          obtain ⟨z1, z2⟩ := h.szi (x := fT (shS f) a) ⟨f1, f2⟩
          have hal := h.al a ha
          obtain ⟨n, hn⟩ : ∃ n : Nat, sz f (fT (shS f) a) = (n : Int) := ⟨(sz f (fT (shS f) a)).toNat, by omega⟩
          have hel : (act f a).length = n := by omega
          have hel' : (f.2.2.2.2.2.2.getD a []).length = n := hel
          rw [Bool.not_true, Bool.false_or, hn, Int.toNat_natCast]
          simp only [et', e0, cond_false, in_cast q4, and_self, if_true, hel', Int.toNat_natCast]
          refine chkL (n := n) (p := coOne f a b) (bad := lift bad4) (id := 8) (s := ((b + 1 : Nat) : Int)) (fun e he => ?_) ?_ ?_
          · have he' : e < (act f a).length := by omega
            obtain ⟨t', ht, et2, hl, d, ed, hd⟩ := h.el ha hb hmt he'
            have e3 : t' = t := by omega
            rw [e3] at ht hl
            have ed' : (f.2.2.2.2.2.2.getD a []).getD e 0 = (d : Int) := ed
            have q1 : t < f.2.2.2.2.2.2.length := by omega
            have q2 : e < (f.2.2.2.2.2.2.getD t []).length := hl
            have q3 : b < f.2.2.2.2.2.2.length := by omega
            have q6 : d < (f.2.2.2.2.2.2.getD b []).length := hd
            simp only [lt_cast, he, decide_true, cond_true, in_cast he, in_cast q1, in_cast q2, in_cast q3, ed', in_cast q6, and_self, if_true, Int.toNat_natCast]
            rw [wrap_sm (by omega) (by omega)]
            unfold coOne
            rw [et, ed, Int.toNat_natCast, Int.toNat_natCast]
            show inn1 _ _ (decide ((f.2.2.2.2.2.2.getD t []).getD e 0 = (f.2.2.2.2.2.2.getD b []).getD d 0)) _
            cases decide ((f.2.2.2.2.2.2.getD t []).getD e 0 = (f.2.2.2.2.2.2.getD b []).getD d 0) with
            | true => exact inn1_t rfl
            | false => exact inn1_f ⟨_, rfl, _, rfl, _, rfl, rfl⟩
          · simp only [lt_cast, Nat.lt_irrefl, decide_false, cond_false]
          · show (if 8 = 8 then _ else none) = _
            rw [if_pos rfl, wrap_sm (by omega) (by omega)]; rfl
      · simp only [lt_cast, Nat.lt_irrefl, decide_false, cond_false]
      · show (if 6 = 6 then _ else none) = _
        rw [if_pos rfl, wrap_sm (by omega) (by omega)]; rfl
    · have e : decide (((ar (shS f) : Nat) : Int) < ((f.2.2.2.2.1.length : Nat) : Int)) = false := by rw [lt_cast]; exact decide_eq_false (by omega)
      simp only [e, cond_false]
def isSF (f : SF) : Bool := shapeS f && (idS f && coS f)
theorem p85 {f : SF} (h : okS f) : G85 f = some (isSF f) := by
  unfold G85 isSF
  have e := p140 h
  simp only [Prod.eta, e, Option.bind_some]
  cases hs : shapeS f with
  | false => rfl
  | true =>
    obtain ⟨r, h1, h2⟩ := p141 (fs_of hs)
    simp only [Bool.not_true, cond_false, h1, Option.bind_some, Bool.true_and, h2]
theorem p91 {f : SF} (h : okS f) : G91 f = some (isSF f) := by
  unfold G91 isSF
  have e := p145 h
  simp only [Prod.eta, e, Option.bind_some]
  cases hs : shapeS f with
  | false => rfl
  | true =>
    obtain ⟨r, h1, h2⟩ := p146 (fs_of hs)
    simp only [Bool.not_true, cond_false, h1, Option.bind_some, Bool.true_and, h2]
theorem isSF_fs {f : SF} (h : isSF f = true) : FS f := by
  unfold isSF at h
  rw [Bool.and_eq_true] at h
  exact fs_of h.1

/-! Sieves. -/
theorem p149 {x : List Int} (h : x.length ≤ 1048576) (a : Int) : G149 (x, a) = some (x.contains a) := p131 h a
def svCell (c : Cat) (w : List Int) (a b : Nat) : Bool := !mt c a b || w.contains (T c a b)
def svIn (c : Cat) (w : List Int) (a : Nat) : Bool := (List.range (ar c)).all (svCell c w a)
def svOne (c : Cat) (x : Int) (w : List Int) (i : Nat) : Bool := decide (fT c (w.getD i 0).toNat = x) && svIn c w (w.getD i 0).toNat
def sieve (c : Cat) (x : Int) (w : List Int) : Bool := (risB w && wi (ar c) w) && (List.range w.length).all (svOne c x w)
theorem out_all {c : Cat} {x : Int} {q : Int → Bool} : (List.range (outL c x).length).all (fun i => q ((outL c x).getD i 0)) = (List.range (ar c)).all fun b => !decide (fT c b = x) || q (b : Int) := by
  rw [all_idx (0 : Int) q]
  unfold outL
  rw [List.all_map, List.all_filter]
  rfl
theorem p86 {c : Cat} (h : Sh c) (x : Int) {w : List Int} (hw : w.length ≤ 1048576) : G86 (c, (x, w)) = some (sieve c x w) := by
  obtain ⟨a1, a2, a3, a4, a5, a6, a7, a8⟩ := h.hd
  have hm : ar c ≤ 40 := a2
  unfold G86 sieve
  have e1 : G143 (((c.2.1.length : Nat) : Int), w) = some (wi (ar c) w) := p143 hw
  simp only [p142 hw, e1, Option.bind_some]
  cases hr : risB w with
  | false => rfl
  | true =>
  simp only [Bool.not_true, cond_false, Bool.true_and, Option.bind_some]
  cases hwi : wi (ar c) w with
  | false => rfl
  | true =>
  simp only [Bool.not_true, cond_false, Bool.true_and]
  refine chkT (n := w.length) (p := svOne c x w) (bad := fun r : Bool => r = false) (id := 0) (Post := fun b (o : Option Bool) => o = some b) (fun i hi => ?_) ?_ rfl (fun r hr => by rw [hr])
  · obtain ⟨a, ha, ea⟩ := getW hwi hi
    have ha2 : a < c.2.1.length := ha
    have ha3 : a < c.2.2.1.length := by omega
    unfold svOne
    simp only [lt_cast, hi, decide_true, cond_true, in_cast hi, ea, in_cast ha2, and_self, if_true, Int.toNat_natCast]
    show inn1 _ _ (decide (c.2.1.getD a 0 = x) && _) _
    cases decide (c.2.1.getD a 0 = x) with
    | false => exact inn1_f ⟨_, rfl, rfl⟩
    | true =>
      rw [Bool.true_and, Bool.not_true, cond_false]
      refine chkL (n := ar c) (p := svCell c w a) (bad := fun r : Bool => r = false) (id := 2) (s := ((i + 1 : Nat) : Int)) (fun b hb => ?_) ?_ ?_
      · have hb2 : b < c.2.1.length := hb
        simp only [hb2, decide_true, cond_true, in_cast hb2, in_cast ha3, and_self, if_true, Int.toNat_natCast]
        rw [wrap_sm (by omega) (by omega)]
        have e2 := p110 h (f := (a : Int)) (g := (b : Int)) (in_cast ha2) (in_cast hb2)
        rw [Int.toNat_natCast, Int.toNat_natCast] at e2
        rw [e2]
        unfold svCell
        show inn1 _ _ (!decide (c.2.2.1.getD a 0 = c.2.1.getD b 0) || _) _
        cases decide (c.2.2.1.getD a 0 = c.2.1.getD b 0) with
        | false => exact inn1_t rfl
        | true =>
          simp only [cond_true, Option.bind_some, p131 hw, Bool.not_true, Bool.false_or]
          cases w.contains (T c a b) with
          | true => exact inn1_t rfl
          | false => exact inn1_f ⟨_, rfl, _, rfl, rfl⟩
      · have e : decide (ar c < c.2.1.length) = false := decide_eq_false (Nat.lt_irrefl _)
        simp only [lt_cast, e, cond_false]
      · show (if 2 = 2 then _ else none) = _
        rw [if_pos rfl, wrap_sm (by omega) (by omega)]; rfl
  · simp only [lt_cast, Nat.lt_irrefl, decide_false, cond_false]
theorem p92 {c : Cat} (h : Sh c) (x : Int) {w : List Int} (hw : w.length ≤ 1048576) : G92 (c, (x, w)) = some (sieve c x w) := by
  obtain ⟨a1, a2, a3, a4, a5, a6, a7, a8⟩ := h.hd
  have hm : ar c ≤ 40 := a2
  unfold G92 sieve
  have e1 : G120 (w, ((c.2.1.length : Nat) : Int)) = some (wi (ar c) w) := p120 (by omega) hw
  simp only [p147 hw, p113, e1, Option.bind_some]
  cases hr : risB w with
  | false => rfl
  | true =>
  simp only [Bool.not_true, cond_false, Bool.true_and, Option.bind_some]
  cases hwi : wi (ar c) w with
  | false => rfl
  | true =>
  simp only [Bool.not_true, cond_false, Bool.true_and]
  refine chkT (n := w.length) (p := svOne c x w) (bad := fun r : Bool => r = false) (id := 0) (Post := fun b (o : Option Bool) => o = some b) (fun i hi => ?_) ?_ rfl (fun r hr => by rw [hr])
  · obtain ⟨a, ha, ea⟩ := getW hwi hi
    have ha2 : a < c.2.1.length := ha
    have ha3 : a < c.2.2.1.length := by omega
    unfold svOne
    have e0 : G148 (c, c.2.2.1.getD a 0) = some (outL c (tT c a)) := p148 (by omega) _
    simp only [lt_cast, hi, decide_true, cond_true, in_cast hi, ea, in_cast ha2, in_cast ha3, and_self, if_true, Int.toNat_natCast, e0, Option.bind_some]
    show inn1 _ _ (decide (c.2.1.getD a 0 = x) && _) _
    cases decide (c.2.1.getD a 0 = x) with
    | false => exact inn1_f ⟨_, rfl, rfl⟩
    | true =>
      rw [Bool.true_and, Bool.not_true, cond_false]
      have es : svIn c w a = (List.range (outL c (tT c a)).length).all fun i => w.contains (T c a ((outL c (tT c a)).getD i 0).toNat) := by
        rw [out_all (q := fun b => w.contains (T c a b.toNat))]
        unfold svIn
        refine all_congr' fun b _ => ?_
        unfold svCell mt fT tT
        rw [Int.toNat_natCast]
        congr 2
        exact decide_eq_decide.2 eq_comm
      rw [es]
      refine chkL (n := (outL c (tT c a)).length) (p := fun i => w.contains (T c a ((outL c (tT c a)).getD i 0).toNat)) (bad := fun r : Bool => r = false) (id := 2) (s := ((i + 1 : Nat) : Int)) (fun j hj => ?_) ?_ ?_
      · have hl : (outL c (tT c a)).length ≤ ar c := fm_len
        obtain ⟨b, hb, _, eb⟩ : ∃ b : Nat, b < ar c ∧ _ ∧ (outL c (tT c a)).getD j 0 = (b : Int) := fm_get hj
        have hb2 : b < c.2.1.length := hb
        have e2 := p118 h (f := (a : Int)) (g := (b : Int)) (in_cast ha2) (in_cast hb2)
        rw [Int.toNat_natCast, Int.toNat_natCast] at e2
        simp only [hj, decide_true, cond_true, in_cast hj, eb, e2, p149 hw, and_self, if_true, Int.toNat_natCast, Option.bind_some]
        rw [wrap_sm (by omega) (by omega)]
        cases w.contains (T c a b) with
        | true => exact inn1_t rfl
        | false => exact inn1_f ⟨_, rfl, _, rfl, rfl⟩
      · simp only [lt_cast, Nat.lt_irrefl, decide_false, cond_false]
      · show (if 2 = 2 then _ else none) = _
        rw [if_pos rfl, wrap_sm (by omega) (by omega)]; rfl
  · simp only [lt_cast, Nat.lt_irrefl, decide_false, cond_false]

theorem p58 (c : Cat) (x : Int) : G58 (c, x) = some (inn c.1 x) := by
  unfold G58 inn
  cases decide (0 ≤ x) <;> rfl
def codeS (f : SF) (x : Int) (w : List Int) : Int := bif !isSF f then 1 else bif !inn f.1 x then 2 else bif !sieve (shS f) x w then 1 else 0
theorem p49 {f : SF} (h : okS f) (x : Int) {w : List Int} (hw : w.length ≤ 1048576) : G49 (f, (x, w)) = some (codeS f x w) := by
  unfold G49 codeS
  have e := p85 h
  simp only [Prod.eta, e, Option.bind_some]
  cases hs : isSF f with
  | false => rfl
  | true =>
  have e2 : G58 ((f.1, (f.2.1, (f.2.2.1, (f.2.2.2.1, f.2.2.2.2.1)))), x) = some (inn f.1 x) := p58 _ x
  have e3 : G86 ((f.1, (f.2.1, (f.2.2.1, (f.2.2.2.1, f.2.2.2.2.1)))), (x, w)) = some (sieve (shS f) x w) := p86 (isSF_fs hs).sh x hw
  simp only [Bool.not_true, cond_false, e2, e3, Option.bind_some]
  cases inn f.1 x <;> cases sieve (shS f) x w <;> rfl
theorem p53 {f : SF} (h : okS f) (x : Int) {w : List Int} (hw : w.length ≤ 1048576) : G53 (f, (x, w)) = some (codeS f x w) := by
  unfold G53 codeS
  have e := p91 h
  simp only [Prod.eta, e, Option.bind_some]
  cases hs : isSF f with
  | false => rfl
  | true =>
  obtain ⟨a1, a2, a3, a4, a5, a6, a7, a8⟩ := (isSF_fs hs).sh.hd
  have a1 : 0 ≤ f.1 ∧ f.1 ≤ 8 := a1
  have e2 := p62' x f.1 ⟨a1.1, by omega⟩
  have e3 : G92 ((f.1, (f.2.1, (f.2.2.1, (f.2.2.2.1, f.2.2.2.2.1)))), (x, w)) = some (sieve (shS f) x w) := p92 (isSF_fs hs).sh x hw
  simp only [Bool.not_true, cond_false, e2, e3, Option.bind_some]
  cases inn f.1 x <;> cases sieve (shS f) x w <;> rfl
end Go.Ve.D

