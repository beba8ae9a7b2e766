/- Set functors: what makes them. -/
import Derived.Test.YtcdekmccongjgaaOag
namespace Go.Ve.D
open Go Go.Ve

/-! Loops in loops that check. -/
/-- two loops, one in the other -/
theorem chk2 {R S : Type} {F : Int → Option (LO Int R)} {n : Nat} {p : Nat → Bool} {Q : R → Prop} {o : LO Int R} {k : LO Int R → Option S} {Post : Bool → Option S → Prop}
    (h1 : ∀ i, i < n → (p i = true → F (i : Int) = some (.next ((i + 1 : Nat) : Int))) ∧ (p i = false → ∃ r, F (i : Int) = some (.ret r) ∧ Q r)) (h2 : F (n : Int) = some o) (ho : ∀ y, o ≠ .next y)
    (hA : Post true (k o)) (hB : ∀ r, Q r → Post false (k (.ret r))) : Post ((List.range n).all p) (Option.bind (tloop F (0 : Int)) k) := by
  refine chk_bind (st := fun i : Nat => (i : Int)) (p := p) (Q := Q) (o := o) (Post := fun x => Post ((List.range n).all p) x) h1 h2 ho (fun hall => ?_) (fun hall r hr => ?_)
  · rw [hall]; exact hA
  · rw [hall]; exact hB r hr

def inn1 {R : Type} (bad : R → Prop) (s : Int) (p : Bool) (o : Option (LO Int R)) : Prop := (p = true → o = some (.next s)) ∧ (p = false → ∃ r, o = some (.ret r) ∧ bad r)
def lift {R : Type} (bad : R → Prop) (r : LO Int R) : Prop := ∃ r', r = .ret r' ∧ bad r'
theorem chkL {R : Type} {bad : R → Prop} {F : Int → Option (LO Int (LO Int R))} {n : Nat} {p : Nat → Bool} {id : Nat} {s : Int} {g : Nat → Int → Option (LO Int R)}
    (h1 : ∀ i, i < n → inn1 (lift bad) ((i + 1 : Nat) : Int) (p i) (F (i : Int))) (h2 : F (n : Int) = some (.brk id (n : Int))) (hk : g id (n : Int) = some (.next s)) :
    inn1 bad s ((List.range n).all p) (Option.bind (tloop F (0 : Int)) (LO.fin g)) := by
  refine chk_bind (st := fun i : Nat => (i : Int)) (p := p) (Q := lift bad) (o := .brk id (n : Int)) (Post := fun x => inn1 bad s ((List.range n).all p) x) h1 h2 (fun y => by simp) (fun hall => ?_) (fun hall r hr => ?_)
  · rw [hall]
    exact ⟨fun _ => hk, (fun h => by cases h)⟩
  · rw [hall]
    obtain ⟨r', rfl, hb⟩ := hr
    exact ⟨(fun h => by cases h), fun _ => ⟨r', rfl, hb⟩⟩
/-- the outermost -/
theorem chkT {R : Type} {bad : R → Prop} {F : Int → Option (LO Int R)} {n : Nat} {p : Nat → Bool} {id : Nat} {g : Nat → Int → Option R} {Post : Bool → Option R → Prop}
    (h1 : ∀ i, i < n → inn1 bad ((i + 1 : Nat) : Int) (p i) (F (i : Int))) (h2 : F (n : Int) = some (.brk id (n : Int))) (hA : Post true (g id (n : Int))) (hB : ∀ r, bad r → Post false (some r)) :
    Post ((List.range n).all p) (Option.bind (tloop F (0 : Int)) (LO.fin g)) :=
  chk2 (Q := bad) h1 h2 (fun y => by simp) hA fun r hr => hB r hr
theorem inn1_t {R : Type} {bad : R → Prop} {s : Int} {o : Option (LO Int R)} (h : o = some (.next s)) : inn1 bad s true o := ⟨fun _ => h, (fun h => by cases h)⟩
theorem inn1_f {R : Type} {bad : R → Prop} {s : Int} {o : Option (LO Int R)} (h : ∃ r, o = some (.ret r) ∧ bad r) : inn1 bad s false o := ⟨(fun h => by cases h), fun _ => h⟩

abbrev SF := Int × List Int × List Int × List Int × List (List Int) × List Int × List (List Int)
def shS (f : SF) : Cat := (f.1, (f.2.1, (f.2.2.1, (f.2.2.2.1, f.2.2.2.2.1))))
def szF (f : SF) : List Int := f.2.2.2.2.2.1
def acF (f : SF) : List (List Int) := f.2.2.2.2.2.2
def okS (f : SF) : Prop := okC (shS f) ∧ (szF f).length ≤ 1048576 ∧ (acF f).length ≤ 1048576 ∧ ∀ y ∈ acF f, y.length ≤ 1048576
def act (f : SF) (a : Nat) : List Int := (acF f).getD a []
def sz (f : SF) (x : Int) : Int := (szF f).getD x.toNat 0
def actOK (f : SF) (a : Nat) : Bool := decide (((act f a).length : Int) = sz f (fT (shS f) a)) && wi (sz f (tT (shS f) a)) (act f a)
def headS (f : SF) : Bool := isCat (shS f) && (decide (((szF f).length : Int) = f.1) && (decide (((acF f).length : Int) = (ar (shS f) : Int)) && wi 17 (szF f)))
def shapeS (f : SF) : Bool := headS f && (List.range (acF f).length).all (actOK f)
theorem wi17 (x : List Int) : wi 17 x = (List.range x.length).all fun i => decide (0 ≤ x.getD i 0) && decide (x.getD i 0 ≤ 16) := by
  rw [all_idx (0 : Int) (fun a => decide (0 ≤ a) && decide (a ≤ 16)) x]
  unfold wi
  congr 1
  funext a
  unfold inn
  rw [Bool.eq_iff_iff]
  simp only [Bool.and_eq_true, decide_eq_true_eq]; omega
theorem sz_in {f : SF} (h1 : ((szF f).length : Int) = f.1) (hs : wi 17 (szF f) = true) {x : Int} (hx : 0 ≤ x ∧ x < f.1) : 0 ≤ sz f x ∧ sz f x ≤ 16 := by
  obtain ⟨g1, g2⟩ := wi_get hs (i := x.toNat) (by omega)
  exact ⟨g1, by unfold sz; omega⟩
theorem act_len {f : SF} (h : okS f) {a : Nat} (ha : a < (acF f).length) : (act f a).length ≤ 1048576 := h.2.2.2 _ (by
  unfold act
  rw [List.getD_eq_getElem?_getD, List.getElem?_eq_getElem ha]
  exact List.getElem_mem ha)

theorem p140 {f : SF} (h : okS f) : G140 f = some (shapeS f) := by
  have hh := h
  obtain ⟨hc, hl, hal, hac⟩ := hh
  unfold G140 shapeS headS
  have e1 : (f.1, (f.2.1, (f.2.2.1, (f.2.2.2.1, f.2.2.2.2.1)))) = shS f := rfl
  simp only [e1, p96 hc, Option.bind_some]
  cases hcat : isCat (shS f) with
  | false => rfl
  | true =>
  have hsh := isCat_sh hcat
  have hd := hsh.hd
  obtain ⟨a1, a2, a3, a4, a5, a6, a7, a8⟩ := hd
  simp only [Bool.not_true, cond_false, Bool.true_and, Option.bind_some]
  have e2 : decide (((f.2.2.2.2.2.1.length : Nat) : Int) = f.1) = decide (((szF f).length : Int) = f.1) := rfl
  rw [e2]
  cases h1 : decide (((szF f).length : Int) = f.1) with
  | false => rfl
  | true =>
  have h1 := of_decide_eq_true h1
  simp only [Bool.not_true, cond_false, Bool.true_and, Option.bind_some]
  have e3 : decide (((f.2.2.2.2.2.2.length : Nat) : Int) = ((f.2.1.length : Nat) : Int)) = decide (((acF f).length : Int) = (ar (shS f) : Int)) := rfl
  rw [e3]
  cases h2 : decide (((acF f).length : Int) = (ar (shS f) : Int)) with
  | false => rfl
  | true =>
  have h2 := of_decide_eq_true h2
  simp only [Bool.not_true, cond_false, Bool.true_and, Option.bind_some]
  rw [wi17]
  refine chkT (n := (szF f).length) (p := fun i => decide (0 ≤ (szF f).getD i 0) && decide ((szF f).getD i 0 ≤ 16)) (bad := fun r : Bool => r = false) (id := 0) (Post := fun b (o : Option Bool) => o = some (b && (List.range (acF f).length).all (actOK f))) (fun i hi => ?_) ?_ ?_ (fun r hr => by rw [hr]; rfl)
  · have hi' : i < f.2.2.2.2.2.1.length := hi
    simp only [lt_cast, hi', decide_true, cond_true, in_cast hi', and_self, if_true, Int.toNat_natCast, p154, Option.bind_some]
    rw [wrap_sm (by omega) (by omega)]
    show inn1 _ _ (decide (0 ≤ f.2.2.2.2.2.1.getD i 0) && decide (f.2.2.2.2.2.1.getD i 0 ≤ 16)) _
    cases decide (0 ≤ f.2.2.2.2.2.1.getD i 0) && decide (f.2.2.2.2.2.1.getD i 0 ≤ 16) with
    | true => exact inn1_t rfl
    | false => exact inn1_f ⟨_, rfl, rfl⟩
  · have e : decide ((((szF f).length : Nat) : Int) < ((f.2.2.2.2.2.1.length : Nat) : Int)) = false := by rw [lt_cast]; exact decide_eq_false (Nat.lt_irrefl _)
    simp only [e, cond_false]
  · show (if 0 = 0 then _ else none) = _
    rw [if_pos rfl, Bool.true_and]
    refine chkT (n := (acF f).length) (p := actOK f) (bad := fun r : Bool => r = false) (id := 2) (Post := fun b (o : Option Bool) => o = some b) (fun i hi => ?_) ?_ rfl (fun r hr => by rw [hr])
    · have hi' : i < f.2.2.2.2.2.2.length := hi
      have him : i < ar (shS f) := by omega
      have hi2 : i < f.2.1.length := him
      have hi3 : i < f.2.2.1.length := by
        have : f.2.2.1.length = f.2.1.length := a3
        omega
      obtain ⟨b1, b2⟩ := hsh.fr i him
      obtain ⟨b3, b4⟩ := hsh.to i him
      have g1 : (0 : Int) ≤ f.2.1.getD i 0 ∧ f.2.1.getD i 0 < ((f.2.2.2.2.2.1.length : Nat) : Int) := ⟨b1, by rw [show ((f.2.2.2.2.2.1.length : Nat) : Int) = f.1 from h1]; exact b2⟩
      have g2 : (0 : Int) ≤ f.2.2.1.getD i 0 ∧ f.2.2.1.getD i 0 < ((f.2.2.2.2.2.1.length : Nat) : Int) := ⟨b3, by rw [show ((f.2.2.2.2.2.1.length : Nat) : Int) = f.1 from h1]; exact b4⟩
      simp only [lt_cast, hi', decide_true, cond_true, in_cast hi', in_cast hi2, in_cast hi3, g1, g2, and_self, if_true, Int.toNat_natCast]
      rw [wrap_sm (by omega) (by omega)]
      have e4 : G143 (f.2.2.2.2.2.1.getD (f.2.2.1.getD i 0).toNat 0, f.2.2.2.2.2.2.getD i []) = some (wi (sz f (tT (shS f) i)) (act f i)) := p143 (act_len h hi)
      rw [e4]
      show inn1 _ _ (decide ((((f.2.2.2.2.2.2.getD i []).length : Nat) : Int) = f.2.2.2.2.2.1.getD (f.2.1.getD i 0).toNat 0) && wi (sz f (tT (shS f) i)) (act f i)) _
      cases decide ((((f.2.2.2.2.2.2.getD i []).length : Nat) : Int) = f.2.2.2.2.2.1.getD (f.2.1.getD i 0).toNat 0) with
      | false => exact inn1_f ⟨_, rfl, rfl⟩
      | true =>
        rw [Bool.true_and]
        cases wi (sz f (tT (shS f) i)) (act f i) with
        | true => exact inn1_t rfl
        | false => exact inn1_f ⟨_, rfl, rfl⟩
    · have e : decide ((((acF f).length : Nat) : Int) < ((f.2.2.2.2.2.2.length : Nat) : Int)) = false := by rw [lt_cast]; exact decide_eq_false (Nat.lt_irrefl _)
      simp only [e, cond_false]

theorem p159 {x : List Int} {k n : Int} (hn : 0 ≤ n ∧ n ≤ 9223372036854775807) (hx : x.length ≤ 1048576) : G159 (x, (k, n)) = some (decide ((x.length : Int) = k) && wi n x) := by
  unfold G159
  simp only [p120 hn hx, Option.bind_some]
  cases decide (((x.length : Nat) : Int) = k) <;> rfl
theorem p145 {f : SF} (h : okS f) : G145 f = some (shapeS f) := by
  have hh := h
  obtain ⟨hc, hl, hal, hac⟩ := hh
  unfold G145 shapeS headS
  have e1 : (f.1, (f.2.1, (f.2.2.1, (f.2.2.2.1, f.2.2.2.2.1)))) = shS f := rfl
  have ew : G120 (f.2.2.2.2.2.1, (17 : Int)) = some (wi 17 (szF f)) := p120 (by omega) hl
  simp only [e1, p111 hc, ew, p113, Option.bind_some]
  cases hcat : isCat (shS f) with
  | false => rfl
  | true =>
  have hsh := isCat_sh hcat
  have hd := hsh.hd
  obtain ⟨a1, a2, a3, a4, a5, a6, a7, a8⟩ := hd
  simp only [Bool.not_true, cond_false, Bool.true_and, Option.bind_some]
  have e2 : decide (((f.2.2.2.2.2.1.length : Nat) : Int) = f.1) = decide (((szF f).length : Int) = f.1) := rfl
  rw [e2]
  cases h1 : decide (((szF f).length : Int) = f.1) with
  | false => rfl
  | true =>
  have h1 := of_decide_eq_true h1
  simp only [Bool.not_true, cond_false, Bool.true_and, Option.bind_some]
  have e3 : decide (((f.2.2.2.2.2.2.length : Nat) : Int) = (((shS f).2.1.length : Nat) : Int)) = decide (((acF f).length : Int) = (ar (shS f) : Int)) := rfl
  rw [e3]
  cases hw : wi 17 (szF f) with
  | false => cases decide (((acF f).length : Int) = (ar (shS f) : Int)) <;> rfl
  | true =>
  simp only [Bool.not_true, cond_false, Option.bind_some]
  cases h2 : decide (((acF f).length : Int) = (ar (shS f) : Int)) with
  | false => rfl
  | true =>
  have h2 := of_decide_eq_true h2
  simp only [Bool.not_true, cond_false, Bool.true_and, Option.bind_some]
  refine chkT (n := (acF f).length) (p := actOK f) (bad := fun r : Bool => r = false) (id := 0) (Post := fun b (o : Option Bool) => o = some b) (fun i hi => ?_) ?_ rfl (fun r hr => by rw [hr])
  · have hi' : i < f.2.2.2.2.2.2.length := hi
    have him : i < ar (shS f) := by omega
    have hi2 : i < f.2.1.length := him
    have hi3 : i < f.2.2.1.length := by
      have : f.2.2.1.length = f.2.1.length := a3
      omega
    obtain ⟨b1, b2⟩ := hsh.fr i him
    obtain ⟨b3, b4⟩ := hsh.to i him
    have g1 : (0 : Int) ≤ f.2.1.getD i 0 ∧ f.2.1.getD i 0 < ((f.2.2.2.2.2.1.length : Nat) : Int) := ⟨b1, by rw [show ((f.2.2.2.2.2.1.length : Nat) : Int) = f.1 from h1]; exact b2⟩
    have g2 : (0 : Int) ≤ f.2.2.1.getD i 0 ∧ f.2.2.1.getD i 0 < ((f.2.2.2.2.2.1.length : Nat) : Int) := ⟨b3, by rw [show ((f.2.2.2.2.2.1.length : Nat) : Int) = f.1 from h1]; exact b4⟩
    simp only [lt_cast, hi', decide_true, cond_true, in_cast hi', in_cast hi2, in_cast hi3, g1, g2, and_self, if_true, Int.toNat_natCast]
    rw [wrap_sm (by omega) (by omega)]
    obtain ⟨z1, z2⟩ := sz_in h1 hw (x := tT (shS f) i) ⟨b3, b4⟩
    have e4 : G159 (f.2.2.2.2.2.2.getD i [], (f.2.2.2.2.2.1.getD (f.2.1.getD i 0).toNat 0, f.2.2.2.2.2.1.getD (f.2.2.1.getD i 0).toNat 0)) = some (actOK f i) := p159 (x := act f i) (k := sz f (fT (shS f) i)) (n := sz f (tT (shS f) i)) ⟨z1, by omega⟩ (act_len h hi)
    rw [e4, Option.bind_some]
    cases actOK f i with
    | true => exact inn1_t rfl
    | false => exact inn1_f ⟨_, rfl, rfl⟩
  · have e : decide ((((acF f).length : Nat) : Int) < ((f.2.2.2.2.2.2.length : Nat) : Int)) = false := by rw [lt_cast]; exact decide_eq_false (Nat.lt_irrefl _)
    simp only [e, cond_false]

/-- what the shape gives -/
structure FS (f : SF) : Prop where
  cat : isCat (shS f) = true
  sh : Sh (shS f)
  sp : shape (shS f) = true
  l1 : ((szF f).length : Int) = f.1
  l2 : (acF f).length = ar (shS f)
  w : wi 17 (szF f) = true
  al : ∀ a, a < ar (shS f) → ((act f a).length : Int) = sz f (fT (shS f) a)
  aw : ∀ a, a < ar (shS f) → wi (sz f (tT (shS f) a)) (act f a) = true
theorem fs_of {f : SF} (h : shapeS f = true) : FS f := by
  unfold shapeS headS at h
  simp only [Bool.and_eq_true, decide_eq_true_eq] at h
  obtain ⟨⟨h1, h2, h3, h4⟩, h5⟩ := h
  have h3 : (acF f).length = ar (shS f) := by omega
  have ha : ∀ a, a < ar (shS f) → actOK f a = true := fun a ha => List.all_eq_true.1 h5 a (List.mem_range.2 (by omega))
  refine ⟨h1, isCat_sh h1, ?_, h2, h3, h4, fun a hl => ?_, fun a hl => ?_⟩
  · unfold isCat at h1
    rw [Bool.and_eq_true] at h1
    exact h1.1
  · have := ha a hl
    unfold actOK at this
    rw [Bool.and_eq_true, decide_eq_true_eq] at this
    exact this.1
  · have := ha a hl
    unfold actOK at this
    rw [Bool.and_eq_true] at this
    exact this.2
theorem FS.szi {f : SF} (h : FS f) {x : Int} (hx : 0 ≤ x ∧ x < f.1) : 0 ≤ sz f x ∧ sz f x ≤ 16 := sz_in h.l1 h.w hx
def idAt (f : SF) (x : Nat) : Int := f.2.2.2.1.getD x 0
theorem FS.ida {f : SF} (h : FS f) {x : Nat} (hx : x < f.2.2.2.1.length) : ∃ a : Nat, a < ar (shS f) ∧ idAt f x = (a : Int) ∧ fT (shS f) a = (x : Int) := by
  have hs := h.sp
  unfold shape at hs
  rw [Bool.and_eq_true, Bool.and_eq_true] at hs
  have hi := List.all_eq_true.1 hs.2.1 x (List.mem_range.2 hx)
  unfold idOK at hi
  rw [Bool.and_eq_true, decide_eq_true_eq, decide_eq_true_eq] at hi
  obtain ⟨a1, a2, a3, a4, a5, a6, a7, a8⟩ := h.sh.hd
  obtain ⟨g1, g2⟩ := wi_get a8 hx
  have g1 : 0 ≤ idAt f x := g1
  have g2 : idAt f x < (ar (shS f) : Int) := g2
  refine ⟨(idAt f x).toNat, by omega, by omega, hi.1⟩
def idOne (f : SF) (x e : Nat) : Bool := decide ((act f (idAt f x).toNat).getD e 0 = (e : Int))
def idS (f : SF) : Bool := (List.range f.2.2.2.1.length).all fun x => (List.range (sz f (x : Int)).toNat).all (idOne f x)
def coOne (f : SF) (a b e : Nat) : Bool := decide ((act f (T (shS f) a b).toNat).getD e 0 = (act f b).getD ((act f a).getD e 0).toNat 0)
def coB (f : SF) (a b : Nat) : Bool := !mt (shS f) a b || (List.range (sz f (fT (shS f) a)).toNat).all (coOne f a b)
def coS (f : SF) : Bool := (List.range (ar (shS f))).all fun a => (List.range (ar (shS f))).all (coB f a)
abbrev R4 := Int × Int × Int × Int
def bad4 (r : R4) : Prop := decide (r.1 = 0) = false
/-- an element under two arrows that follow one another -/
theorem FS.el {f : SF} (h : FS f) {a b e : Nat} (ha : a < ar (shS f)) (hb : b < ar (shS f)) (hm : mt (shS f) a b = true) (he : e < (act f a).length) : ∃ t : Nat, t < ar (shS f) ∧ T (shS f) a b = (t : Int) ∧ e < (act f t).length ∧ ∃ d : Nat, (act f a).getD e 0 = (d : Int) ∧ d < (act f b).length := by
  obtain ⟨t1, t2, t3, t4⟩ := h.sh.pos a b ha hb hm
  have t2 : T (shS f) a b < (ar (shS f) : Int) := t2
  have ht : (T (shS f) a b).toNat < ar (shS f) := by omega
  refine ⟨(T (shS f) a b).toNat, ht, by omega, ?_, ?_⟩
  · have e1 := h.al a ha
    have e2 := h.al _ ht
    have e3 : fT (shS f) (T (shS f) a b).toNat = fT (shS f) a := t3
    rw [e3] at e2
    omega
  · obtain ⟨g1, g2⟩ := wi_get (h.aw a ha) he
    have e1 := h.al b hb
    have e2 : tT (shS f) a = fT (shS f) b := of_decide_eq_true hm
    rw [e2] at g2
    exact ⟨((act f a).getD e 0).toNat, by omega, by omega⟩

theorem p141 {f : SF} (h : FS f) : ∃ r, G141 f = some r ∧ decide (r.1 = 0) = (idS f && coS f) := by
  obtain ⟨a1, a2, a3, a4, a5, a6, a7, a8⟩ := h.sh.hd
  have l1 : ((f.2.2.2.2.2.1.length : Nat) : Int) = f.1 := h.l1
  have l2 : f.2.2.2.2.2.2.length = ar (shS f) := h.l2
  have c4 : ((f.2.2.2.1.length : Nat) : Int) = f.1 := a7
  have hf1 : f.1 ≤ 8 := a1.2
  have hm : ar (shS f) ≤ 40 := a2
  unfold G141 idS
  refine chkT (n := f.2.2.2.1.length) (p := fun x => (List.range (sz f (x : Int)).toNat).all (idOne f x)) (bad := bad4) (id := 0) (Post := fun b (o : Option R4) => ∃ r, o = some r ∧ decide (r.1 = 0) = (b && coS f)) (fun x hx => ?_) ?_ ?_ (fun r hr => ⟨r, rfl, hr⟩)
  · have hxf : decide ((x : Int) < f.1) = true := decide_eq_true (by omega)
    simp only [hxf, cond_true]
    have hz := h.szi (x := (x : Int)) ⟨by omega, by omega⟩
    obtain ⟨n, hn⟩ : ∃ n : Nat, sz f (x : Int) = (n : Int) := ⟨(sz f (x : Int)).toNat, by omega⟩
    rw [hn, Int.toNat_natCast]
    refine chkL (n := n) (p := idOne f x) (bad := bad4) (id := 2) (s := ((x + 1 : Nat) : Int)) (fun e he => ?_) ?_ ?_
    · obtain ⟨a, ha, ea, ef⟩ := h.ida hx
      have hxl : x < f.2.2.2.2.2.1.length := by omega
      have ea' : f.2.2.2.1.getD x 0 = (a : Int) := ea
      have hal : a < f.2.2.2.2.2.2.length := by omega
      have hn' : f.2.2.2.2.2.1.getD x 0 = (n : Int) := hn
      have hel : e < (act f a).length := by
        have := h.al a ha
        rw [ef, hn] at this; omega
      have hel' : e < (f.2.2.2.2.2.2.getD a []).length := hel
      simp only [in_cast hxl, in_cast hx, and_self, if_true, Int.toNat_natCast, hn', lt_cast, he, decide_true, cond_true, ea', in_cast hal, in_cast hel']
      rw [wrap_sm (by omega) (by omega)]
      unfold idOne
      rw [ea, Int.toNat_natCast]
      show inn1 _ _ (decide ((f.2.2.2.2.2.2.getD a []).getD e 0 = (e : Int))) _
      cases decide ((f.2.2.2.2.2.2.getD a []).getD e 0 = (e : Int)) with
      | true => exact inn1_t rfl
      | false => exact inn1_f ⟨_, rfl, _, rfl, rfl⟩
    · have hxl : x < f.2.2.2.2.2.1.length := by omega
      have hn' : f.2.2.2.2.2.1.getD x 0 = (n : Int) := hn
      simp only [in_cast hxl, and_self, if_true, Int.toNat_natCast, hn', lt_cast, Nat.lt_irrefl, decide_false, cond_false]
    · show (if 2 = 2 then _ else none) = _
      rw [if_pos rfl, wrap_sm (by omega) (by omega)]; rfl
  · have e : decide (((f.2.2.2.1.length : Nat) : Int) < f.1) = false := decide_eq_false (by omega)
    simp only [e, cond_false]
  · show ∃ r, (if 0 = 0 then _ else none) = some r ∧ _
    rw [if_pos rfl, Bool.true_and]
    unfold coS
    refine chkT (n := ar (shS f)) (p := fun a => (List.range (ar (shS f))).all (coB f a)) (bad := bad4) (id := 4) (Post := fun b (o : Option R4) => ∃ r, o = some r ∧ decide (r.1 = 0) = b) (fun a ha => ?_) ?_ ⟨_, rfl, rfl⟩ (fun r hr => ⟨r, rfl, hr⟩)
    · have ha2 : a < f.2.1.length := ha
      have ha3 : a < f.2.2.1.length := by
        have : f.2.2.1.length = f.2.1.length := a3
        omega
      simp only [lt_cast, ha2, decide_true, cond_true]
      refine chkL (n := ar (shS f)) (p := coB f a) (bad := bad4) (id := 6) (s := ((a + 1 : Nat) : Int)) (fun b hb => ?_) ?_ ?_
      · have hb2 : b < f.2.1.length := hb
        simp only [lt_cast, hb2, decide_true, cond_true, in_cast ha3, in_cast hb2, and_self, if_true, Int.toNat_natCast]
        unfold coB
        show inn1 _ _ (!decide (f.2.2.1.getD a 0 = f.2.1.getD b 0) || _) _
        cases hm : decide (f.2.2.1.getD a 0 = f.2.1.getD b 0) with
        | false =>
          refine inn1_t ?_
          rw [Bool.not_false, cond_true, wrap_sm (by omega) (by omega)]; rfl
        | true =>
          have hm : mt (shS f) a b = true := hm
          rw [Bool.not_true, cond_false, Bool.false_or]
          obtain ⟨f1, f2⟩ := h.sh.fr a ha
          obtain ⟨z1, z2⟩ := h.szi (x := fT (shS f) a) ⟨f1, f2⟩
          have hal := h.al a ha
          obtain ⟨n, hn⟩ : ∃ n : Nat, sz f (fT (shS f) a) = (n : Int) := ⟨(sz f (fT (shS f) a)).toNat, by omega⟩
          rw [hn, Int.toNat_natCast]
          have hg : (0 : Int) ≤ f.2.1.getD a 0 ∧ f.2.1.getD a 0 < ((f.2.2.2.2.2.1.length : Nat) : Int) := ⟨f1, by rw [l1]; exact f2⟩
          have hn' : f.2.2.2.2.2.1.getD (f.2.1.getD a 0).toNat 0 = (n : Int) := hn
          refine chkL (n := n) (p := coOne f a b) (bad := lift bad4) (id := 8) (s := ((b + 1 : Nat) : Int)) (fun e he => ?_) ?_ ?_
          · have he' : e < (act f a).length := by omega
            obtain ⟨t, ht, et, hel, d, ed, hd⟩ := h.el ha hb hm he'
            have r1 : a < f.2.2.2.2.1.length := by
              have : f.2.2.2.2.1.length = f.2.1.length := a6
              omega
            have r2 : b < (f.2.2.2.2.1.getD a []).length := by
              have : (f.2.2.2.2.1.getD a []).length = f.2.1.length := h.sh.row a ha
              omega
            have et' : (f.2.2.2.2.1.getD a []).getD b 0 = (t : Int) := et
            have ed' : (f.2.2.2.2.2.2.getD a []).getD e 0 = (d : Int) := ed
            have q1 : t < f.2.2.2.2.2.2.length := by omega
            have q2 : e < (f.2.2.2.2.2.2.getD t []).length := hel
            have q3 : b < f.2.2.2.2.2.2.length := by omega
            have q4 : a < f.2.2.2.2.2.2.length := by omega
            have q5 : e < (f.2.2.2.2.2.2.getD a []).length := he'
            have q6 : d < (f.2.2.2.2.2.2.getD b []).length := hd
            simp only [in_cast ha2, hg, hn', lt_cast, he, decide_true, cond_true, in_cast r1, in_cast r2, et', in_cast q1, in_cast q2, in_cast q3, in_cast q4, in_cast q5, ed', in_cast q6, and_self, if_true, Int.toNat_natCast]
            rw [wrap_sm (by omega) (by omega)]
            unfold coOne
            rw [et, ed, Int.toNat_natCast, Int.toNat_natCast]
            show inn1 _ _ (decide ((f.2.2.2.2.2.2.getD t []).getD e 0 = (f.2.2.2.2.2.2.getD b []).getD d 0)) _
            cases decide ((f.2.2.2.2.2.2.getD t []).getD e 0 = (f.2.2.2.2.2.2.getD b []).getD d 0) with
            | true => exact inn1_t rfl
            | false => exact inn1_f ⟨_, rfl, _, rfl, _, rfl, rfl⟩
          · simp only [in_cast ha2, hg, hn', lt_cast, Nat.lt_irrefl, decide_false, cond_false, and_self, if_true, Int.toNat_natCast]
          · show (if 8 = 8 then _ else none) = _
            rw [if_pos rfl, wrap_sm (by omega) (by omega)]; rfl
      · have e : decide (((ar (shS f) : Nat) : Int) < ((f.2.1.length : Nat) : Int)) = false := by rw [lt_cast]; exact decide_eq_false (Nat.lt_irrefl _)
        simp only [e, cond_false]
      · show (if 6 = 6 then _ else none) = _
        rw [if_pos rfl, wrap_sm (by omega) (by omega)]; rfl
    · have e : decide (((ar (shS f) : Nat) : Int) < ((f.2.1.length : Nat) : Int)) = false := by rw [lt_cast]; exact decide_eq_false (Nat.lt_irrefl _)
      simp only [e, cond_false]
end Go.Ve.D

