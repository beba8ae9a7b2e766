/- Amalgamations: the law. -/
import Derived.Test.YtcdekmccongjgaaObd
namespace Go.Ve.D
open Go Go.Ve
noncomputable section

def gl (f : SF) (x : Int) (w fam : List Int) : List Int := ((List.range (sz f x).toNat).filter fun e => decide (imgs f w e = fam)).map fun (e : Nat) => (e : Int)
theorem gl_len {f : SF} (h : FS f) {x : Int} (hx : 0 ≤ x ∧ x < f.1) {w fam : List Int} : (gl f x w fam).length ≤ 16 := by
  have h1 : (gl f x w fam).length ≤ (sz f x).toNat := fm_len
  obtain ⟨z1, z2⟩ := h.szi hx
  omega
theorem p51 {f : SF} (h : FS f) {x : Int} (hx : 0 ≤ x ∧ x < f.1) {w fam : List Int} (hw : w.length ≤ 1048576) (hs : SV (shS f) x w) : G51 (f, (x, (w, fam))) = some (gl f x w fam) := by
  have l1 : ((f.2.2.2.2.2.1.length : Nat) : Int) = f.1 := h.l1
  have g : (0 : Int) ≤ x ∧ x < ((f.2.2.2.2.2.1.length : Nat) : Int) := by rw [l1]; exact hx
  obtain ⟨z1, z2⟩ := h.szi hx
  obtain ⟨n, hn⟩ : ∃ n : Nat, sz f x = (n : Int) := ⟨(sz f x).toNat, by omega⟩
  have hn' : f.2.2.2.2.2.1.getD x.toNat 0 = (n : Int) := hn
  unfold G51 gl
  rw [hn, Int.toNat_natCast]
  simp only [g, and_self, if_true, hn', Prod.eta]
  refine bind_of (v := .brk 0 ((n : Int), ((List.range n).filter fun e => decide (imgs f w e = fam)).map fun (e : Nat) => (e : Int))) (gather (fun e he acc ha => ?_) fun acc => ?_) rfl
  · simp only [lt_cast, he, decide_true, cond_true, p90 h hw hs (e := e) (by omega), p89 (x := imgs f w e) (y := fam) (by rw [imgs_len]; exact hw), Option.bind_some, List.length_cons, List.length_nil]
    rw [wrap_sm (by omega) (by omega), if_pos (show acc.length + (0 + 1) ≤ 17592186044416 by omega)]
    cases decide (imgs f w e = fam) <;> rfl
  · simp only [lt_cast, Nat.lt_irrefl, decide_false, cond_false]
theorem p55 {f : SF} (h : FS f) {x : Int} (hx : 0 ≤ x ∧ x < f.1) {w fam : List Int} (hw : w.length ≤ 1048576) (hf : fam.length ≤ 1048576) (hs : SV (shS f) x w) : G55 (f, (x, (w, fam))) = some (gl f x w fam) := by
  have l1 : ((f.2.2.2.2.2.1.length : Nat) : Int) = f.1 := h.l1
  have g : (0 : Int) ≤ x ∧ x < ((f.2.2.2.2.2.1.length : Nat) : Int) := by rw [l1]; exact hx
  obtain ⟨z1, z2⟩ := h.szi hx
  obtain ⟨n, hn⟩ : ∃ n : Nat, sz f x = (n : Int) := ⟨(sz f x).toNat, by omega⟩
  have hn' : f.2.2.2.2.2.1.getD x.toNat 0 = (n : Int) := hn
  unfold G55 gl
  rw [hn, Int.toNat_natCast]
  simp only [g, and_self, if_true, hn', Prod.eta]
  refine bind_of (v := .brk 0 ((n : Int), ((List.range n).filter fun e => decide (imgs f w e = fam)).map fun (e : Nat) => (e : Int))) (gather (fun e he acc ha => ?_) fun acc => ?_) rfl
  · simp only [lt_cast, he, decide_true, cond_true, p95 h hw hs (e := e) (by omega), p94 (x := imgs f w e) (y := fam) (by rw [imgs_len]; exact hw) hf, Option.bind_some, List.length_cons, List.length_nil]
    rw [wrap_sm (by omega) (by omega), if_pos (show acc.length + (0 + 1) ≤ 17592186044416 by omega)]
    cases decide (imgs f w e = fam) <;> rfl
  · simp only [lt_cast, Nat.lt_irrefl, decide_false, cond_false]

def resA (f : SF) (x : Int) (w fam : List Int) : List Int × Int := bif !decide (codeS f x w = 0) then ([], codeS f x w) else bif !matB f w fam then ([], 5) else (gl f x w fam, 0)
theorem code_0 {f : SF} {x : Int} {w : List Int} (h : codeS f x w = 0) : FS f ∧ (0 ≤ x ∧ x < f.1) ∧ SV (shS f) x w := by
  unfold codeS at h
  cases h1 : isSF f with
  | false => rw [h1] at h; cases h
  | true =>
  rw [h1] at h
  cases h2 : inn f.1 x with
  | false => rw [h2] at h; cases h
  | true =>
  rw [h2] at h
  cases h3 : sieve (shS f) x w with
  | false => rw [h3] at h; cases h
  | true => exact ⟨isSF_fs h1, inn_iff.1 h2, sv_of h3⟩
theorem p9 {f : SF} (h : okS f) (x : Int) {w fam : List Int} (hw : w.length ≤ 1048576) : G9 (f, (x, (w, fam))) = some (resA f x w fam) := by
  unfold G9 resA
  simp only [Prod.eta, p49 h x hw, Option.bind_some]
  cases hz : decide (codeS f x w = 0) with
  | false => rfl
  | true =>
  obtain ⟨hf, hx, hs⟩ := code_0 (of_decide_eq_true hz)
  simp only [Bool.not_true, cond_false, p50 hf hw hs, p51 hf hx hw hs, Option.bind_some]
  cases matB f w fam <;> rfl
theorem p12 {f : SF} (h : okS f) (x : Int) {w fam : List Int} (hw : w.length ≤ 1048576) (hfm : fam.length ≤ 1048576) : G12 (f, (x, (w, fam))) = some (resA f x w fam) := by
  unfold G12 resA
  simp only [Prod.eta, p53 h x hw, Option.bind_some]
  cases hz : decide (codeS f x w = 0) with
  | false => rfl
  | true =>
  obtain ⟨hf, hx, hs⟩ := code_0 (of_decide_eq_true hz)
  simp only [Bool.not_true, cond_false, p54 hf hw hs, p55 hf hx hw hfm hs, Option.bind_some]
  cases matB f w fam <;> rfl
theorem resA_len {f : SF} {x : Int} {w fam : List Int} : (resA f x w fam).1.length ≤ 1048576 := by
  unfold resA
  cases hz : decide (codeS f x w = 0) with
  | false => exact Nat.zero_le _
  | true =>
  obtain ⟨hf, hx, hs⟩ := code_0 (of_decide_eq_true hz)
  cases matB f w fam with
  | false => exact Nat.zero_le _
  | true =>
    show (gl f x w fam).length ≤ _
    have := gl_len hf hx (w := w) (fam := fam)
    omega

/-! Set functors of the law. -/
theorem p8 {f : SF} (h1 : f.2.1.length ≤ maxLen) (h2 : f.2.2.1.length ≤ maxLen) (h3 : f.2.2.2.1.length ≤ maxLen) (h4 : f.2.2.2.2.1.length ≤ maxLen) (h5 : ∀ y ∈ f.2.2.2.2.1, y.length ≤ maxLen) (h6 : f.2.2.2.2.2.1.length ≤ maxLen) (h7 : f.2.2.2.2.2.2.length ≤ maxLen) (h8 : ∀ y ∈ f.2.2.2.2.2.2, y.length ≤ maxLen) :
    ∃ r, G8 (f, 1048576) = some r ∧ (r < 0 ∨ okS f) := by
  unfold G8
  obtain ⟨r1, e1, f1⟩ := p41 (c := shS f) h1 h2 h3 h4 h5
  unfold shS at e1
  simp only [e1, Option.bind_some]
  by_cases n1 : r1 < 0
  · exact ⟨-1, by simp only [n1, decide_true, cond_true], .inl (by decide)⟩
  have f1 := f1.resolve_left n1
  obtain ⟨r2, e2, f2⟩ := p47 (b := r1) ⟨f1.1, f1.2.1⟩ h6
  simp only [n1, decide_false, cond_false, e2, Option.bind_some]
  by_cases n2 : r2 < 0
  · exact ⟨-1, by simp only [n2, decide_true, cond_true], .inl (by decide)⟩
  have f2 := f2.resolve_left n2
  obtain ⟨r3, e3, f3⟩ := p48 (b := r2) ⟨f2.2, by omega⟩ h7 h8
  simp only [n2, decide_false, cond_false, e3, Option.bind_some]
  by_cases n3 : r3 < 0
  · exact ⟨-1, by simp only [n3, decide_true, cond_true], .inl (by decide)⟩
  have f3 := f3.resolve_left n3
  refine ⟨r3, by simp only [n3, decide_false, cond_false], .inr ⟨f1.2.2, ?_, f3.2.2.1, f3.2.2.2⟩⟩
  have : f.2.2.2.2.2.1.length ≤ 1048576 := by omega
  exact this
theorem p10 {f : SF} (h : okS f) : G10 f = some f := by
  unfold G10
  have e1 : G43 (f.1, (f.2.1, (f.2.2.1, (f.2.2.2.1, f.2.2.2.2.1)))) = some (shS f) := p43 h.1
  have e2 : G11 f.2.2.2.2.2.1 = some f.2.2.2.2.2.1 := p11 h.2.1
  have e3 : G52 f.2.2.2.2.2.2 = some f.2.2.2.2.2.2 := p52 h.2.2.1 h.2.2.2
  simp only [e1, e2, e3, Option.bind_some]
  rfl
theorem p14 {f : SF} (h : okS f) : G14 (f, f) = some true := by
  unfold G14
  have e1 : G45 ((f.1, (f.2.1, (f.2.2.1, (f.2.2.2.1, f.2.2.2.2.1)))), (f.1, (f.2.1, (f.2.2.1, (f.2.2.2.1, f.2.2.2.2.1))))) = some true := p45 h.1
  have e2 : G13 (f.2.2.2.2.2.1, f.2.2.2.2.2.1) = some true := p13 h.2.1
  have e3 : G36 (f.2.2.2.2.2.2, f.2.2.2.2.2.2) = some true := p36 h.2.2.1 h.2.2.2
  simp only [e1, e2, e3, Option.bind_some, Bool.not_true, cond_false]
theorem mk39 {x : List (List Int)} {k : Int} (h0 : 0 ≤ k) (h1 : k ≤ 1125899906842624) (h : x.length ≤ 1048576) (hx : ∀ y ∈ x, y.length ≤ 1048576) : ∃ k' y, G39 (x, k) = some (k', y) ∧ 0 ≤ k' ∧ k' ≤ k + 1099511627776 := by
  have ht := tot_le hx x.length (Nat.le_refl _)
  exact ⟨_, _, p39 h0 h1 h hx, by omega, by omega⟩
theorem mk46 {c : Cat} {k : Int} (h0 : 0 ≤ k) (h1 : k ≤ 562949953421312) (h : okC c) : ∃ k' y, G46 (c, k) = some (k', y) ∧ 0 ≤ k' ∧ k' ≤ k + 8796093022208 := by
  obtain ⟨g1, g2, g3, g4, g5⟩ := h
  obtain ⟨k1, y1, a1, b1, c1, d1⟩ := mh16 h0 (by omega) g1
  obtain ⟨k2, y2, a2, b2, c2, d2⟩ := mh16 b1 (by omega) g2
  obtain ⟨k3, y3, a3, b3, c3, d3⟩ := mh16 b2 (by omega) g3
  obtain ⟨k4, y4, a4, b4, c4⟩ := mk39 b3 (by omega) g4 g5
  refine ⟨k4, (y1, (y2, (y3, y4))), ?_, b4, by omega⟩
  unfold G46
  simp only [a1, a2, a3, a4, Option.bind_some]
theorem mk15 {f : SF} {k : Int} (h0 : 0 ≤ k) (h1 : k ≤ 281474976710656) (h : okS f) : ∃ k' y, G15 (f, k) = some (k', y) ∧ 0 ≤ k' ∧ k' ≤ k + 35184372088832 := by
  obtain ⟨g1, g2, g3, g4⟩ := h
  obtain ⟨k1, y1, a1, b1, c1⟩ := mk46 h0 (by omega) g1
  obtain ⟨k2, y2, a2, b2, c2, _⟩ := mh16 b1 (by omega) g2
  obtain ⟨k3, y3, a3, b3, c3⟩ := mk39 b2 (by omega) g3 g4
  unfold shS at a1
  unfold szF at a2
  unfold acF at a3
  refine ⟨k3, (y1.1, (y1.2.1, (y1.2.2.1, (y1.2.2.2, (y2, y3))))), ?_, b3, by omega⟩
  unfold G15
  simp only [a1, a2, a3, Option.bind_some]
theorem p3 (x : SF × Int × List Int × List Int) (h : okT (PT S3.ps) x) : G3 x = some true := by
  obtain ⟨f, x, w, fam⟩ := x
  obtain ⟨⟨_, h1, h2, h3, h4, h6, h7⟩, _, hw, hfm⟩ := h
  unfold G3
  by_cases hb : (1048576 : Int) < ((w.length : Nat) : Int)
  · simp only [hb, decide_true, cond_true]
  have hw : w.length ≤ 1048576 := by omega
  by_cases hb2 : (1048576 : Int) < ((fam.length : Nat) : Int)
  · simp only [hb, hb2, decide_true, decide_false, cond_false, cond_true]
  have hfm : fam.length ≤ 1048576 := by omega
  simp only [hb, hb2, decide_false, cond_false, Prod.eta]
  obtain ⟨r1, e1, f1⟩ := p8 (f := f) h1.1 h2.1 h3.1 h4.1 (fun y hy => (h4.2 y hy).1) h6.1 h7.1 (fun y hy => (h7.2 y hy).1)
  simp only [e1, Option.bind_some]
  by_cases n1 : r1 < 0
  · simp only [n1, decide_true, cond_true]
  have hf := f1.resolve_left n1
  have hr := resA_len (f := f) (x := x) (w := w) (fam := fam)
  simp only [n1, decide_false, cond_false, p10 hf, p11 hw, p11 hfm, p9 hf x hw, p12 hf x hw hfm, Option.bind_some]
  generalize resA f x w fam = r at hr
  obtain ⟨k1, y1, a1, b1, c1⟩ := mk15 (f := f) (k := 1) (by omega) (by omega) hf
  obtain ⟨k2, y2, a2, b2, c2, d2⟩ := mh16 (x := w) (k := k1) b1 (by omega) hw
  obtain ⟨k3, y3, a3, b3, c3, d3⟩ := mh16 (x := fam) (k := k2) b2 (by omega) hfm
  obtain ⟨k4, y4, a4, b4, c4, d4⟩ := mh16 (x := r.1) (k := 1) (by omega) (by omega) hr
  have m3 : ¬ (k3 < 0) := by omega
  have m4 : ¬ (k4 < 0) := by omega
  simp only [p13 hr, p14 hf, p13 hw, p13 hfm, a1, a2, a3, a4, d4, m3, m4, Option.bind_some, Bool.not_true, cond_false, decide_true, decide_false]
end
end Go.Ve.D

