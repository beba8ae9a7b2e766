/- Moving a query along a functor: the law's end. -/
import Derived.Test.YtkafcpbbcpngdaaLw
namespace Go.Ve.D
open Go Go.Ve

theorem p11u {c : Cat} {b : Int} (hb : 0 ≤ b ∧ b ≤ 1048576) (h1 : c.2.1.length ≤ maxLen) (h2 : c.2.2.1.length ≤ maxLen) (h3 : c.2.2.2.1.length ≤ maxLen) (h4 : c.2.2.2.2.length ≤ maxLen) (h5 : ∀ y ∈ c.2.2.2.2, y.length ≤ maxLen) :
    ∃ r, G11 (c, b) = some r ∧ (r < 0 ∨ (0 ≤ r ∧ r ≤ b ∧ okC c)) := by
  unfold G11
  obtain ⟨r1, e1, f1⟩ := p56 (b := b) (by omega) h1
  simp only [e1, Option.bind_some]
  by_cases n1 : r1 < 0
  · exact ⟨-1, by simp only [n1, decide_true, cond_true], .inl (by decide)⟩
  simp only [n1, decide_false, cond_false]
  obtain ⟨r2, e2, f2⟩ := p56 (b := r1) (by omega) h2
  simp only [e2, Option.bind_some]
  by_cases n2 : r2 < 0
  · exact ⟨-1, by simp only [n2, decide_true, cond_true], .inl (by decide)⟩
  simp only [n2, decide_false, cond_false]
  obtain ⟨r3, e3, f3⟩ := p56 (b := r2) (by omega) h3
  simp only [e3, Option.bind_some]
  by_cases n3 : r3 < 0
  · exact ⟨-1, by simp only [n3, decide_true, cond_true], .inl (by decide)⟩
  simp only [n3, decide_false, cond_false]
  obtain ⟨r4, e4, f4⟩ := p57 (b := r3) (by omega) h4 h5
  simp only [e4, Option.bind_some]
  by_cases n4 : r4 < 0
  · exact ⟨-1, by simp only [n4, decide_true, cond_true], .inl (by decide)⟩
  simp only [n4, decide_false, cond_false]
  refine ⟨r4, rfl, .inr ?_⟩
  have f4 := f4.resolve_left n4
  exact ⟨f4.1, by omega, by omega, by omega, by omega, f4.2.2.1, f4.2.2.2⟩
structure MxC (c : Cat) : Prop where
  h1 : c.2.1.length ≤ maxLen
  h2 : c.2.2.1.length ≤ maxLen
  h3 : c.2.2.2.1.length ≤ maxLen
  h4 : c.2.2.2.2.length ≤ maxLen
  h5 : ∀ y ∈ c.2.2.2.2, y.length ≤ maxLen
theorem p42 {f : Fun} {b : Int} (hb : 0 ≤ b ∧ b ≤ 1048576) (m1 : MxC (srcF f)) (m2 : MxC (tgtF f)) (m3 : f.2.2.2.2.2.2.2.2.2.2.1.length ≤ maxLen) (m4 : f.2.2.2.2.2.2.2.2.2.2.2.length ≤ maxLen) :
    ∃ r, G42 (f, b) = some r ∧ (r < 0 ∨ (0 ≤ r ∧ r ≤ b ∧ okF f)) := by
  unfold G42
  obtain ⟨r1, e1, f1⟩ := p11u (c := srcF f) (b := b) hb m1.h1 m1.h2 m1.h3 m1.h4 m1.h5
  unfold srcF at e1
  simp only [e1, Option.bind_some]
  by_cases n1 : r1 < 0
  · exact ⟨-1, by simp only [n1, decide_true, cond_true], .inl (by decide)⟩
  simp only [n1, decide_false, cond_false]
  have f1 := f1.resolve_left n1
  obtain ⟨r2, e2, f2⟩ := p11u (c := tgtF f) (b := r1) (by omega) m2.h1 m2.h2 m2.h3 m2.h4 m2.h5
  unfold tgtF at e2
  simp only [e2, Option.bind_some]
  by_cases n2 : r2 < 0
  · exact ⟨-1, by simp only [n2, decide_true, cond_true], .inl (by decide)⟩
  simp only [n2, decide_false, cond_false]
  have f2 := f2.resolve_left n2
  obtain ⟨r3, e3, f3⟩ := p56 (b := r2) (by omega) m3
  simp only [e3, Option.bind_some]
  by_cases n3 : r3 < 0
  · exact ⟨-1, by simp only [n3, decide_true, cond_true], .inl (by decide)⟩
  simp only [n3, decide_false, cond_false]
  obtain ⟨r4, e4, f4⟩ := p56 (b := r3) (by omega) m4
  simp only [e4, Option.bind_some]
  by_cases n4 : r4 < 0
  · exact ⟨-1, by simp only [n4, decide_true, cond_true], .inl (by decide)⟩
  simp only [n4, decide_false, cond_false]
  exact ⟨r4, rfl, .inr ⟨by omega, by omega, f1.2.2, f2.2.2, by omega, by omega⟩⟩
theorem p44 {f : Fun} (h : okF f) : G44 f = some f := by
  obtain ⟨h1, h2, h3, h4⟩ := h
  have e1 : G14 (srcF f) = some (srcF f) := p14 h1
  have e2 : G14 (tgtF f) = some (tgtF f) := p14 h2
  unfold srcF at e1
  unfold tgtF at e2
  unfold G44
  simp only [e1, e2, p49 h3, p49 h4, Option.bind_some]
theorem mvR_ok {c d : Cat} {o a : List Int} {q : Qry} (hq : okQ q) : okQ (mvR c d o a q).1 := by
  unfold mvR
  cases (isCat c && (isCat d && funOK c d o a)) && qOK c q with
  | false => exact ⟨Nat.zero_le _, Nat.zero_le _, Nat.zero_le _, Nat.zero_le _⟩
  | true =>
    obtain ⟨h1, h2, h3, h4⟩ := hq
    exact ⟨by show (thn _ _).length ≤ _; rw [thn_len]; exact h1, by show (mvTs _ _).length ≤ _; rw [mvTs_len]; exact h2, by show (mvTs _ _).length ≤ _; rw [mvTs_len]; exact h3, h4⟩
theorem mkF_eta (f : Fun) : mkF (srcF f) (tgtF f) f.2.2.2.2.2.2.2.2.2.2.1 f.2.2.2.2.2.2.2.2.2.2.2 = f := by
  obtain ⟨f1, f2, f3, f4, f5, f6, f7, f8, f9, f10, f11, f12⟩ := f
  rfl
theorem p9 (x : Fun × Qry) (h : okT (PT S9.ps) x) : G9 x = some true := by
  obtain ⟨f, q⟩ := x
  obtain ⟨hf, hq⟩ := h
  obtain ⟨_, a1, a2, a3, a4, _, b1, b2, b3, b4, o1, o2⟩ := hf
  obtain ⟨q1, q2, q3, q4⟩ := hq
  unfold G9
  simp only [Prod.eta]
  obtain ⟨r1, e1, f1⟩ := p42 (f := f) (b := 1048576) (by omega) ⟨a1.1, a2.1, a3.1, a4.1, fun y hy => (a4.2 y hy).1⟩ ⟨b1.1, b2.1, b3.1, b4.1, fun y hy => (b4.2 y hy).1⟩ o1.1 o2.1
  simp only [e1, Option.bind_some]
  by_cases n1 : r1 < 0
  · simp only [n1, decide_true, cond_true]
  have f1 := f1.resolve_left n1
  obtain ⟨r2, e2, f2⟩ := p12 (q := q) (b := r1) (by omega) q1.1 q2.1 q3.1 q4.1
  simp only [n1, decide_false, cond_false, e2, Option.bind_some]
  by_cases n2 : r2 < 0
  · simp only [n2, decide_true, cond_true]
  have f2 := f2.resolve_left n2
  have hf := f1.2.2
  have hq := f2.2
  have e43 : G43 (f, q) = some (mvR (srcF f) (tgtF f) f.2.2.2.2.2.2.2.2.2.2.1 f.2.2.2.2.2.2.2.2.2.2.2 q) := by
    have := p43 hf.1 hf.2.1 hf.2.2.1 hf.2.2.2 hq
    rw [mkF_eta] at this
    exact this
  have e45 : G45 (f, q) = some (mvR (srcF f) (tgtF f) f.2.2.2.2.2.2.2.2.2.2.1 f.2.2.2.2.2.2.2.2.2.2.2 q) := by
    have := p45 hf.1 hf.2.1 hf.2.2.1 hf.2.2.2 hq
    rw [mkF_eta] at this
    exact this
  have hr := mvR_ok (c := srcF f) (d := tgtF f) (o := f.2.2.2.2.2.2.2.2.2.2.1) (a := f.2.2.2.2.2.2.2.2.2.2.2) hq
  simp only [n2, decide_false, cond_false, p44 hf, p15 hq, e43, e45, Option.bind_some]
  generalize mvR (srcF f) (tgtF f) f.2.2.2.2.2.2.2.2.2.2.1 f.2.2.2.2.2.2.2.2.2.2.2 q = r at hr
  obtain ⟨k1, y1, y2, y3, y4, y5, y6, y7, y8, y9, y10, c1, c2, c3, c4⟩ := mh23 (f := f) (k := 1) (by omega) (by omega) hf
  obtain ⟨k2, z1, z2, z3, z4, d1, d2, d3, d4⟩ := mh46 (q := q) (k := k1) (by omega) (by omega) hq
  obtain ⟨k3, w1, w2, w3, w4, g1, g2, g3, g4⟩ := mh46 (q := r.1) (k := 1) (by omega) (by omega) hr
  have m2 : ¬ (k2 < 0) := by omega
  have m3 : ¬ (k3 < 0) := by omega
  simp only [p18 hr, p18 hq, p21 hf, c1, d1, g1, g4, m2, m3, Option.bind_some, Bool.not_true, cond_false, decide_true, decide_false]
end Go.Ve.D

