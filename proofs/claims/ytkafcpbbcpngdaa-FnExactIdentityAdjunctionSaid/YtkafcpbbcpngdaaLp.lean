/- The identity monad and the identity adjunction: the laws. -/
import Derived.Test.YtkafcpbbcpngdaaLo
namespace Go.Ve.D
open Go Go.Ve

theorem p108 {f : Fun} (h : okF f) : G108 f = some f := by
  obtain ⟨h1, h2, h3, h4⟩ := h
  unfold G108
  have e : G102 (srcF f, (tgtF f, (f.2.2.2.2.2.2.2.2.2.2.1, f.2.2.2.2.2.2.2.2.2.2.2))) = some (mkF (srcF f) (tgtF f) f.2.2.2.2.2.2.2.2.2.2.1 f.2.2.2.2.2.2.2.2.2.2.2) := p102 h1 h2 h3 h4
  unfold mkF srcF tgtF at e
  simp only [Prod.eta] at e ⊢
  simp only [e, Option.bind_some, Prod.eta]

abbrev Mon := Int × List Int × List Int × List Int × List (List Int) × Int × List Int × List Int × List Int × List (List Int) × List Int × List Int × List Int × List Int
def funMon0 (m : Mon) : Fun := (m.1, (m.2.1, (m.2.2.1, (m.2.2.2.1, (m.2.2.2.2.1, (m.2.2.2.2.2.1, (m.2.2.2.2.2.2.1, (m.2.2.2.2.2.2.2.1, (m.2.2.2.2.2.2.2.2.1, (m.2.2.2.2.2.2.2.2.2.1, (m.2.2.2.2.2.2.2.2.2.2.1, m.2.2.2.2.2.2.2.2.2.2.2.1)))))))))))
def okMon (m : Mon) : Prop := okF (funMon0 m) ∧ m.2.2.2.2.2.2.2.2.2.2.2.2.1.length ≤ 1048576 ∧ m.2.2.2.2.2.2.2.2.2.2.2.2.2.length ≤ 1048576
theorem p34 {m : Mon} (h : okMon m) : G34 (m, m) = some true := by
  obtain ⟨h0, h1, h2⟩ := h
  unfold G34
  have e0 : G21 (funMon0 m, funMon0 m) = some true := p21 h0
  unfold funMon0 at e0
  simp only [e0, p52 h1, p52 h2, Option.bind_some, Bool.not_true, cond_false]
theorem mh35 {m : Mon} {k : Int} (h0 : 0 ≤ k) (h1 : k ≤ 140737488355328) (h : okMon m) :
    ∃ k' y1 y2 y3 y4 y6 y7 y8 y9 y10 y11 y12 y13, G35 (m, k) = some (k', (y1, (y2, (y3, (y4, (y6, (y7, (y8, (y9, (y10, (y11, (y12, y13)))))))))))) ∧ 0 ≤ k' ∧ k' ≤ k + 70368744177664 ∧ G36 ((m.1, (y1, (y2, (y3, (y4, (m.2.2.2.2.2.1, (y6, (y7, (y8, (y9, (y10, (y11, (y12, y13))))))))))))), k) = some k' := by
  obtain ⟨g0, g1, g2⟩ := h
  obtain ⟨k1, y1, y2, y3, y4, y6, y7, y8, y9, y10, y11, a1, b1, c1, d1⟩ := mh23 h0 (by omega) g0
  unfold funMon0 at a1 d1
  obtain ⟨k2, y12, a2, b2, c2, d2⟩ := mh53 b1 (by omega) g1
  obtain ⟨k3, y13, a3, b3, c3, d3⟩ := mh53 b2 (by omega) g2
  refine ⟨k3, y1, y2, y3, y4, y6, y7, y8, y9, y10, y11, y12, y13, ?_, b3, by omega, ?_⟩
  · unfold G35
    simp only [a1, a2, a3, Option.bind_some]
  · unfold G36
    have n1 : ¬ (k1 < 0) := by omega
    have n2 : ¬ (k2 < 0) := by omega
    have n3 : ¬ (k3 < 0) := by omega
    simp only [d1, d2, d3, Option.bind_some, n1, n2, n3, decide_false, cond_false]
def mkMon (f0 : Fun) (l0 l1 : List Int) : Mon := (f0.1, (f0.2.1, (f0.2.2.1, (f0.2.2.2.1, (f0.2.2.2.2.1, (f0.2.2.2.2.2.1, (f0.2.2.2.2.2.2.1, (f0.2.2.2.2.2.2.2.1, (f0.2.2.2.2.2.2.2.2.1, (f0.2.2.2.2.2.2.2.2.2.1, (f0.2.2.2.2.2.2.2.2.2.2.1, (f0.2.2.2.2.2.2.2.2.2.2.2, (l0, l1)))))))))))))
def zMon : Mon := ((0 : Int), ([], ([], ([], ([], ((0 : Int), ([], ([], ([], ([], ([], ([], ([], [])))))))))))))
def idMon (c : Cat) : Mon × Int := bif isCat c then (mkMon (mkF c c (nums c.1.toNat) (nums c.2.1.length)) c.2.2.2.1 c.2.2.2.1, 0) else (zMon, 1)
theorem p32 {c : Cat} (h : okC c) : G32 c = some (idMon c) := by
  unfold G32 idMon
  simp only [Prod.eta, p59 h, Option.bind_some]
  cases hc : isCat c with
  | false => rfl
  | true =>
    have hd := (cat_sh hc).hd.1
    simp only [Bool.not_true, cond_false, p66 h hd.1 (by omega), p79 h.2.2.1, Option.bind_some]
    rfl
theorem p80 {f : Fun} {u v : List Int} (h : okF f) (hu : u.length ≤ 1048576) (hv : v.length ≤ 1048576) : G80 (f, (u, v)) = some (mkMon f u v) := by
  unfold G80
  simp only [p108 h, p109 hu, p109 hv, Option.bind_some, mkMon]
theorem p33 {c : Cat} (h : okC c) : G33 c = some (idMon c) := by
  unfold G33 idMon
  simp only [Prod.eta, p67 h, Option.bind_some]
  cases hc : isCat c with
  | false => rfl
  | true =>
    have hd := (cat_sh hc).hd.1
    have hf : okF (mkF c c (nums c.1.toNat) (nums c.2.1.length)) := okF_mk h h (by rw [nums_len]; omega) (by rw [nums_len]; exact h.1)
    simp only [Bool.not_true, cond_false, p68 h hd.1 (by omega), Option.bind_some, p80 hf h.2.2.1 h.2.2.1]
    rfl
theorem idMon_ok {c : Cat} (h : okC c) : okMon (idMon c).1 := by
  unfold idMon
  cases hc : isCat c with
  | false => exact ⟨okF_z, Nat.zero_le _, Nat.zero_le _⟩
  | true =>
    have hd := (cat_sh hc).hd.1
    have hf : okF (mkF c c (nums c.1.toNat) (nums c.2.1.length)) := okF_mk h h (by rw [nums_len]; omega) (by rw [nums_len]; exact h.1)
    exact ⟨hf, h.2.2.1, h.2.2.1⟩

theorem p7 (x : Cat) (h : okT (PT S7.ps) x) : G7 x = some true := by
  obtain ⟨_, h1, h2, h3, h4⟩ := h
  unfold G7
  simp only [Prod.eta]
  obtain ⟨r1, e1, f1⟩ := p11 (c := x) h1.1 h2.1 h3.1 h4.1 (fun y hy => (h4.2 y hy).1)
  simp only [e1, Option.bind_some]
  by_cases n1 : r1 < 0
  · simp only [n1, decide_true, cond_true]
  simp only [n1, decide_false, cond_false]
  have hx := (f1.resolve_left n1).2.2
  have hf := idMon_ok hx
  simp only [p14 hx, p32 hx, p33 hx, Option.bind_some]
  generalize idMon x = r at hf
  obtain ⟨k1, y1, y2, y3, y4, a1, b1, c1, d1⟩ := mh22 (c := x) (k := 1) (by omega) (by omega) hx
  obtain ⟨k2, z1, z2, z3, z4, z6, z7, z8, z9, z10, z11, z12, z13, a2, b2, c2, d2⟩ := mh35 (m := r.1) (k := 1) (by omega) (by omega) hf
  have m1 : ¬ (k1 < 0) := by omega
  have m2 : ¬ (k2 < 0) := by omega
  simp only [p34 hf, p17 hx, a1, a2, d2, m1, m2, Option.bind_some, Bool.not_true, cond_false, decide_true, decide_false]

abbrev Adj := Int × List Int × List Int × List Int × List (List Int) × Int × List Int × List Int × List Int × List (List Int) × List Int × List Int × Int × List Int × List Int × List Int × List (List Int) × Int × List Int × List Int × List Int × List (List Int) × List Int × List Int × List Int × List Int
def funAdj0 (m : Adj) : Fun := (m.1, (m.2.1, (m.2.2.1, (m.2.2.2.1, (m.2.2.2.2.1, (m.2.2.2.2.2.1, (m.2.2.2.2.2.2.1, (m.2.2.2.2.2.2.2.1, (m.2.2.2.2.2.2.2.2.1, (m.2.2.2.2.2.2.2.2.2.1, (m.2.2.2.2.2.2.2.2.2.2.1, m.2.2.2.2.2.2.2.2.2.2.2.1)))))))))))
def funAdj1 (m : Adj) : Fun := (m.2.2.2.2.2.2.2.2.2.2.2.2.1, (m.2.2.2.2.2.2.2.2.2.2.2.2.2.1, (m.2.2.2.2.2.2.2.2.2.2.2.2.2.2.1, (m.2.2.2.2.2.2.2.2.2.2.2.2.2.2.2.1, (m.2.2.2.2.2.2.2.2.2.2.2.2.2.2.2.2.1, (m.2.2.2.2.2.2.2.2.2.2.2.2.2.2.2.2.2.1, (m.2.2.2.2.2.2.2.2.2.2.2.2.2.2.2.2.2.2.1, (m.2.2.2.2.2.2.2.2.2.2.2.2.2.2.2.2.2.2.2.1, (m.2.2.2.2.2.2.2.2.2.2.2.2.2.2.2.2.2.2.2.2.1, (m.2.2.2.2.2.2.2.2.2.2.2.2.2.2.2.2.2.2.2.2.2.1, (m.2.2.2.2.2.2.2.2.2.2.2.2.2.2.2.2.2.2.2.2.2.2.1, m.2.2.2.2.2.2.2.2.2.2.2.2.2.2.2.2.2.2.2.2.2.2.2.1)))))))))))
def okAdj (m : Adj) : Prop := okF (funAdj0 m) ∧ okF (funAdj1 m) ∧ m.2.2.2.2.2.2.2.2.2.2.2.2.2.2.2.2.2.2.2.2.2.2.2.2.1.length ≤ 1048576 ∧ m.2.2.2.2.2.2.2.2.2.2.2.2.2.2.2.2.2.2.2.2.2.2.2.2.2.length ≤ 1048576
theorem p39 {m : Adj} (h : okAdj m) : G39 (m, m) = some true := by
  obtain ⟨h0, h1, h2, h3⟩ := h
  unfold G39
  have e0 : G21 (funAdj0 m, funAdj0 m) = some true := p21 h0
  unfold funAdj0 at e0
  have e1 : G21 (funAdj1 m, funAdj1 m) = some true := p21 h1
  unfold funAdj1 at e1
  simp only [e0, e1, p52 h2, p52 h3, Option.bind_some, Bool.not_true, cond_false]
theorem mh40 {m : Adj} {k : Int} (h0 : 0 ≤ k) (h1 : k ≤ 70368744177664) (h : okAdj m) :
    ∃ k' y1 y2 y3 y4 y6 y7 y8 y9 y10 y11 y13 y14 y15 y16 y18 y19 y20 y21 y22 y23 y24 y25, G40 (m, k) = some (k', (y1, (y2, (y3, (y4, (y6, (y7, (y8, (y9, (y10, (y11, (y13, (y14, (y15, (y16, (y18, (y19, (y20, (y21, (y22, (y23, (y24, y25)))))))))))))))))))))) ∧ 0 ≤ k' ∧ k' ≤ k + 140737488355328 ∧ G41 ((m.1, (y1, (y2, (y3, (y4, (m.2.2.2.2.2.1, (y6, (y7, (y8, (y9, (y10, (y11, (m.2.2.2.2.2.2.2.2.2.2.2.2.1, (y13, (y14, (y15, (y16, (m.2.2.2.2.2.2.2.2.2.2.2.2.2.2.2.2.2.1, (y18, (y19, (y20, (y21, (y22, (y23, (y24, y25))))))))))))))))))))))))), k) = some k' := by
  obtain ⟨g0, g1, g2, g3⟩ := h
  obtain ⟨k1, y1, y2, y3, y4, y6, y7, y8, y9, y10, y11, a1, b1, c1, d1⟩ := mh23 h0 (by omega) g0
  unfold funAdj0 at a1 d1
  obtain ⟨k2, y13, y14, y15, y16, y18, y19, y20, y21, y22, y23, a2, b2, c2, d2⟩ := mh23 b1 (by omega) g1
  unfold funAdj1 at a2 d2
  obtain ⟨k3, y24, a3, b3, c3, d3⟩ := mh53 b2 (by omega) g2
  obtain ⟨k4, y25, a4, b4, c4, d4⟩ := mh53 b3 (by omega) g3
  refine ⟨k4, y1, y2, y3, y4, y6, y7, y8, y9, y10, y11, y13, y14, y15, y16, y18, y19, y20, y21, y22, y23, y24, y25, ?_, b4, by omega, ?_⟩
  · unfold G40
    simp only [a1, a2, a3, a4, Option.bind_some]
  · unfold G41
    have n1 : ¬ (k1 < 0) := by omega
    have n2 : ¬ (k2 < 0) := by omega
    have n3 : ¬ (k3 < 0) := by omega
    have n4 : ¬ (k4 < 0) := by omega
    simp only [d1, d2, d3, d4, Option.bind_some, n1, n2, n3, n4, decide_false, cond_false]
def mkAdj (f0 f1 : Fun) (l0 l1 : List Int) : Adj := (f0.1, (f0.2.1, (f0.2.2.1, (f0.2.2.2.1, (f0.2.2.2.2.1, (f0.2.2.2.2.2.1, (f0.2.2.2.2.2.2.1, (f0.2.2.2.2.2.2.2.1, (f0.2.2.2.2.2.2.2.2.1, (f0.2.2.2.2.2.2.2.2.2.1, (f0.2.2.2.2.2.2.2.2.2.2.1, (f0.2.2.2.2.2.2.2.2.2.2.2, (f1.1, (f1.2.1, (f1.2.2.1, (f1.2.2.2.1, (f1.2.2.2.2.1, (f1.2.2.2.2.2.1, (f1.2.2.2.2.2.2.1, (f1.2.2.2.2.2.2.2.1, (f1.2.2.2.2.2.2.2.2.1, (f1.2.2.2.2.2.2.2.2.2.1, (f1.2.2.2.2.2.2.2.2.2.2.1, (f1.2.2.2.2.2.2.2.2.2.2.2, (l0, l1)))))))))))))))))))))))))
def zAdj : Adj := ((0 : Int), ([], ([], ([], ([], ((0 : Int), ([], ([], ([], ([], ([], ([], ((0 : Int), ([], ([], ([], ([], ((0 : Int), ([], ([], ([], ([], ([], ([], ([], [])))))))))))))))))))))))))
def idAdj (c : Cat) : Adj × Int := bif isCat c then (mkAdj (mkF c c (nums c.1.toNat) (nums c.2.1.length)) (mkF c c (nums c.1.toNat) (nums c.2.1.length)) c.2.2.2.1 c.2.2.2.1, 0) else (zAdj, 1)
theorem p37 {c : Cat} (h : okC c) : G37 c = some (idAdj c) := by
  unfold G37 idAdj
  simp only [Prod.eta, p59 h, Option.bind_some]
  cases hc : isCat c with
  | false => rfl
  | true =>
    have hd := (cat_sh hc).hd.1
    simp only [Bool.not_true, cond_false, p66 h hd.1 (by omega), p79 h.2.2.1, Option.bind_some]
    rfl
theorem p81 {f g : Fun} {u v : List Int} (h : okF f) (hg : okF g) (hu : u.length ≤ 1048576) (hv : v.length ≤ 1048576) : G81 (f, (g, (u, v))) = some (mkAdj f g u v) := by
  unfold G81
  simp only [p108 h, p108 hg, p109 hu, p109 hv, Option.bind_some, mkAdj]
theorem p38 {c : Cat} (h : okC c) : G38 c = some (idAdj c) := by
  unfold G38 idAdj
  simp only [Prod.eta, p67 h, Option.bind_some]
  cases hc : isCat c with
  | false => rfl
  | true =>
    have hd := (cat_sh hc).hd.1
    have hf : okF (mkF c c (nums c.1.toNat) (nums c.2.1.length)) := okF_mk h h (by rw [nums_len]; omega) (by rw [nums_len]; exact h.1)
    simp only [Bool.not_true, cond_false, p68 h hd.1 (by omega), Option.bind_some, p81 hf hf h.2.2.1 h.2.2.1]
    rfl
theorem idAdj_ok {c : Cat} (h : okC c) : okAdj (idAdj c).1 := by
  unfold idAdj
  cases hc : isCat c with
  | false => exact ⟨okF_z, okF_z, Nat.zero_le _, Nat.zero_le _⟩
  | true =>
    have hd := (cat_sh hc).hd.1
    have hf : okF (mkF c c (nums c.1.toNat) (nums c.2.1.length)) := okF_mk h h (by rw [nums_len]; omega) (by rw [nums_len]; exact h.1)
    exact ⟨hf, hf, h.2.2.1, h.2.2.1⟩

theorem p8 (x : Cat) (h : okT (PT S8.ps) x) : G8 x = some true := by
  obtain ⟨_, h1, h2, h3, h4⟩ := h
  unfold G8
  simp only [Prod.eta]
  obtain ⟨r1, e1, f1⟩ := p11 (c := x) h1.1 h2.1 h3.1 h4.1 (fun y hy => (h4.2 y hy).1)
  simp only [e1, Option.bind_some]
  by_cases n1 : r1 < 0
  · simp only [n1, decide_true, cond_true]
  simp only [n1, decide_false, cond_false]
  have hx := (f1.resolve_left n1).2.2
  have hf := idAdj_ok hx
  simp only [p14 hx, p37 hx, p38 hx, Option.bind_some]
  generalize idAdj x = r at hf
  obtain ⟨k1, y1, y2, y3, y4, a1, b1, c1, d1⟩ := mh22 (c := x) (k := 1) (by omega) (by omega) hx
  obtain ⟨k2, z1, z2, z3, z4, z6, z7, z8, z9, z10, z11, z13, z14, z15, z16, z18, z19, z20, z21, z22, z23, z24, z25, a2, b2, c2, d2⟩ := mh40 (m := r.1) (k := 1) (by omega) (by omega) hf
  have m1 : ¬ (k1 < 0) := by omega
  have m2 : ¬ (k2 < 0) := by omega
  simp only [p39 hf, p17 hx, a1, a2, d2, m1, m2, Option.bind_some, Bool.not_true, cond_false, decide_true, decide_false]

end Go.Ve.D

