/- Paths and schemas: copies, equalities, sizes. -/
import Derived.Test.YtkafcpbbcpngdaaDoorDsn
namespace Go.Ve.D
open Go Go.Ve

abbrev Pth := Int × List Int
abbrev Scm := Int × List Int × List Int × List Pth × List Pth
def okPs (l : List Pth) : Prop := l.length ≤ 1048576 ∧ ∀ y ∈ l, y.2.length ≤ 1048576
def okS (s : Scm) : Prop := s.2.1.length ≤ 1048576 ∧ s.2.2.1.length ≤ 1048576 ∧ okPs s.2.2.2.1 ∧ okPs s.2.2.2.2
theorem mem_at {x : List Pth} {i : Nat} (hi : i < x.length) : x.getD i ((0 : Int), ([] : (List Int))) ∈ x := by rw [List.getD_eq_getElem?_getD, List.getElem?_eq_getElem hi]; simp

theorem p14 {p : Pth} (h : p.2.length ≤ 1048576) : G14 p = some p := by
  unfold G14
  exact bind_of (p34 h) rfl
theorem set_two {l : List Pth} {i : Nat} (hi : i < l.length) (v : Pth) : ((l.set i (v.1, (l.getD i ((0 : Int), ([] : (List Int)))).2)).set i (((l.set i (v.1, (l.getD i ((0 : Int), ([] : (List Int)))).2)).getD i ((0 : Int), ([] : (List Int)))).1, v.2)) = l.set i v := by
  rw [List.set_set]
  congr 1
  rw [List.getD_eq_getElem?_getD, List.getElem?_set_self hi]
  rfl
theorem p35 {x : List Pth} (h : okPs x) : G35 x = some x := by
  obtain ⟨h, hx⟩ := h
  unfold G35
  rw [if_pos (by omega)]
  refine bind_of (v := .brk 0 ((x.length : Int), x)) (tloop_iter (st := fun i => ((i : Int), x.take i ++ (List.replicate x.length ((0 : Int), ([] : (List Int)))).drop i)) (n := x.length) (fun i hi => ?_) (by simp) (fun y => by simp)) rfl
  have e : (x.take i ++ (List.replicate x.length ((0 : Int), ([] : (List Int)))).drop i).length = x.length := by simp; omega
  have g : G14 (x.getD i ((0 : Int), ([] : (List Int)))) = some (x.getD i ((0 : Int), ([] : (List Int)))) := p14 (hx _ (mem_at hi))
  simp only [lt_cast, hi, decide_true, cond_true, in_cast hi, if_true, e, Int.toNat_natCast, and_self, Prod.eta, g, Option.bind_some]
  rw [set_two (by rw [e]; exact hi), take_set ((0 : Int), ([] : (List Int))) (by simp) hi, wrap_sm (by omega) (by omega)]
  rfl
theorem p13 {s : Scm} (h : okS s) : G13 s = some s := by
  obtain ⟨h1, h2, h3, h4⟩ := h
  unfold G13
  exact bind_of (p34 h1) (bind_of (p34 h2) (bind_of (p35 h3) (bind_of (p35 h4) rfl)))
theorem p17 {p : Pth} (h : p.2.length ≤ 1048576) : G17 (p, p) = some true := by
  unfold G17
  simp only [decide_true, Bool.not_true, cond_false, p38 h, Option.bind_some]
theorem p39 {x : List Pth} (h : okPs x) : G39 (x, x) = some true := by
  obtain ⟨h, hx⟩ := h
  unfold G39
  simp only [decide_true, Bool.not_true, cond_false]
  refine bind_of (v := .brk 0 (x.length : Int)) (tloop_iter (st := fun i => (i : Int)) (n := x.length) (fun i hi => ?_) (by simp) (fun y => by simp)) rfl
  have g : G17 (x.getD i ((0 : Int), ([] : (List Int))), x.getD i ((0 : Int), ([] : (List Int)))) = some true := p17 (hx _ (mem_at hi))
  simp only [lt_cast, hi, decide_true, cond_true, in_cast hi, if_true, Int.toNat_natCast, and_self, Prod.eta, Bool.not_true, cond_false, g, Option.bind_some]
  rw [wrap_sm (by omega) (by omega)]
  rfl
theorem p16 {s : Scm} (h : okS s) : G16 (s, s) = some true := by
  obtain ⟨h1, h2, h3, h4⟩ := h
  unfold G16
  simp only [p38 h1, p38 h2, p39 h3, p39 h4, Option.bind_some, decide_true, Bool.not_true, cond_false]
theorem p11 {p : Pth} {b : Int} (hb : 0 ≤ b ∧ b ≤ 1048576) (hx : p.2.length ≤ maxLen) : ∃ r, G11 (p, b) = some r ∧ (r < 0 ∨ (r = b - p.2.length ∧ 0 ≤ r)) := by
  obtain ⟨r, h1, h2⟩ := p30 hb hx
  unfold G11
  simp only [h1, Option.bind_some]
  by_cases h : r < 0
  · exact ⟨-1, by simp only [h, decide_true, cond_true], .inl (by decide)⟩
  · exact ⟨r, by simp only [h, decide_false, cond_false], h2⟩
theorem p31 {x : List Pth} {b : Int} (hb : 0 ≤ b ∧ b ≤ 1048576) (hx : x.length ≤ maxLen) (hy : ∀ y ∈ x, y.2.length ≤ maxLen) : ∃ r, G31 (x, b) = some r ∧ (r < 0 ∨ (0 ≤ r ∧ r ≤ b ∧ x.length ≤ 1048576 ∧ ∀ y ∈ x, y.2.length ≤ 1048576)) := by
  unfold G31
  have hm : maxLen = 9223372036854775807 := by decide
  rw [hm] at hx
  have e : IntKind.wrap .i64 (b - (x.length : Int)) = b - x.length := wrap_id (by omega) (by omega)
  simp only [e]
  by_cases h : b - (x.length : Int) < 0
  · exact ⟨-1, by simp only [h, decide_true, cond_true], .inl (by decide)⟩
  · simp only [h, decide_false, cond_false]
    obtain ⟨o, ho, hq⟩ := tloop_inv (f := (fun (v0 : (Int × Int)) => (bif (decide (v0.2 < ((x.length : Nat) : Int))) then (if (((0 : Int) ≤ v0.2) ∧ (v0.2 < ((x.length : Nat) : Int))) then (Option.bind (G11 (((x.getD (v0.2).toNat ((0 : Int), ([] : (List Int)))).1, (x.getD (v0.2).toNat ((0 : Int), ([] : (List Int)))).2), v0.1)) (fun (v1 : Int) => (bif (decide (v1 < (0 : Int))) then (retM (some (-(1 : Int)))) else (some (LO.next (v1, (IntKind.wrap .i64 (v0.2 + (1 : Int))))))))) else none) else (some (LO.brk 0 (v0.1, v0.2))))))
      (I := fun i s => s.2 = (i : Int) ∧ 0 ≤ s.1 ∧ s.1 ≤ b - x.length ∧ ∀ y ∈ x.take i, y.2.length ≤ 1048576)
      (Q := fun o => match o with
        | .brk id s => id = 0 ∧ 0 ≤ s.1 ∧ s.1 ≤ b ∧ ∀ y ∈ x, y.2.length ≤ 1048576
        | .ret r => r < 0
        | .next _ => False)
      (n := x.length) (x := (b - (x.length : Int), (0 : Int))) ⟨rfl, by omega, by omega, by simp⟩
      (fun i hi s hs => by
        obtain ⟨c, k⟩ := s
        obtain ⟨rfl, h1, h2, h3⟩ := hs
        simp only at h1 h2 h3
        have hmem : x.getD i ((0 : Int), ([] : (List Int))) ∈ x := by rw [List.getD_eq_getElem?_getD, List.getElem?_eq_getElem hi]; simp
        obtain ⟨r, hr, hr2⟩ := p11 (p := x.getD i ((0 : Int), ([] : (List Int)))) (b := c) ⟨h1, by omega⟩ (hy _ hmem)
        simp only [lt_cast, hi, decide_true, cond_true, in_cast hi, if_true, Int.toNat_natCast, and_self, Prod.eta, hr, Option.bind_some]
        by_cases hneg : r < 0
        · right
          exact ⟨.ret (-1), by simp only [hneg, decide_true, cond_true]; rfl, (fun y => by simp), (by decide : (-1 : Int) < 0)⟩
        · left
          refine ⟨(r, (i : Int) + 1), by simp only [hneg, decide_false, cond_false, wrap_sm (show (0 : Int) ≤ (i : Int) + 1 by omega) (by omega)], rfl, by omega, ?_, ?_⟩
          · rcases hr2 with h | ⟨h, _⟩
            · exact absurd h hneg
            · simp only; omega
          · intro y hmy
            rw [List.take_add_one, List.mem_append] at hmy
            rcases hmy with hmy | hmy
            · exact h3 y hmy
            · rw [List.getElem?_eq_getElem hi] at hmy
              have : y = x.getD i ((0 : Int), ([] : (List Int))) := by
                rw [List.getD_eq_getElem?_getD, List.getElem?_eq_getElem hi]
                simpa using hmy
              rw [this]
              rcases hr2 with h | ⟨h, h'⟩
              · exact absurd h hneg
              · omega)
      (fun s hs => by
        obtain ⟨c, k⟩ := s
        obtain ⟨rfl, h1, h2, h3⟩ := hs
        simp only at h1 h2 h3
        refine ⟨.brk 0 (c, (x.length : Int)), by simp, (fun y => by simp), rfl, h1, by simp only; omega, fun y hmy => h3 y (by simpa using hmy)⟩)
    rw [ho]
    cases o with
    | next => exact hq.elim
    | ret r => exact ⟨r, rfl, .inl hq⟩
    | brk id s =>
      obtain ⟨rfl, h1, h2, h3⟩ := hq
      exact ⟨s.1, rfl, .inr ⟨h1, h2, by omega, h3⟩⟩


theorem p10 {s : Scm} {b : Int} (hb : 0 ≤ b ∧ b ≤ 1048576) (h1 : s.2.1.length ≤ maxLen) (h2 : s.2.2.1.length ≤ maxLen) (h3 : s.2.2.2.1.length ≤ maxLen) (h4 : s.2.2.2.2.length ≤ maxLen) (h5 : ∀ y ∈ s.2.2.2.1, y.2.length ≤ maxLen) (h6 : ∀ y ∈ s.2.2.2.2, y.2.length ≤ maxLen) :
    ∃ r, G10 (s, b) = some r ∧ (r < 0 ∨ (0 ≤ r ∧ r ≤ 1048576 ∧ okS s)) := by
  unfold G10
  obtain ⟨r1, e1, f1⟩ := p30 (b := b) hb h1
  simp only [e1, Option.bind_some]
  by_cases n1 : r1 < 0
  · exact ⟨-1, by simp only [n1, decide_true, cond_true], .inl (by decide)⟩
  simp only [n1, decide_false, cond_false]
  obtain ⟨r2, e2, f2⟩ := p30 (b := r1) (by omega) h2
  simp only [e2, Option.bind_some]
  by_cases n2 : r2 < 0
  · exact ⟨-1, by simp only [n2, decide_true, cond_true], .inl (by decide)⟩
  simp only [n2, decide_false, cond_false]
  obtain ⟨r3, e3, f3⟩ := p31 (b := r2) (by omega) h3 h5
  simp only [e3, Option.bind_some]
  by_cases n3 : r3 < 0
  · exact ⟨-1, by simp only [n3, decide_true, cond_true], .inl (by decide)⟩
  simp only [n3, decide_false, cond_false]
  have f3 := f3.resolve_left n3
  obtain ⟨r4, e4, f4⟩ := p31 (b := r3) (by omega) h4 h6
  simp only [e4, Option.bind_some]
  by_cases n4 : r4 < 0
  · exact ⟨-1, by simp only [n4, decide_true, cond_true], .inl (by decide)⟩
  simp only [n4, decide_false, cond_false]
  have f4 := f4.resolve_left n4
  exact ⟨r4, rfl, .inr ⟨f4.1, by omega, by omega, by omega, f3.2.2, f4.2.2⟩⟩
end Go.Ve.D

