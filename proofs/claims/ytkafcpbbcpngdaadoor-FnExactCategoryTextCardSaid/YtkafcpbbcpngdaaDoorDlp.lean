/- The program's text of a category; the law. -/
import Derived.Test.YtkafcpbbcpngdaaDoorDlo
namespace Go.Ve.D
open Go Go.Ve

theorem guardB' {b b' : Bool} (hb : b = b') (o : Option Bool) (u : Bool) (h : o = some u) : (bif b then Option.bind o (fun v => some (!v)) else some false) = some (b' && !u) := by
  subst h; subst hb; cases b <;> rfl
theorem p66 {c : Cat} (hs : Sh c) {f : Nat} (hf : f < c.2.1.length) : G66 (c, (f : Int)) = some (B (aw c f)) := by
  obtain ⟨⟨hc0, hc8⟩, hn, hto, _, _, hcl, hil, _⟩ := hs.hd
  have hfr := hs.fr f hf
  have hft := hs.to f hf
  have l1 := d2_len (c.2.1.getD f 0)
  have l2 := d2_len (c.2.2.1.getD f 0)
  unfold G66
  refine if_of (in_cast hf) (bind_of (v := B (d2 (c.2.1.getD f 0))) (p53 (n := c.2.1.getD f 0) hfr.1 (by omega)) (if_of ?_ (if_of (by rw [hto]; exact in_cast hf) (bind_of (v := B (d2 (c.2.2.1.getD f 0))) (p53 (n := c.2.2.1.getD f 0) hft.1 (by omega)) (if_of ?_ ?_)))))
  · simp only [b62, B_app, B_size, List.length_append, List.length_cons, List.length_nil]; omega
  · simp only [b62, B_app, B_size, List.length_append, List.length_cons, List.length_nil]; omega
  · simp only [b62, B_app, aw]

theorem p49 {c : Cat} (hs : Sh c) : G49 c = some (B (ctext c)) := by
  obtain ⟨⟨hc0, hc8⟩, hn, hto, _, _, hcl, hil, _⟩ := hs.hd
  have hid : ∀ i, i < c.2.2.2.1.length → 0 ≤ c.2.2.2.1.getD i 0 ∧ c.2.2.2.1.getD i 0 < 100 := fun i hi => by
    have := hs.id (i : Int) (by omega) (by omega)
    rw [Int.toNat_natCast] at this
    omega
  unfold G49
  refine bind_of (tloop_iter (st := fun i => ((i : Int), ((arrW c i).map B, (compW c i).map B))) (n := c.2.1.length) (o := .brk 0 ((c.2.1.length : Int), ((arrW c c.2.1.length).map B, (compW c c.2.1.length).map B))) (fun f hf => ?_) ?_ (fun y h => by cases h)) ?_
  · show (bif decide ((f : Int) < (c.2.1.length : Int)) then _ else _) = _
    rw [lt_cast, decide_eq_true hf, cond_true]
    have hr := hs.row f hf
    refine bind_of (p66 hs hf) (if_of ?_ (if_of (by rw [hcl]; exact in_cast hf) (bind_of (tloop_iter' (by rw [show cw c f 0 = [] from rfl, List.append_nil]; rfl) (st := fun g => ((g : Int), (compW c f ++ cw c f g).map B)) (n := c.2.1.length) (o := .brk 2 ((c.2.1.length : Int), (compW c f ++ cw c f c.2.1.length).map B)) (fun g hg => ?_) ?_ (fun y h => by cases h)) ?_)))
    · show ((arrW c f).map B).length + 1 ≤ _
      rw [List.length_map, arrW_len]; omega
    · show (bif decide ((g : Int) < (((c.2.2.2.2.getD f []).length : Nat) : Int)) then (if (0 : Int) ≤ (g : Int) ∧ (g : Int) < (((c.2.2.2.2.getD f []).length : Nat) : Int) then _ else none) else _) = _
      rw [hr, lt_cast, decide_eq_true hg, cond_true]
      have ht : decide ((0 : Int) ≤ T c f g) = mt c f g := by
        cases hm : mt c f g with
        | true => exact decide_eq_true (hs.pos f g hf hg hm).1
        | false => exact decide_eq_false (by rw [hs.neg f g hf hg hm]; decide)
      refine if_of (in_cast hg) (bind_of (guardB' ht _ _ (p67 hs hf)) (bind_of (guardB (mt c f g && !unit c f) _ _ (p67 hs hg)) ?_))
      show (bif cd c f g then _ else _) = _
      cases hcd : cd c f g with
      | false =>
        rw [cond_false]
        show some (LO.next (IntKind.wrap .i64 ((g : Int) + 1), _)) = _
        rw [wrap_sm (by omega) (by omega), cw_succ, hcd]
        simp only [Bool.false_eq_true, if_false, List.append_nil]
        rfl
      | true =>
        rw [cond_true]
        have hm : mt c f g = true := by
          unfold cd at hcd
          simp only [Bool.and_eq_true] at hcd
          exact hcd.1.1
        have hp := hs.pos f g hf hg hm
        have hK := both_num hn (c := c) (f := f) (g := g) (by omega) (by omega)
        have m1 := d2_len (f : Int)
        have m2 := d2_len (g : Int)
        have m3 := d2_len (T c f g)
        refine bind_of (v := B (d2 (f : Int))) (p68 (n := (f : Int)) (by omega) (by omega)) (if_of ?_ (bind_of (v := B (d2 (g : Int))) (p68 (n := (g : Int)) (by omega) (by omega)) (if_of ?_ (if_of ?_ (bind_of (v := B (d2 (T c f g))) (p53 (n := T c f g) hp.1 (by omega)) (if_of ?_ (if_of ?_ ?_)))))))
        · simp only [b46, B_app, B_size, List.length_append, List.length_cons, List.length_nil]; omega
        · simp only [b46, b61, B_app, B_size, List.length_append, List.length_cons, List.length_nil]; omega
        · simp only [b46, b61, B_app, B_size, List.length_append, List.length_cons, List.length_nil]; omega
        · simp only [b46, b61, B_app, B_size, List.length_append, List.length_cons, List.length_nil]; omega
        · show ((compW c f ++ cw c f g).map B).length + 1 ≤ _
          rw [List.length_map]; omega
        · show some (LO.next (IntKind.wrap .i64 ((g : Int) + 1), _)) = _
          rw [wrap_sm (by omega) (by omega), cw_succ, hcd, if_pos rfl, ← List.append_assoc (compW c f), List.map_append (l₁ := compW c f ++ cw c f g)]
          simp only [b46, b61, B_app, cwd]
          rfl
    · show (bif decide ((c.2.1.length : Int) < (((c.2.2.2.2.getD f []).length : Nat) : Int)) then _ else _) = _
      rw [hr, decide_eq_false (by omega), cond_false]
    · show (if (2 : Nat) = 2 then _ else none) = _
      rw [if_pos rfl]
      show some (LO.next (IntKind.wrap .i64 ((f : Int) + 1), _)) = _
      rw [wrap_sm (by omega) (by omega), arrW_succ, compW_succ, List.map_append (l₁ := arrW c f)]
      rfl
  · show (bif decide ((c.2.1.length : Int) < (c.2.1.length : Int)) then _ else _) = _
    rw [decide_eq_false (by omega), cond_false]
  · show (if (0 : Nat) = 0 then _ else none) = _
    rw [if_pos rfl]
    have n1 := part_len (arrW_all c c.2.1.length)
    rw [arrW_len] at n1
    have n2 := part_len (compW_all c c.2.1.length)
    have n3 := part_len (d2_all c.2.2.2.1)
    rw [List.length_map] at n3
    have n4 := both_num hn (c := c) (f := c.2.1.length) (g := 0) (by omega) (by omega)
    rw [show cw c c.2.1.length 0 = [] from rfl, List.append_nil] at n4
    have n5 := d2_len c.1
    have hj : Lib.join [d2 c.1, part (arrW c c.2.1.length), part (c.2.2.2.1.map d2), part (compW c c.2.1.length)] [32, 124, 32] = ctext c := by
      rw [Lib.join_cons]
      simp [Lib.joinTail, ctext]
    refine bind_of (p53 (n := c.1) hc0 (by omega)) (bind_of (p59 (arrW_all c _) (by rw [arrW_len]; omega)) (bind_of (p69 (by omega) hid) (bind_of (p59 (compW_all c _) (by omega)) (bind_of (v := B (ctext c)) ?_ rfl))))
    have := p58 (ws := [d2 c.1, part (arrW c c.2.1.length), part (c.2.2.2.1.map d2), part (compW c c.2.1.length)]) (sep := [32, 124, 32]) (by simp) (by
      rw [hj]; unfold ctext
      simp only [List.length_append, List.length_cons, List.length_nil]; omega)
    rw [hj] at this
    exact this

def ctr (c : Cat) : ByteArray × Int := bif isCat c then (B (ctext c), 0) else (B [], 1)
theorem p21 {c : Cat} (h : okC c) : G21 c = some (ctr c) := by
  unfold G21 ctr
  refine bind_of (v := isCat c) (p45 h) ?_
  cases hi : isCat c with
  | false => rfl
  | true =>
    have hs : Sh c := sh_of (by unfold isCat at hi; simp only [Bool.and_eq_true] at hi; exact hi.1)
    exact bind_of (v := B (ctext c)) (p46 hs) rfl
theorem p23 {c : Cat} (h : okC c) : G23 c = some (ctr c) := by
  unfold G23 ctr
  refine bind_of (v := isCat c) (p48 h) ?_
  cases hi : isCat c with
  | false => rfl
  | true =>
    have hs : Sh c := sh_of (by unfold isCat at hi; simp only [Bool.and_eq_true] at hi; exact hi.1)
    exact bind_of (v := B (ctext c)) (p49 hs) rfl
theorem p6 (c : Cat) (h : okT (PT S6.ps) c) : G6 c = some true := by
  obtain ⟨_, h1, h2, h3, h4⟩ := h
  unfold G6
  obtain ⟨r1, e1, f1⟩ := p20 (c := c) h1.1 h2.1 h3.1 h4.1 (fun y hy => (h4.2 y hy).1)
  refine bind_of (v := r1) e1 ?_
  by_cases n1 : r1 < 0
  · simp only [n1, decide_true, cond_true]
  simp only [n1, decide_false, cond_false]
  have f1 := (f1.resolve_left n1).2.2
  refine bind_of (v := c) (p22 f1) (bind_of (v := ctr c) (p21 f1) (bind_of (v := c) (p22 f1) (bind_of (v := ctr c) (p23 f1) (bind_of (v := false) ?_ ?_))))
  · simp
  · exact bind_of (v := c) (p22 f1) (bind_of (v := true) (p24 f1) rfl)
end Go.Ve.D

