/- The texts of schemas; the law on them. -/
import Derived.Test.YtkafcpbbcpngdaaDoorDst
namespace Go.Ve.D
open Go Go.Ve

theorem catL_len' {m : Nat} : ∀ {ws : List (List UInt8)}, (∀ w ∈ ws, w.length ≤ m) → (catL ws).length ≤ (m + 1) * ws.length
  | [], _ => by simp [catL, Lib.joinTail]
  | w :: ws, h => by
    have h1 := catL_len' (ws := ws) fun x hx => h x (List.mem_cons_of_mem _ hx)
    have h2 := h w (List.mem_cons_self ..)
    have : catL (w :: ws) = [32] ++ w ++ catL ws := by simp [catL, Lib.joinTail]
    rw [this, List.length_cons, Nat.mul_add]
    simp only [List.length_append, List.length_cons, List.length_nil]
    omega
theorem part_len' {ws : List (List UInt8)} {k : Nat} (h : (catL ws).length ≤ k) : (part ws).length ≤ k + 1 := by
  unfold part
  split
  · simp
  · rename_i hn
    rw [catL_join hn] at h
    simp only [List.length_cons] at h
    omega
theorem p59' {ws : List (List UInt8)} (h : (catL ws).length ≤ 100000) (hl : ws.length ≤ 1048576) : G59 (ws.map B) = some (B (part ws)) := by
  unfold G59
  rw [List.length_map]
  have h2 := part_len' h
  unfold part at h2 ⊢
  cases ws with
  | nil => rfl
  | cons w r =>
    rw [if_neg (by simp)] at h2 ⊢
    rw [show decide (((w :: r).length : Int) = 0) = false from decide_eq_false (by simp only [List.length_cons]; omega), cond_false, b32]
    exact bind_of (p58 (by omega) (by omega)) rfl

def ew (s : Scm) (k : Nat) : List UInt8 := d2 (s.2.1.getD k 0) ++ [62] ++ d2 (s.2.2.1.getD k 0)
def qw (s : Scm) (i : Nat) : List UInt8 := ptext (lft s i) ++ [61] ++ ptext (rgt s i)
def edW (s : Scm) (n : Nat) : List (List UInt8) := (List.range n).map (ew s)
def eqW (s : Scm) (n : Nat) : List (List UInt8) := (List.range n).map (qw s)
theorem edW_succ (s : Scm) (k : Nat) : edW s (k + 1) = edW s k ++ [ew s k] := by simp [edW, List.range_succ]
theorem eqW_succ (s : Scm) (k : Nat) : eqW s (k + 1) = eqW s k ++ [qw s k] := by simp [eqW, List.range_succ]
theorem edW_len (s : Scm) (n : Nat) : (edW s n).length = n := by simp [edW]
theorem eqW_len (s : Scm) (n : Nat) : (eqW s n).length = n := by simp [eqW]
theorem ew_len (s : Scm) (k : Nat) : (ew s k).length ≤ 5 := by
  have h1 := d2_len (s.2.1.getD k 0)
  have h2 := d2_len (s.2.2.1.getD k 0)
  unfold ew
  simp only [List.length_append, List.length_cons, List.length_nil]
  omega
theorem ptext_len {p : Pth} (h : p.2.length ≤ 6) : (ptext p).length ≤ 9 := by
  have := phead_len p
  unfold ptext
  rw [List.length_append, List.length_map]
  omega
theorem eqOK_get {s : Scm} (h : sOK s = true) {i : Nat} (hi : i < s.2.2.2.1.length) : pOK s (lft s i) = true ∧ pOK s (rgt s i) = true := by
  rw [sOK_t (sOK_head h)] at h
  have := List.all_eq_true.1 h i (List.mem_range.2 hi)
  unfold eqOK at this
  simp only [Bool.and_eq_true] at this
  exact ⟨this.1, this.2.1⟩
theorem qw_len {s : Scm} (h : sOK s = true) {i : Nat} (hi : i < s.2.2.2.1.length) : (qw s i).length ≤ 19 := by
  obtain ⟨h1, h2⟩ := eqOK_get h hi
  have g1 := ptext_len (pOK_get h1).2.1
  have g2 := ptext_len (pOK_get h2).2.1
  unfold qw
  simp only [List.length_append, List.length_cons, List.length_nil]
  omega
theorem ed_cat {s : Scm} {k : Nat} (hk : k ≤ 8) : (catL (edW s k)).length ≤ 1000 := by
  have := catL_len' (m := 5) (ws := edW s k) fun w hw => by
    obtain ⟨j, _, rfl⟩ := List.mem_map.1 hw
    exact ew_len s j
  rw [edW_len] at this
  omega
theorem eq_cat {s : Scm} (h : sOK s = true) {k : Nat} (hk : k ≤ s.2.2.2.1.length) : (catL (eqW s k)).length ≤ 1000 := by
  have h8 := (sOK_head h).2.2.2.2.2.1
  have := catL_len' (m := 19) (ws := eqW s k) fun w hw => by
    obtain ⟨j, hj, rfl⟩ := List.mem_map.1 hw
    have := List.mem_range.1 hj
    exact qw_len h (by omega)
  rw [eqW_len] at this
  omega
def stext (s : Scm) : List UInt8 := d2 s.1 ++ [32, 124] ++ (32 :: part (edW s s.2.1.length)) ++ [32, 124] ++ (32 :: part (eqW s s.2.2.2.1.length))

theorem fin41 {n : Int} {A K : List UInt8} (hn : 0 ≤ n ∧ n < 100) (hA : A.length ≤ 20000) (hK : K.length ≤ 20000) :
    (Option.bind (G51 n) (fun (v2 : ByteArray) => (if ((v2.size + (ByteArray.mk #[32, 124]).size) ≤ 9223372036854775807) then (if (((v2 ++ (ByteArray.mk #[32, 124])).size + (B A).size) ≤ 9223372036854775807) then (if ((((v2 ++ (ByteArray.mk #[32, 124])) ++ (B A)).size + (ByteArray.mk #[32, 124]).size) ≤ 9223372036854775807) then (if (((((v2 ++ (ByteArray.mk #[32, 124])) ++ (B A)) ++ (ByteArray.mk #[32, 124])).size + (B K).size) ≤ 9223372036854775807) then (some ((((v2 ++ (ByteArray.mk #[32, 124])) ++ (B A)) ++ (ByteArray.mk #[32, 124])) ++ (B K))) else none) else none) else none) else none))) = some (B (d2 n ++ [32, 124] ++ A ++ [32, 124] ++ K)) := by
  have h1 := d2_len n
  refine bind_of (p51 hn.1 hn.2) (if_of (by simp only [b32, b45, b61, b62, bA, bB, bC, B_app, B_size, List.length_append, List.length_cons, List.length_nil]; omega) (if_of (by simp only [b32, b45, b61, b62, bA, bB, bC, B_app, B_size, List.length_append, List.length_cons, List.length_nil]; omega) (if_of (by simp only [b32, b45, b61, b62, bA, bB, bC, B_app, B_size, List.length_append, List.length_cons, List.length_nil]; omega) (if_of (by simp only [b32, b45, b61, b62, bA, bB, bC, B_app, B_size, List.length_append, List.length_cons, List.length_nil]; omega) ?_))))
  simp only [bA, B_app]

theorem p41 {s : Scm} (h : sOK s = true) : G41 s = some (B (stext s)) := by
  have hh := sOK_head h
  obtain ⟨⟨hc0, hc8⟩, hn, hto, hwf, hwt, hl, hr⟩ := hh
  unfold G41
  refine bind_of (tloop_iter (st := fun i => (B (catL (edW s i)), (i : Int))) (n := s.2.1.length) (o := .brk 0 (B (catL (edW s s.2.1.length)), (s.2.1.length : Int))) (fun f hf => ?_) ?_ (fun y h => by cases h)) ?_
  · show (bif decide ((f : Int) < (s.2.1.length : Int)) then _ else _) = _
    rw [lt_cast, decide_eq_true hf, cond_true]
    have hA := ed_cat (s := s) (k := f) (by omega)
    have hfr := wi_get hwf hf
    have hft := wi_get hwt (show f < s.2.2.1.length by omega)
    have l1 := d2_len (s.2.1.getD f 0)
    have l2 := d2_len (s.2.2.1.getD f 0)
    refine if_of ?_ (if_of (in_cast hf) (bind_of (v := B (d2 (s.2.1.getD f 0))) (p51 (n := s.2.1.getD f 0) hfr.1 (by omega)) (if_of ?_ (if_of ?_ (if_of (by rw [hto]; exact in_cast hf) (bind_of (v := B (d2 (s.2.2.1.getD f 0))) (p51 (n := s.2.2.1.getD f 0) hft.1 (by omega)) (if_of ?_ ?_)))))))
    · simp only [b32, B_size, List.length_cons, List.length_nil]; omega
    · simp only [b32, B_app, B_size, List.length_append, List.length_cons, List.length_nil]; omega
    · simp only [b32, b62, B_app, B_size, List.length_append, List.length_cons, List.length_nil]; omega
    · simp only [b32, b62, B_app, B_size, List.length_append, List.length_cons, List.length_nil]; omega
    · show some (LO.next (_, IntKind.wrap .i64 ((f : Int) + 1))) = _
      rw [wrap_sm (by omega) (by omega), edW_succ, catL_snoc]
      simp only [b32, b62, B_app, ew, List.append_assoc]
      rfl
  · show (bif decide ((s.2.1.length : Int) < (s.2.1.length : Int)) then _ else _) = _
    rw [decide_eq_false (by omega), cond_false]
  show (if (0 : Nat) = 0 then _ else none) = _
  rw [if_pos rfl]
  refine bind_of (tloop_iter (st := fun i => (B (catL (eqW s i)), (i : Int))) (n := s.2.2.2.1.length) (o := .brk 2 (B (catL (eqW s s.2.2.2.1.length)), (s.2.2.2.1.length : Int))) (fun f hf => ?_) ?_ (fun y h => by cases h)) ?_
  · show (bif decide ((f : Int) < (s.2.2.2.1.length : Int)) then _ else _) = _
    rw [lt_cast, decide_eq_true hf, cond_true]
    have hA := eq_cat h (k := f) (by omega)
    obtain ⟨o1, o2⟩ := eqOK_get h hf
    obtain ⟨a1, a2, a3⟩ := pOK_small (sOK_head h) o1
    obtain ⟨c1, c2, c3⟩ := pOK_small (sOK_head h) o2
    have l1 := ptext_len a2
    have l2 := ptext_len c2
    refine if_of ?_ (if_of (in_cast hf) (bind_of (v := B (ptext (lft s f))) (p33 (p := lft s f) a1 a2 a3) (if_of ?_ (if_of ?_ (if_of (by rw [hr]; exact in_cast hf) (bind_of (v := B (ptext (rgt s f))) (p33 (p := rgt s f) c1 c2 c3) (if_of ?_ ?_)))))))
    · simp only [b32, B_size, List.length_cons, List.length_nil]; omega
    · simp only [b32, B_app, B_size, List.length_append, List.length_cons, List.length_nil]; omega
    · simp only [b32, b61, B_app, B_size, List.length_append, List.length_cons, List.length_nil]; omega
    · simp only [b32, b61, B_app, B_size, List.length_append, List.length_cons, List.length_nil]; omega
    · show some (LO.next (_, IntKind.wrap .i64 ((f : Int) + 1))) = _
      rw [wrap_sm (by omega) (by omega), eqW_succ, catL_snoc]
      simp only [b32, b61, B_app, qw, List.append_assoc]
      rfl
  · show (bif decide ((s.2.2.2.1.length : Int) < (s.2.2.2.1.length : Int)) then _ else _) = _
    rw [decide_eq_false (by omega), cond_false]
  show (if (2 : Nat) = 2 then _ else none) = _
  rw [if_pos rfl]
  have hA := ed_cat (s := s) (k := s.2.1.length) (by omega)
  have hK := eq_cat h (k := s.2.2.2.1.length) (Nat.le_refl _)
  have hE : ∀ ws : List (List UInt8), ws = [] → (32 :: part ws) = [32, 45] := fun ws h => by subst h; rfl
  have hF : ∀ ws : List (List UInt8), ws ≠ [] → (32 :: part ws) = catL ws := fun ws h => by rw [catL_join h, part, if_neg h]
  have hT : ∀ ws : List (List UInt8), ws = [] → eqS (B (catL ws)) (ByteArray.mk #[]) = true := fun ws h => by subst h; rfl
  have hG : ∀ ws : List (List UInt8), ws ≠ [] → eqS (B (catL ws)) (ByteArray.mk #[]) = false := fun ws h => decide_eq_false (by rw [b0, B_list, B_list, catL_join h]; simp)
  unfold stext
  by_cases e1 : edW s s.2.1.length = []
  · show (bif eqS (B (catL (edW s s.2.1.length))) (ByteArray.mk #[]) then _ else _) = _
    rw [hT _ e1, cond_true, hE _ e1]
    by_cases e2 : eqW s s.2.2.2.1.length = []
    · show (bif eqS (B (catL (eqW s s.2.2.2.1.length))) (ByteArray.mk #[]) then _ else _) = _
      rw [hT _ e2, cond_true, hE _ e2]
      exact fin41 (A := [32, 45]) (K := [32, 45]) ⟨hc0, by omega⟩ (by simp) (by simp)
    · show (bif eqS (B (catL (eqW s s.2.2.2.1.length))) (ByteArray.mk #[]) then _ else _) = _
      rw [hG _ e2, cond_false, hF _ e2]
      exact fin41 (A := [32, 45]) ⟨hc0, by omega⟩ (by simp) (by omega)
  · show (bif eqS (B (catL (edW s s.2.1.length))) (ByteArray.mk #[]) then _ else _) = _
    rw [hG _ e1, cond_false, hF _ e1]
    by_cases e2 : eqW s s.2.2.2.1.length = []
    · show (bif eqS (B (catL (eqW s s.2.2.2.1.length))) (ByteArray.mk #[]) then _ else _) = _
      rw [hT _ e2, cond_true, hE _ e2]
      exact fin41 (K := [32, 45]) ⟨hc0, by omega⟩ (by omega) (by simp)
    · show (bif eqS (B (catL (eqW s s.2.2.2.1.length))) (ByteArray.mk #[]) then _ else _) = _
      rw [hG _ e2, cond_false, hF _ e2]
      exact fin41 ⟨hc0, by omega⟩ (by omega) (by omega)

theorem p43 {s : Scm} (h : sOK s = true) : G43 s = some (B (stext s)) := by
  have hh := sOK_head h
  obtain ⟨⟨hc0, hc8⟩, hn, hto, hwf, hwt, hl, hr⟩ := hh
  unfold G43
  refine bind_of (tloop_iter (st := fun i => ((i : Int), (edW s i).map B)) (n := s.2.1.length) (o := .brk 0 ((s.2.1.length : Int), (edW s s.2.1.length).map B)) (fun f hf => ?_) ?_ (fun y h => by cases h)) ?_
  · show (bif decide ((f : Int) < (s.2.1.length : Int)) then _ else _) = _
    rw [lt_cast, decide_eq_true hf, cond_true]
    have hfr := wi_get hwf hf
    have hft := wi_get hwt (show f < s.2.2.1.length by omega)
    have l1 := d2_len (s.2.1.getD f 0)
    have l2 := d2_len (s.2.2.1.getD f 0)
    refine if_of (in_cast hf) (bind_of (v := B (d2 (s.2.1.getD f 0))) (p53 (n := s.2.1.getD f 0) hfr.1 (by omega)) (if_of ?_ (if_of (by rw [hto]; exact in_cast hf) (bind_of (v := B (d2 (s.2.2.1.getD f 0))) (p53 (n := s.2.2.1.getD f 0) hft.1 (by omega)) (if_of ?_ (if_of ?_ ?_))))))
    · simp only [b62, B_app, B_size, List.length_append, List.length_cons, List.length_nil]; omega
    · simp only [b62, B_app, B_size, List.length_append, List.length_cons, List.length_nil]; omega
    · show ((edW s f).map B).length + 1 ≤ _
      rw [List.length_map, edW_len]; omega
    · show some (LO.next (IntKind.wrap .i64 ((f : Int) + 1), _)) = _
      rw [wrap_sm (by omega) (by omega), edW_succ, List.map_append (l₁ := edW s f)]
      simp only [b62, B_app, ew]
      rfl
  · show (bif decide ((s.2.1.length : Int) < (s.2.1.length : Int)) then _ else _) = _
    rw [decide_eq_false (by omega), cond_false]
  show (if (0 : Nat) = 0 then _ else none) = _
  rw [if_pos rfl]
  refine bind_of (tloop_iter (st := fun i => ((i : Int), (eqW s i).map B)) (n := s.2.2.2.1.length) (o := .brk 2 ((s.2.2.2.1.length : Int), (eqW s s.2.2.2.1.length).map B)) (fun f hf => ?_) ?_ (fun y h => by cases h)) ?_
  · show (bif decide ((f : Int) < (s.2.2.2.1.length : Int)) then _ else _) = _
    rw [lt_cast, decide_eq_true hf, cond_true]
    obtain ⟨o1, o2⟩ := eqOK_get h hf
    obtain ⟨a1, a2, a3⟩ := pOK_small (sOK_head h) o1
    obtain ⟨c1, c2, c3⟩ := pOK_small (sOK_head h) o2
    have l1 := ptext_len a2
    have l2 := ptext_len c2
    refine if_of (in_cast hf) (bind_of (v := B (ptext (lft s f))) (p37 (p := lft s f) a1 a2 a3) (if_of ?_ (if_of (by rw [hr]; exact in_cast hf) (bind_of (v := B (ptext (rgt s f))) (p37 (p := rgt s f) c1 c2 c3) (if_of ?_ (if_of ?_ ?_))))))
    · simp only [b61, B_app, B_size, List.length_append, List.length_cons, List.length_nil]; omega
    · simp only [b61, B_app, B_size, List.length_append, List.length_cons, List.length_nil]; omega
    · show ((eqW s f).map B).length + 1 ≤ _
      rw [List.length_map, eqW_len]; omega
    · show some (LO.next (IntKind.wrap .i64 ((f : Int) + 1), _)) = _
      rw [wrap_sm (by omega) (by omega), eqW_succ, List.map_append (l₁ := eqW s f)]
      simp only [b61, B_app, qw]
      rfl
  · show (bif decide ((s.2.2.2.1.length : Int) < (s.2.2.2.1.length : Int)) then _ else _) = _
    rw [decide_eq_false (by omega), cond_false]
  show (if (2 : Nat) = 2 then _ else none) = _
  rw [if_pos rfl]
  have hA := ed_cat (s := s) (k := s.2.1.length) (by omega)
  have hK := eq_cat h (k := s.2.2.2.1.length) (Nat.le_refl _)
  have n1 := part_len' hA
  have n2 := part_len' hK
  have n5 := d2_len s.1
  have hj : Lib.join [d2 s.1, part (edW s s.2.1.length), part (eqW s s.2.2.2.1.length)] [32, 124, 32] = stext s := by
    rw [Lib.join_cons]
    simp [Lib.joinTail, stext]
  refine bind_of (p53 (n := s.1) hc0 (by omega)) (bind_of (p59' (ws := edW s s.2.1.length) (by omega) (by rw [edW_len]; omega)) (bind_of (p59' (ws := eqW s s.2.2.2.1.length) (by omega) (by rw [eqW_len]; omega)) (bind_of (v := B (stext s)) ?_ rfl)))
  have := p58 (ws := [d2 s.1, part (edW s s.2.1.length), part (eqW s s.2.2.2.1.length)]) (sep := [32, 124, 32]) (by simp) (by
    rw [hj]; unfold stext
    simp only [List.length_append, List.length_cons, List.length_nil]; omega)
  rw [hj] at this
  exact this

def str (s : Scm) : ByteArray × Int := bif sOK s then (B (stext s), 0) else (B [], 1)
theorem p18 {s : Scm} (hs : okS s) : G18 s = some (str s) := by
  unfold G18 str
  refine bind_of (v := sOK s) (p40 hs) ?_
  cases h : sOK s with
  | false => rfl
  | true => exact bind_of (v := B (stext s)) (p41 h) rfl
theorem p19 {s : Scm} (hs : okS s) : G19 s = some (str s) := by
  unfold G19 str
  refine bind_of (v := sOK s) (p42 hs) ?_
  cases h : sOK s with
  | false => rfl
  | true => exact bind_of (v := B (stext s)) (p43 h) rfl
theorem p5 (s : Scm) (h : okT (PT S5.ps) s) : G5 s = some true := by
  obtain ⟨_, h1, h2, h3, h4⟩ := h
  unfold G5
  obtain ⟨r1, e1, f1⟩ := p10 (s := s) (b := 1048576) (by omega) h1.1 h2.1 h3.1 h4.1 (fun y hy => (h3.2 y hy).2.1) (fun y hy => (h4.2 y hy).2.1)
  refine bind_of (v := r1) e1 ?_
  by_cases n1 : r1 < 0
  · simp only [n1, decide_true, cond_true]
  simp only [n1, decide_false, cond_false]
  have hs := (f1.resolve_left n1).2.2
  refine bind_of (v := s) (p13 hs) (bind_of (v := str s) (p18 hs) (bind_of (v := s) (p13 hs) (bind_of (v := str s) (p19 hs) (bind_of (v := false) ?_ ?_))))
  · simp
  · exact bind_of (v := s) (p13 hs) (bind_of (v := true) (p16 hs) rfl)
end Go.Ve.D

