/- The texts of queries: the law. -/
import Derived.Test.YtcdekmccongjgaaDoorNqb
namespace Go.Ve.D
open Go Go.Ve

theorem catL_lenK {K : Nat} : ∀ {ws : List (List UInt8)}, (∀ w ∈ ws, w.length ≤ K) → (catL ws).length ≤ (K + 1) * ws.length
  | [], _ => Nat.zero_le _
  | w :: ws, h => by
    have h1 := h w (List.mem_cons_self ..)
    have h2 := catL_lenK (ws := ws) fun x hx => h x (List.mem_cons_of_mem _ hx)
    have e : catL (w :: ws) = 32 :: (w ++ catL ws) := rfl
    rw [e, List.length_cons, List.length_append, List.length_cons, Nat.mul_succ]
    omega
theorem part_lenK {K : Nat} {ws : List (List UInt8)} (h : ∀ w ∈ ws, w.length ≤ K) : (part ws).length ≤ (K + 1) * ws.length + 1 := by
  unfold part
  split
  · simp
  · rename_i hn
    have := catL_lenK h
    rw [catL_join hn, List.length_cons] at this
    omega
theorem p61K {K : Nat} {ws : List (List UInt8)} (h : ∀ w ∈ ws, w.length ≤ K) (hK : K ≤ 1000) (hl : ws.length ≤ 1048576) : G61 (ws.map B) = some (B (part ws)) := by
  unfold G61
  by_cases hn : ws = []
  · subst hn; rfl
  · have hlen : ws.length ≠ 0 := by intro h; exact hn (List.length_eq_zero_iff.1 h)
    have e : decide ((((ws.map B).length : Nat) : Int) = (0 : Int)) = false := decide_eq_false (by rw [List.length_map]; omega)
    rw [e, cond_false, b32]
    have h1 := part_lenK h
    have hKl : (K + 1) * ws.length ≤ 1001 * 1048576 := Nat.mul_le_mul (by omega) hl
    unfold part at h1 ⊢
    rw [if_neg hn] at h1 ⊢
    exact bind_of (p51 (by omega) (by omega)) rfl

def tw (t : Int × Int) : List UInt8 := d2 t.1 ++ [46] ++ d2 t.2
def cwq (q : Qry) (i : Nat) : List UInt8 := tw (q.2.1.getD i (0, 0)) ++ [61] ++ tw (q.2.2.1.getD i (0, 0))
def wq (q : Qry) (n : Nat) : List (List UInt8) := (List.range n).map (cwq q)
theorem wq_succ (q : Qry) (n : Nat) : wq q (n + 1) = wq q n ++ [cwq q n] := by simp [wq, List.range_succ]
theorem wq_len (q : Qry) (n : Nat) : (wq q n).length = n := by simp [wq]
theorem tw_len (t : Int × Int) : (tw t).length ≤ 5 := by
  have h1 := d2_len t.1
  have h2 := d2_len t.2
  unfold tw
  simp only [List.length_append, List.length_cons, List.length_nil]; omega
theorem cwq_len (q : Qry) (i : Nat) : (cwq q i).length ≤ 11 := by
  have h1 := tw_len (q.2.1.getD i (0, 0))
  have h2 := tw_len (q.2.2.1.getD i (0, 0))
  unfold cwq
  simp only [List.length_append, List.length_cons, List.length_nil]; omega
theorem wq_all (q : Qry) (n : Nat) : ∀ w ∈ wq q n, w.length ≤ 11 := by
  intro w hw
  obtain ⟨i, _, rfl⟩ := List.mem_map.1 hw
  exact cwq_len q i
def qtext (q : Qry) : List UInt8 := part (q.1.map d2) ++ [32, 124] ++ (32 :: part (wq q q.2.1.length)) ++ [32, 124, 32] ++ part (q.2.2.2.map d2)

/-- the numbers of a query are small -/
structure Sm (q : Qry) : Prop where
  l1 : q.1.length ≤ 4
  l2 : q.2.1.length ≤ 6
  l3 : q.2.2.1.length = q.2.1.length
  l4 : q.2.2.2.length ≤ 4
  a1 : ∀ i, i < q.1.length → 0 ≤ q.1.getD i 0 ∧ q.1.getD i 0 < 100
  a2 : ∀ i, i < q.2.1.length → (0 ≤ (q.2.1.getD i (0, 0)).1 ∧ (q.2.1.getD i (0, 0)).1 < 100) ∧ (0 ≤ (q.2.1.getD i (0, 0)).2 ∧ (q.2.1.getD i (0, 0)).2 < 100)
  a3 : ∀ i, i < q.2.1.length → (0 ≤ (q.2.2.1.getD i (0, 0)).1 ∧ (q.2.2.1.getD i (0, 0)).1 < 100) ∧ (0 ≤ (q.2.2.1.getD i (0, 0)).2 ∧ (q.2.2.1.getD i (0, 0)).2 < 100)
  a4 : ∀ i, i < q.2.2.2.length → 0 ≤ q.2.2.2.getD i 0 ∧ q.2.2.2.getD i 0 < 100
theorem sm_of {c : Cat} {q : Qry} (hs : Sh c) (h : qOK c q = true) : Sm q := by
  unfold qOK at h
  rw [Bool.and_eq_true, decide_eq_true_eq] at h
  obtain ⟨⟨h1, h2, h3, h4, h5, h6⟩, hc⟩ := h
  obtain ⟨⟨hc0, hc8⟩, hn, _⟩ := hs.hd
  have tm : ∀ t : Int × Int, termOK c q.1 t = true → (0 ≤ t.1 ∧ t.1 < 100) ∧ (0 ≤ t.2 ∧ t.2 < 100) := fun t ht => by
    unfold termOK at ht
    rw [Bool.and_eq_true, Bool.and_eq_true] at ht
    obtain ⟨g1, g2⟩ := inn_iff.1 ht.1
    obtain ⟨g3, g4⟩ := inn_iff.1 ht.2.1
    exact ⟨⟨g1, by omega⟩, ⟨g3, by omega⟩⟩
  have cn : ∀ i, i < q.2.1.length → termOK c q.1 (q.2.1.getD i (0, 0)) = true ∧ termOK c q.1 (q.2.2.1.getD i (0, 0)) = true := fun i hi => by
    have := List.all_eq_true.1 hc i (List.mem_range.2 hi)
    unfold condOK at this
    rw [Bool.and_eq_true, Bool.and_eq_true] at this
    exact ⟨this.1, this.2.1⟩
  refine ⟨h1, h3, h4, h5, fun i hi => ?_, fun i hi => tm _ (cn i hi).1, fun i hi => tm _ (cn i hi).2, fun i hi => ?_⟩
  · obtain ⟨g1, g2⟩ := wi_get h2 hi
    exact ⟨g1, by omega⟩
  · obtain ⟨g1, g2⟩ := wi_get h6 hi
    exact ⟨g1, by omega⟩
theorem p59 {t : Int × Int} (h : (0 ≤ t.1 ∧ t.1 < 100) ∧ (0 ≤ t.2 ∧ t.2 < 100)) : G59 t = some (B (tw t)) := by
  have l1 := d2_len t.1
  have l2 := d2_len t.2
  unfold G59
  refine bind_of (p49 h.1.1 h.1.2) (if_of ?_ (bind_of (p49 h.2.1 h.2.2) (if_of ?_ ?_)))
  · simp only [b46, B_app, B_size, List.length_append, List.length_cons, List.length_nil]; omega
  · simp only [b46, B_app, B_size, List.length_append, List.length_cons, List.length_nil]; omega
  · simp only [b46, B_app, tw]
theorem p29 {q : Qry} (h : Sm q) : G29 q = some (B (qtext q)) := by
  obtain ⟨l1, l2, l3, l4, a1, a2, a3, a4⟩ := h
  unfold G29
  refine bind_of (tloop_iter (st := fun i => (B (catL (wq q i)), (i : Int))) (n := q.2.1.length) (o := .brk 0 (B (catL (wq q q.2.1.length)), (q.2.1.length : Int))) (fun i hi => ?_) ?_ (fun y h => by cases h)) ?_
  · show (bif decide ((i : Int) < (q.2.1.length : Int)) then _ else _) = _
    rw [lt_cast, decide_eq_true hi, cond_true]
    have hA := catL_lenK (wq_all q i)
    rw [wq_len] at hA
    obtain ⟨⟨x1, x2⟩, ⟨x3, x4⟩⟩ := a2 i hi
    obtain ⟨⟨y1, y2⟩, ⟨y3, y4⟩⟩ := a3 i hi
    have m1 := d2_len (q.2.1.getD i (0, 0)).1
    have m2 := d2_len (q.2.1.getD i (0, 0)).2
    have m3 := d2_len (q.2.2.1.getD i (0, 0)).1
    have m4 := d2_len (q.2.2.1.getD i (0, 0)).2
    have hir : (0 : Int) ≤ (i : Int) ∧ (i : Int) < ((q.2.2.1.length : Nat) : Int) := by rw [l3]; exact in_cast hi
    refine if_of ?_ (if_of (in_cast hi) (bind_of (p42 (n := (q.2.1.getD i (0, 0)).1) x1 x2) (if_of ?_ (if_of ?_ (if_of (in_cast hi) (bind_of (p42 (n := (q.2.1.getD i (0, 0)).2) x3 x4) (if_of ?_ (if_of ?_ (if_of hir (bind_of (p42 (n := (q.2.2.1.getD i (0, 0)).1) y1 y2) (if_of ?_ (if_of ?_ (if_of hir (bind_of (p42 (n := (q.2.2.1.getD i (0, 0)).2) y3 y4) (if_of ?_ ?_)))))))))))))))
    all_goals first
      | (simp only [b32, b45, b46, b61, b62, bA, bB, bC, B_app, B_size, List.length_append, List.length_cons, List.length_nil]; omega)
      | skip
    rw [wrap_sm (by omega) (by omega), wq_succ, catL_snoc]
    simp only [b32, b46, b61, B_app, cwq, tw, List.append_assoc]
    rfl
  · show (bif decide ((q.2.1.length : Int) < (q.2.1.length : Int)) then _ else _) = _
    rw [decide_eq_false (by omega), cond_false]
  · show (if (0 : Nat) = 0 then _ else none) = _
    rw [if_pos rfl]
    have hA := catL_lenK (wq_all q q.2.1.length)
    rw [wq_len] at hA
    have h1 := part_len (d2_all q.1)
    have h2 := part_len (d2_all q.2.2.2)
    rw [List.length_map] at h1 h2
    show (bif eqS (B (catL (wq q q.2.1.length))) _ then _ else _) = _
    unfold qtext
    by_cases hn : wq q q.2.1.length = []
    · rw [hn]
      show (bif true then _ else _) = _
      rw [cond_true]
      refine bind_of (p55 (x := q.1) (by omega) a1) (if_of ?_ (if_of ?_ (if_of ?_ (bind_of (p55 (x := q.2.2.2) (by omega) a4) (if_of ?_ ?_)))))
      all_goals first
        | (simp only [b32, b45, b46, b61, b62, bA, bB, bC, B_app, B_size, List.length_append, List.length_cons, List.length_nil]; omega)
        | skip
      simp only [bA, bB, bC, B_app]
      rfl
    · rw [show eqS (B (catL (wq q q.2.1.length))) (ByteArray.mk #[]) = false from decide_eq_false (by rw [b0, B_list, B_list, catL_join hn]; simp), cond_false]
      have e : (32 : UInt8) :: part (wq q q.2.1.length) = catL (wq q q.2.1.length) := by unfold part; rw [if_neg hn, catL_join hn]
      rw [e]
      refine bind_of (p55 (x := q.1) (by omega) a1) (if_of ?_ (if_of ?_ (if_of ?_ (bind_of (p55 (x := q.2.2.2) (by omega) a4) (if_of ?_ ?_)))))
      all_goals first
        | (simp only [b32, b45, b46, b61, b62, bA, bB, bC, B_app, B_size, List.length_append, List.length_cons, List.length_nil]; omega)
        | skip
      simp only [bA, bB, B_app]
theorem p34 {q : Qry} (h : Sm q) : G34 q = some (B (qtext q)) := by
  obtain ⟨l1, l2, l3, l4, a1, a2, a3, a4⟩ := h
  unfold G34
  refine bind_of (tloop_iter (st := fun i => ((i : Int), (wq q i).map B)) (n := q.2.1.length) (o := .brk 0 ((q.2.1.length : Int), (wq q q.2.1.length).map B)) (fun i hi => ?_) ?_ (fun y h => by cases h)) ?_
  · show (bif decide ((i : Int) < (q.2.1.length : Int)) then _ else _) = _
    rw [lt_cast, decide_eq_true hi, cond_true]
    have m1 := tw_len ((q.2.1.getD ((i : Int)).toNat (0, 0)).1, (q.2.1.getD ((i : Int)).toNat (0, 0)).2)
    have m2 := tw_len ((q.2.2.1.getD ((i : Int)).toNat (0, 0)).1, (q.2.2.1.getD ((i : Int)).toNat (0, 0)).2)
    have hir : (0 : Int) ≤ (i : Int) ∧ (i : Int) < ((q.2.2.1.length : Nat) : Int) := by rw [l3]; exact in_cast hi
    refine if_of (in_cast hi) (bind_of (p59 (a2 i hi)) (if_of ?_ (if_of hir (bind_of (p59 (a3 i hi)) (if_of ?_ (if_of ?_ ?_))))))
    · simp only [b61, B_app, B_size, List.length_append, List.length_cons, List.length_nil]; omega
    · simp only [b61, B_app, B_size, List.length_append, List.length_cons, List.length_nil]; omega
    · show ((wq q i).map B).length + 1 ≤ _
      rw [List.length_map, wq_len]; omega
    · rw [wrap_sm (by omega) (by omega), wq_succ, List.map_append]
      simp only [b61, B_app, cwq]
      rfl
  · show (bif decide ((q.2.1.length : Int) < (q.2.1.length : Int)) then _ else _) = _
    rw [decide_eq_false (by omega), cond_false]
  · show (if (0 : Nat) = 0 then _ else none) = _
    rw [if_pos rfl]
    have hA := part_lenK (wq_all q q.2.1.length)
    rw [wq_len] at hA
    have h1 := part_len (d2_all q.1)
    have h2 := part_len (d2_all q.2.2.2)
    rw [List.length_map] at h1 h2
    refine bind_of (p60 (x := q.1) (by omega) a1) (if_of ?_ (bind_of (p61K (ws := wq q q.2.1.length) (wq_all q _) (by omega) (by rw [wq_len]; omega)) (if_of ?_ (if_of ?_ (bind_of (p60 (x := q.2.2.2) (by omega) a4) (if_of ?_ ?_))))))
    all_goals first
      | (simp only [b32, b45, b46, b61, b62, bA, bB, bC, B_app, B_size, List.length_append, List.length_cons, List.length_nil]; omega)
      | skip
    simp only [bB, B_app, qtext, List.append_assoc, List.cons_append, List.nil_append]
def qtr (c : Cat) (q : Qry) : ByteArray × Int := bif isCat c && qOK c q then (B (qtext q), 0) else (B [], 1)
theorem p12 {c : Cat} {q : Qry} (hc : okC c) (hq : okQ q) : G12 (c, q) = some (qtr c q) := by
  unfold G12 qtr
  simp only [Prod.eta, p28 hc hq, Option.bind_some]
  cases h : isCat c && qOK c q with
  | false => rfl
  | true =>
    rw [Bool.and_eq_true] at h
    have hs : Sh c := by have := h.1; unfold isCat at this; rw [Bool.and_eq_true] at this; exact sh_of this.1
    simp only [Bool.not_true, cond_false, cond_true, p29 (sm_of hs h.2), Option.bind_some]
theorem p15 {c : Cat} {q : Qry} (hc : okC c) (hq : okQ q) : G15 (c, q) = some (qtr c q) := by
  unfold G15 qtr
  simp only [Prod.eta, p33 hc hq, Option.bind_some]
  cases h : isCat c && qOK c q with
  | false => rfl
  | true =>
    rw [Bool.and_eq_true] at h
    have hs : Sh c := by have := h.1; unfold isCat at this; rw [Bool.and_eq_true] at this; exact sh_of this.1
    simp only [Bool.not_true, cond_false, cond_true, p34 (sm_of hs h.2), Option.bind_some]
theorem p4 (x : Cat × Qry) (h : okT (PT S4.ps) x) : G4 x = some true := by
  obtain ⟨c, q⟩ := x
  obtain ⟨⟨_, h1, h2, h3, h4⟩, q1, q2, q3, q4⟩ := h
  unfold G4
  simp only [Prod.eta]
  obtain ⟨r1, e1, f1⟩ := p10 (c := c) h1.1 h2.1 h3.1 h4.1 (fun y hy => (h4.2 y hy).1)
  simp only [e1, Option.bind_some]
  by_cases n1 : r1 < 0
  · simp only [n1, decide_true, cond_true]
  have hb := f1.resolve_left n1
  obtain ⟨r2, e2, f2⟩ := p11 (q := q) (b := r1) ⟨hb.1, hb.2.1⟩ q1.1 q2.1 q3.1 q4.1
  simp only [n1, decide_false, cond_false, e2, Option.bind_some]
  by_cases n2 : r2 < 0
  · simp only [n2, decide_true, cond_true]
  have hq := f2.resolve_left n2
  have hc : okC c := by first | exact hb.2.2 | exact hb
  have hq : okQ q := by first | exact hq | exact hq.2 | exact hq.2.2
  simp only [n2, decide_false, cond_false, p13 hc, p14 hq, p12 hc hq, p15 hc hq, Option.bind_some]
  generalize qtr c q = r
  have e : neS r.1 r.1 = false := by simp [neS]
  simp only [e, cond_false, decide_true, Bool.not_true, p16 hc, p17 hq, Option.bind_some]
end Go.Ve.D

