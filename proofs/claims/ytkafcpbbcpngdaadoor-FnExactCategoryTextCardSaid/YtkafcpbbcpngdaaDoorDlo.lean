/- The two texts of a category. -/
import Derived.Test.YtkafcpbbcpngdaaDoorDln
namespace Go.Ve.D
open Go Go.Ve

def aw (c : Cat) (f : Nat) : List UInt8 := d2 (c.2.1.getD f 0) ++ [62] ++ d2 (c.2.2.1.getD f 0)
def arrW (c : Cat) (n : Nat) : List (List UInt8) := (List.range n).map (aw c)
def unit (c : Cat) (f : Nat) : Bool := decide (c.2.2.2.1.getD (c.2.1.getD f 0).toNat 0 = (f : Int))
def cd (c : Cat) (f g : Nat) : Bool := (mt c f g && !unit c f) && !unit c g
def cwd (c : Cat) (f g : Nat) : List UInt8 := d2 (f : Int) ++ [46] ++ d2 (g : Int) ++ [61] ++ d2 (T c f g)
def cw (c : Cat) (f g : Nat) : List (List UInt8) := ((List.range g).filter (cd c f)).map (cwd c f)
def compW (c : Cat) (n : Nat) : List (List UInt8) := (List.range n).flatMap fun f => cw c f c.2.1.length

theorem arrW_succ (c : Cat) (f : Nat) : arrW c (f + 1) = arrW c f ++ [aw c f] := by simp [arrW, List.range_succ]
theorem compW_succ (c : Cat) (f : Nat) : compW c (f + 1) = compW c f ++ cw c f c.2.1.length := by simp [compW, List.range_succ]
theorem cw_succ (c : Cat) (f g : Nat) : cw c f (g + 1) = cw c f g ++ (if cd c f g then [cwd c f g] else []) := by
  unfold cw
  rw [List.range_succ, List.filter_append, List.map_append]
  cases h : cd c f g <;> simp [h]
theorem aw_len (c : Cat) (f : Nat) : (aw c f).length ≤ 8 := by
  have h1 := d2_len (c.2.1.getD f 0)
  have h2 := d2_len (c.2.2.1.getD f 0)
  unfold aw
  simp only [List.length_append, List.length_cons, List.length_nil]
  omega
theorem cwd_len (c : Cat) (f g : Nat) : (cwd c f g).length ≤ 8 := by
  have h1 := d2_len (f : Int)
  have h2 := d2_len (g : Int)
  have h3 := d2_len (T c f g)
  unfold cwd
  simp only [List.length_append, List.length_cons, List.length_nil]
  omega
theorem arrW_all (c : Cat) (n : Nat) : ∀ w ∈ arrW c n, w.length ≤ 8 := by
  intro w hw
  obtain ⟨f, _, rfl⟩ := List.mem_map.1 hw
  exact aw_len c f
theorem cw_all (c : Cat) (f g : Nat) : ∀ w ∈ cw c f g, w.length ≤ 8 := by
  intro w hw
  obtain ⟨k, _, rfl⟩ := List.mem_map.1 hw
  exact cwd_len c f k
theorem compW_all (c : Cat) (n : Nat) : ∀ w ∈ compW c n, w.length ≤ 8 := by
  intro w hw
  obtain ⟨f, _, h⟩ := List.mem_flatMap.1 hw
  exact cw_all c f _ w h
theorem both_all (c : Cat) (f g : Nat) : ∀ w ∈ compW c f ++ cw c f g, w.length ≤ 8 := fun w hw => (List.mem_append.1 hw).elim (compW_all c f w) (cw_all c f g w)
theorem arrW_len (c : Cat) (n : Nat) : (arrW c n).length = n := by simp [arrW]
theorem cw_num (c : Cat) (f g : Nat) : (cw c f g).length ≤ g := by
  unfold cw
  rw [List.length_map]
  exact Nat.le_trans (List.length_filter_le _ _) (by simp)
theorem compW_num (c : Cat) : ∀ f : Nat, (compW c f).length ≤ f * c.2.1.length
  | 0 => by simp [compW]
  | f + 1 => by
    rw [compW_succ, List.length_append, Nat.add_mul, Nat.one_mul]
    exact Nat.add_le_add (compW_num c f) (cw_num c f _)
theorem both_num {c : Cat} (hn : c.2.1.length ≤ 40) {f g : Nat} (hf : f ≤ 40) (hg : g ≤ 40) : (compW c f ++ cw c f g).length ≤ 1640 := by
  have h1 := compW_num c f
  have h2 := cw_num c f g
  have h3 : f * c.2.1.length ≤ 40 * 40 := Nat.mul_le_mul hf hn
  rw [List.length_append]
  omega
theorem both_len {c : Cat} (hn : c.2.1.length ≤ 40) {f g : Nat} (hf : f ≤ 40) (hg : g ≤ 40) : (catL (compW c f ++ cw c f g)).length ≤ 20000 := by
  have h1 := both_num hn hf hg
  have h2 := catL_len (both_all c f g)
  omega
theorem comp_len {c : Cat} (hn : c.2.1.length ≤ 40) {f : Nat} (hf : f ≤ 40) : (catL (compW c f)).length ≤ 20000 := by
  have := both_len hn hf (Nat.zero_le 40)
  rwa [show cw c f 0 = [] from rfl, List.append_nil] at this
theorem arr_len {c : Cat} {f : Nat} (hf : f ≤ 40) : (catL (arrW c f)).length ≤ 20000 := by
  have h2 := catL_len (arrW_all c f)
  rw [arrW_len] at h2
  omega

theorem tloop_iter' {X R : Type} {f : X → Option (LO X R)} {st : Nat → X} {x : X} (hx : st 0 = x) {n : Nat} {o : LO X R} (h1 : ∀ i, i < n → f (st i) = some (.next (st (i + 1)))) (h2 : f (st n) = some o) (ho : ∀ y, o ≠ .next y) : tloop f x = some o := hx ▸ tloop_iter h1 h2 ho
def ctext (c : Cat) : List UInt8 := d2 c.1 ++ [32, 124] ++ (32 :: part (arrW c c.2.1.length)) ++ [32, 124, 32] ++ part (c.2.2.2.1.map d2) ++ [32, 124] ++ (32 :: part (compW c c.2.1.length))

theorem p62 {c : Cat} (hs : Sh c) {f : Nat} (hf : f < c.2.1.length) : G62 (c, (f : Int)) = some (unit c f) := by
  have h1 := hs.fr f hf
  have hl : c.2.2.2.1.length = c.1 := hs.hd.2.2.2.2.2.2.1
  exact if_of (in_cast hf) (if_of ⟨h1.1, by rw [hl]; exact h1.2⟩ rfl)
theorem p67 {c : Cat} (hs : Sh c) {f : Nat} (hf : f < c.2.1.length) : G67 (c, (f : Int)) = some (unit c f) := by
  have h1 := hs.fr f hf
  have hl : c.2.2.2.1.length = c.1 := hs.hd.2.2.2.2.2.2.1
  exact if_of (in_cast hf) (if_of ⟨h1.1, by rw [hl]; exact h1.2⟩ rfl)
theorem guardB (b : Bool) (o : Option Bool) (u : Bool) (h : o = some u) : (bif b then Option.bind o (fun v => some (!v)) else some false) = some (b && !u) := by
  subst h; cases b <;> rfl

theorem fin46 {n : Int} {ids : List Int} {A K : List UInt8} (hn : 0 ≤ n ∧ n < 100) (hl : ids.length ≤ 1000) (hi : ∀ i, i < ids.length → 0 ≤ ids.getD i 0 ∧ ids.getD i 0 < 100) (hA : A.length ≤ 20000) (hK : K.length ≤ 20000) :
    (Option.bind (G51 n) (fun (v1 : ByteArray) => (if ((v1.size + (ByteArray.mk #[32, 124]).size) ≤ 9223372036854775807) then (if (((v1 ++ (ByteArray.mk #[32, 124])).size + (B A).size) ≤ 9223372036854775807) then (if ((((v1 ++ (ByteArray.mk #[32, 124])) ++ (B A)).size + (ByteArray.mk #[32, 124, 32]).size) ≤ 9223372036854775807) then (Option.bind (G63 ids) (fun (v2 : ByteArray) => (if (((((v1 ++ (ByteArray.mk #[32, 124])) ++ (B A)) ++ (ByteArray.mk #[32, 124, 32])).size + v2.size) ≤ 9223372036854775807) then (if ((((((v1 ++ (ByteArray.mk #[32, 124])) ++ (B A)) ++ (ByteArray.mk #[32, 124, 32])) ++ v2).size + (ByteArray.mk #[32, 124]).size) ≤ 9223372036854775807) then (if (((((((v1 ++ (ByteArray.mk #[32, 124])) ++ (B A)) ++ (ByteArray.mk #[32, 124, 32])) ++ v2) ++ (ByteArray.mk #[32, 124])).size + (B K).size) ≤ 9223372036854775807) then (some ((((((v1 ++ (ByteArray.mk #[32, 124])) ++ (B A)) ++ (ByteArray.mk #[32, 124, 32])) ++ v2) ++ (ByteArray.mk #[32, 124])) ++ (B K))) else none) else none) else none))) else none) else none) else none))) = some (B (d2 n ++ [32, 124] ++ A ++ [32, 124, 32] ++ part (ids.map d2) ++ [32, 124] ++ K)) := by
  have h1 := d2_len n
  have h2 := part_len (d2_all ids)
  rw [List.length_map] at h2
  refine bind_of (p51 hn.1 hn.2) (if_of (by simp only [b32, b45, b46, b61, b62, bA, bB, bC, B_app, B_size, List.length_append, List.length_cons, List.length_nil]; omega) (if_of (by simp only [b32, b45, b46, b61, b62, bA, bB, bC, B_app, B_size, List.length_append, List.length_cons, List.length_nil]; omega) (if_of (by simp only [b32, b45, b46, b61, b62, bA, bB, bC, B_app, B_size, List.length_append, List.length_cons, List.length_nil]; omega) (bind_of (p63 (by omega) hi) (if_of (by simp only [b32, b45, b46, b61, b62, bA, bB, bC, B_app, B_size, List.length_append, List.length_cons, List.length_nil]; omega) (if_of (by simp only [b32, b45, b46, b61, b62, bA, bB, bC, B_app, B_size, List.length_append, List.length_cons, List.length_nil]; omega) (if_of (by simp only [b32, b45, b46, b61, b62, bA, bB, bC, B_app, B_size, List.length_append, List.length_cons, List.length_nil]; omega) ?_)))))))
  simp only [bA, bB, B_app]

theorem p46 {c : Cat} (hs : Sh c) : G46 c = some (B (ctext c)) := by
  obtain ⟨⟨hc0, hc8⟩, hn, hto, _, _, hcl, hil, _⟩ := hs.hd
  have hid : ∀ i, i < c.2.2.2.1.length → 0 ≤ c.2.2.2.1.getD i 0 ∧ c.2.2.2.1.getD i 0 < 100 := fun i hi => by
    have := hs.id (i : Int) (by omega) (by omega)
    rw [Int.toNat_natCast] at this
    omega
  unfold G46
  refine bind_of (tloop_iter (st := fun i => (B (catL (arrW c i)), (B (catL (compW c i)), (i : Int)))) (n := c.2.1.length) (o := .brk 0 (B (catL (arrW c c.2.1.length)), (B (catL (compW c c.2.1.length)), (c.2.1.length : Int)))) (fun f hf => ?_) ?_ (fun y h => by cases h)) ?_
  · show (bif decide ((f : Int) < (c.2.1.length : Int)) then _ else _) = _
    rw [lt_cast, decide_eq_true hf, cond_true]
    have hA := arr_len (c := c) (f := f) (by omega)
    have hfr := hs.fr f hf
    have hft := hs.to f hf
    have l1 := d2_len (c.2.1.getD f 0)
    have l2 := d2_len (c.2.2.1.getD f 0)
    refine if_of ?_ (if_of (in_cast hf) (bind_of (v := B (d2 (c.2.1.getD f 0))) (p51 (n := c.2.1.getD f 0) hfr.1 (by omega)) (if_of ?_ (if_of ?_ (if_of (by rw [hto]; exact in_cast hf) (bind_of (v := B (d2 (c.2.2.1.getD f 0))) (p51 (n := c.2.2.1.getD f 0) hft.1 (by omega)) (if_of ?_
      (bind_of (tloop_iter' (by rw [show cw c f 0 = [] from rfl, List.append_nil]; rfl) (st := fun g => (B (catL (compW c f ++ cw c f g)), (g : Int))) (n := c.2.1.length) (o := .brk 2 (B (catL (compW c f ++ cw c f c.2.1.length)), (c.2.1.length : Int))) (fun g hg => ?_) ?_ (fun y h => by cases h)) ?_))))))))
    · simp only [b32, B_size, List.length_cons, List.length_nil]; omega
    · simp only [b32, B_app, B_size, List.length_append, List.length_cons, List.length_nil]; omega
    · simp only [b32, b62, B_app, B_size, List.length_append, List.length_cons, List.length_nil]; omega
    · simp only [b32, b62, B_app, B_size, List.length_append, List.length_cons, List.length_nil]; omega
    · show (bif decide ((g : Int) < (c.2.1.length : Int)) then _ else _) = _
      rw [lt_cast, decide_eq_true hg, cond_true]
      refine if_of (by rw [hto]; exact in_cast hf) (if_of (in_cast hg) (bind_of (guardB (mt c f g) _ _ (p62 hs hf)) (bind_of (guardB (mt c f g && !unit c f) _ _ (p62 hs hg)) ?_)))
      show (bif cd c f g then _ else _) = _
      cases hcd : cd c f g with
      | false =>
        rw [cond_false, wrap_sm (by omega) (by omega), cw_succ, hcd]
        simp only [Bool.false_eq_true, if_false, List.append_nil]
        rfl
      | true =>
        rw [cond_true]
        have hm : mt c f g = true := by
          unfold cd at hcd
          simp only [Bool.and_eq_true] at hcd
          exact hcd.1.1
        have hp := hs.pos f g hf hg hm
        have hK := both_len hn (c := c) (f := f) (g := g) (by omega) (by omega)
        have m1 := d2_len (f : Int)
        have m2 := d2_len (g : Int)
        have m3 := d2_len (T c f g)
        refine if_of ?_ (bind_of (v := B (d2 (f : Int))) (p51 (n := (f : Int)) (by omega) (by omega)) (if_of ?_ (if_of ?_ (bind_of (v := B (d2 (g : Int))) (p51 (n := (g : Int)) (by omega) (by omega)) (if_of ?_ (if_of ?_ (if_of ?_ (if_of ?_ (bind_of (v := B (d2 (T c f g))) (p51 (n := T c f g) hp.1 (by omega)) (if_of ?_ ?_))))))))))
        · simp only [b32, B_size, List.length_cons, List.length_nil]; omega
        · simp only [b32, B_app, B_size, List.length_append, List.length_cons, List.length_nil]; omega
        · simp only [b32, b46, B_app, B_size, List.length_append, List.length_cons, List.length_nil]; omega
        · simp only [b32, b46, B_app, B_size, List.length_append, List.length_cons, List.length_nil]; omega
        · simp only [b32, b46, b61, B_app, B_size, List.length_append, List.length_cons, List.length_nil]; omega
        · rw [hcl]; exact in_cast hf
        · show (0 : Int) ≤ (g : Int) ∧ (g : Int) < (((c.2.2.2.2.getD f []).length : Nat) : Int)
          rw [hs.row f hf]; exact in_cast hg
        · simp only [b32, b46, b61, B_app, B_size, List.length_append, List.length_cons, List.length_nil]; omega
        · rw [wrap_sm (by omega) (by omega), cw_succ, hcd, if_pos rfl, ← List.append_assoc, catL_snoc]
          simp only [b32, b46, b61, B_app, cwd, List.append_assoc]
          rfl
    · show (bif decide ((c.2.1.length : Int) < (c.2.1.length : Int)) then _ else _) = _
      rw [decide_eq_false (by omega), cond_false]
    · show (if (2 : Nat) = 2 then _ else none) = _
      rw [if_pos rfl]
      show some (LO.next (_, (_, IntKind.wrap .i64 ((f : Int) + 1)))) = _
      rw [wrap_sm (by omega) (by omega), arrW_succ, catL_snoc, compW_succ]
      simp only [b32, b62, B_app, aw, List.append_assoc]
      rfl
  · show (bif decide ((c.2.1.length : Int) < (c.2.1.length : Int)) then _ else _) = _
    rw [decide_eq_false (by omega), cond_false]
  · show (if (0 : Nat) = 0 then _ else none) = _
    rw [if_pos rfl]
    have hA := arr_len (c := c) (f := c.2.1.length) (by omega)
    have hK := comp_len hn (c := c) (f := c.2.1.length) (by omega)
    have hE : ∀ ws : List (List UInt8), ws = [] → (32 :: part ws) = [32, 45] := fun ws h => by subst h; rfl
    have hF : ∀ ws : List (List UInt8), ws ≠ [] → (32 :: part ws) = catL ws := fun ws h => by rw [catL_join h, part, if_neg h]
    have hT : ∀ ws : List (List UInt8), ws = [] → eqS (B (catL ws)) (ByteArray.mk #[]) = true := fun ws h => by subst h; rfl
    have hG : ∀ ws : List (List UInt8), ws ≠ [] → eqS (B (catL ws)) (ByteArray.mk #[]) = false := fun ws h => decide_eq_false (by rw [b0, B_list, B_list, catL_join h]; simp)
    unfold ctext
    by_cases e1 : arrW c c.2.1.length = []
    · show (bif eqS (B (catL (arrW c c.2.1.length))) (ByteArray.mk #[]) then _ else _) = _
      rw [hT _ e1, cond_true, hE _ e1]
      by_cases e2 : compW c c.2.1.length = []
      · show (bif eqS (B (catL (compW c c.2.1.length))) (ByteArray.mk #[]) then _ else _) = _
        rw [hT _ e2, cond_true, hE _ e2]
        exact fin46 (A := [32, 45]) (K := [32, 45]) ⟨hc0, by omega⟩ (by omega) hid (by simp) (by simp)
      · show (bif eqS (B (catL (compW c c.2.1.length))) (ByteArray.mk #[]) then _ else _) = _
        rw [hG _ e2, cond_false, hF _ e2]
        exact fin46 (A := [32, 45]) ⟨hc0, by omega⟩ (by omega) hid (by simp) hK
    · show (bif eqS (B (catL (arrW c c.2.1.length))) (ByteArray.mk #[]) then _ else _) = _
      rw [hG _ e1, cond_false, hF _ e1]
      by_cases e2 : compW c c.2.1.length = []
      · show (bif eqS (B (catL (compW c c.2.1.length))) (ByteArray.mk #[]) then _ else _) = _
        rw [hT _ e2, cond_true, hE _ e2]
        exact fin46 (K := [32, 45]) ⟨hc0, by omega⟩ (by omega) hid hA (by simp)
      · show (bif eqS (B (catL (compW c c.2.1.length))) (ByteArray.mk #[]) then _ else _) = _
        rw [hG _ e2, cond_false, hF _ e2]
        exact fin46 ⟨hc0, by omega⟩ (by omega) hid hA hK
end Go.Ve.D

