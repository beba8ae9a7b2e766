/- The texts of categories: what they compute. -/
import Derived.Test.YtcdekmccongjgaaDoorNqa
namespace Go.Ve.D
open Go Go.Ve

def B (l : List UInt8) : ByteArray := ⟨l.toArray⟩
theorem B_app (a b : List UInt8) : B a ++ B b = B (a ++ b) := by
  apply ByteArray.ext
  simp [B, ByteArray.data_append]
theorem B_size (l : List UInt8) : (B l).size = l.length := by simp [B, ByteArray.size]
theorem B_list (l : List UInt8) : (B l).data.toList = l := rfl
theorem B_map (ws : List (List UInt8)) : (ws.map B).map (·.data.toList) = ws := by
  rw [List.map_map]
  exact List.map_id'' (fun _ => rfl) ws
theorem b0 : (ByteArray.mk #[]) = B [] := rfl
theorem b32 : (ByteArray.mk #[32]) = B [32] := rfl
theorem b45 : (ByteArray.mk #[45]) = B [45] := rfl
theorem b46 : (ByteArray.mk #[46]) = B [46] := rfl
theorem b61 : (ByteArray.mk #[61]) = B [61] := rfl
theorem b62 : (ByteArray.mk #[62]) = B [62] := rfl
theorem bA : (ByteArray.mk #[32, 124]) = B [32, 124] := rfl
theorem bB : (ByteArray.mk #[32, 124, 32]) = B [32, 124, 32] := rfl
theorem bC : (ByteArray.mk #[32, 45]) = B [32, 45] := rfl
theorem if_of {α : Type} {c : Prop} [Decidable c] {a b r : α} (h : c) (h2 : a = r) : (if c then a else b) = r := by rw [if_pos h, h2]

def d2 (n : Int) : List UInt8 := if n < 10 then [UInt8.ofNat (48 + n.toNat)] else [UInt8.ofNat (48 + n.toNat / 10), UInt8.ofNat (48 + n.toNat % 10)]
theorem d2_len (n : Int) : (d2 n).length ≤ 2 := by unfold d2; split <;> simp
theorem dd {n : Nat} (h : n < 100) : Lib.decDigits n = d2 (n : Int) := by
  rw [Lib.decDigits]
  unfold d2
  by_cases h1 : n < 10
  · rw [dif_pos h1, if_pos (by omega)]; simp
  · rw [dif_neg h1, if_neg (by omega), Lib.decDigits, dif_pos (by omega)]; simp
theorem p42 {n : Int} (h0 : 0 ≤ n) (h1 : n < 100) : G42 n = some (B (d2 n)) := by
  have key : ((List.range 100).all fun k => decide (G42 (k : Int) = some (B (d2 (k : Int))))) = true := by kernel_rfl
  obtain ⟨k, rfl⟩ := Int.eq_ofNat_of_zero_le h0
  have := List.all_eq_true.1 key k (List.mem_range.2 (by omega))
  exact of_decide_eq_true this
theorem p66 {n : Int} (h0 : 0 ≤ n) (h1 : n < 100) : G66 (n, 10) = some (B (d2 n)) := by
  unfold G66
  rw [if_pos ⟨h0, h1, rfl⟩, dd (by show n.toNat < 100; omega), show ((n.toNat : Nat) : Int) = n by omega]
  rfl
theorem p49 {n : Int} (h0 : 0 ≤ n) (h1 : n < 100) : G49 (n, 10) = some (B (d2 n)) := by
  unfold G49; exact bind_of (p66 h0 h1) rfl
def catL (ws : List (List UInt8)) : List UInt8 := Lib.joinTail [32] ws
theorem catL_nil : catL [] = [] := rfl
theorem catL_snoc (ws : List (List UInt8)) (w : List UInt8) : catL (ws ++ [w]) = catL ws ++ [32] ++ w := by simp [catL, Lib.joinTail]
theorem catL_len : ∀ {ws : List (List UInt8)}, (∀ w ∈ ws, w.length ≤ 8) → (catL ws).length ≤ 9 * ws.length
  | [], _ => by simp [catL, Lib.joinTail]
  | w :: ws, h => by
    have h1 := catL_len (ws := ws) fun x hx => h x (List.mem_cons_of_mem _ hx)
    have h2 := h w (List.mem_cons_self ..)
    have : catL (w :: ws) = [32] ++ w ++ catL ws := by simp [catL, Lib.joinTail]
    rw [this]
    simp only [List.length_append, List.length_cons, List.length_nil]
    omega
theorem catL_join {ws : List (List UInt8)} (h : ws ≠ []) : catL ws = 32 :: Lib.join ws [32] := by
  cases ws with
  | nil => exact absurd rfl h
  | cons w ws => rw [Lib.join_cons]; simp [catL, Lib.joinTail]
def part (ws : List (List UInt8)) : List UInt8 := if ws = [] then [45] else Lib.join ws [32]
theorem part_len {ws : List (List UInt8)} (h : ∀ w ∈ ws, w.length ≤ 8) : (part ws).length ≤ 9 * ws.length + 1 := by
  unfold part
  split
  · simp
  · rename_i hn
    have := catL_len h
    rw [catL_join hn] at this
    simp only [List.length_cons] at this
    omega
theorem p51 {ws : List (List UInt8)} {sep : List UInt8} (h1 : ws.length ≤ 140737488355328) (h2 : (Lib.join ws sep).length ≤ 140737488355328) : G51 (ws.map B, B sep) = some (B (Lib.join ws sep)) := by
  unfold G51
  simp only [B_map, B_list, List.length_map]
  rw [if_pos ⟨h1, h2⟩]
  rfl
theorem p61 {ws : List (List UInt8)} (h : ∀ w ∈ ws, w.length ≤ 8) (hl : ws.length ≤ 1048576) : G61 (ws.map B) = some (B (part ws)) := by
  unfold G61
  rw [List.length_map]
  unfold part
  cases ws with
  | nil => rfl
  | cons w r =>
    have h2 := part_len h
    unfold part at h2
    rw [if_neg (by simp)] at h2 ⊢
    rw [show decide (((w :: r).length : Int) = 0) = false from decide_eq_false (by simp only [List.length_cons]; omega), cond_false, b32]
    exact bind_of (p51 (by omega) (by omega)) rfl

theorem take_d2 {x : List Int} {i : Nat} (hi : i < x.length) : (x.take (i + 1)).map d2 = (x.take i).map d2 ++ [d2 (x.getD i 0)] := by
  rw [List.take_succ_eq_append_getElem hi, List.map_append]
  simp [hi]
theorem d2_all (x : List Int) : ∀ w ∈ x.map d2, w.length ≤ 8 := by
  intro w hw
  obtain ⟨n, _, rfl⟩ := List.mem_map.1 hw
  have := d2_len n
  omega
theorem p60 {x : List Int} (hx : x.length ≤ 1048576) (h : ∀ i, i < x.length → 0 ≤ x.getD i 0 ∧ x.getD i 0 < 100) : G60 x = some (B (part (x.map d2))) := by
  unfold G60
  refine bind_of (tloop_iter (st := fun i => ((i : Int), ((x.take i).map d2).map B)) (n := x.length) (o := .brk 0 ((x.length : Int), ((x.take x.length).map d2).map B)) (fun i hi => ?_) ?_ (fun y h => by cases h)) ?_
  · show (bif decide ((i : Int) < (x.length : Int)) then _ else _) = _
    rw [lt_cast, decide_eq_true hi, cond_true]
    refine if_of (in_cast hi) (bind_of (p49 (h i hi).1 (h i hi).2) (if_of ?_ ?_))
    · simp only [List.length_map, List.length_take, List.length_cons, List.length_nil]; omega
    · rw [wrap_sm (by omega) (by omega), take_d2 hi, List.map_append]; rfl
  · show (bif decide ((x.length : Int) < (x.length : Int)) then _ else _) = _
    rw [decide_eq_false (by omega), cond_false]
  · show (if (0 : Nat) = 0 then _ else none) = _
    rw [if_pos rfl]
    show Option.bind (G61 (((x.take x.length).map d2).map B)) _ = _
    rw [List.take_length]
    exact bind_of (p61 (d2_all x) (by simpa using hx)) rfl
theorem drop1 {l : List UInt8} {a : UInt8} : (B (a :: l)).extract 1 (l.length + 1) = B l := by
  apply ByteArray.ext
  simp [B, ByteArray.data_extract]
theorem p55 {x : List Int} (hx : x.length ≤ 1048576) (h : ∀ i, i < x.length → 0 ≤ x.getD i 0 ∧ x.getD i 0 < 100) : G55 x = some (B (part (x.map d2))) := by
  unfold G55
  refine bind_of (tloop_iter (st := fun i => (B (catL ((x.take i).map d2)), (i : Int))) (n := x.length) (o := .brk 0 (B (catL ((x.take x.length).map d2)), (x.length : Int))) (fun i hi => ?_) ?_ (fun y h => by cases h)) ?_
  · show (bif decide ((i : Int) < (x.length : Int)) then _ else _) = _
    rw [lt_cast, decide_eq_true hi, cond_true]
    have h1 := catL_len (d2_all (x.take i))
    rw [List.length_map, List.length_take] at h1
    have h2 := d2_len (x.getD i 0)
    refine if_of ?_ (if_of (in_cast hi) (bind_of (p42 (h i hi).1 (h i hi).2) (if_of ?_ ?_)))
    · simp only [b32, B_size, List.length_cons, List.length_nil]; omega
    · simp only [b32, B_app, B_size, List.length_append, List.length_cons, List.length_nil]; show _ + (d2 (x.getD i 0)).length ≤ _; omega
    · rw [wrap_sm (by omega) (by omega), take_d2 hi, catL_snoc, b32, B_app, B_app]; rfl
  · show (bif decide ((x.length : Int) < (x.length : Int)) then _ else _) = _
    rw [decide_eq_false (by omega), cond_false]
  · show (if (0 : Nat) = 0 then _ else none) = _
    rw [if_pos rfl]
    show (bif eqS (B (catL ((x.take x.length).map d2))) _ then _ else _) = _
    rw [List.take_length]
    have h1 := catL_len (d2_all x)
    rw [List.length_map] at h1
    unfold part
    by_cases hn : x = []
    · subst hn; rfl
    · have hm : x.map d2 ≠ [] := by simpa using hn
      rw [if_neg hm, show eqS (B (catL (x.map d2))) (ByteArray.mk #[]) = false from decide_eq_false (by rw [b0, B_list, B_list, catL_join hm]; simp), cond_false]
      rw [catL_join hm] at h1 ⊢
      refine if_of ?_ ?_
      · rw [B_size]; simp only [List.length_cons] at h1 ⊢; omega
      · rw [B_size]
        show some ((B (32 :: Lib.join (x.map d2) [32])).extract 1 ((((Lib.join (x.map d2) [32]).length + 1 : Nat) : Int).toNat)) = _
        rw [Int.toNat_natCast, drop1]

end Go.Ve.D

