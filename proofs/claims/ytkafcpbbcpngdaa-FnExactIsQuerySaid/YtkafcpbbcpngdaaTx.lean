/- What is known of structs, tuples and slices of the small machine. -/
import Derived.Test.YtkafcpbbcpngdaaVw
namespace Go.Ve
theorem cellsV_mk {l : List V} : cellsV (mkMany l) = l := by
  unfold mkMany cellsV
  apply List.ext_getElem?
  intro i
  simp only [List.getElem?_map]
  by_cases h : i < l.length
  · simp [h]
  · simp [Nat.le_of_not_lt h]
def one1 : V → Bool
  | .many .. => false
  | .dead => false
  | v => !tOwn v
theorem all_range {p : V → Bool} {l : List V} : ((List.range l.length).all fun k => p (l.getD k .dead)) = l.all p := by
  rw [Bool.eq_iff_iff, List.all_eq_true, List.all_eq_true]
  constructor
  · intro h x hx
    obtain ⟨i, hi, rfl⟩ := List.getElem_of_mem hx
    have := h i (List.mem_range.2 hi)
    simpa [hi] using this
  · intro h i hi
    have hi := List.mem_range.1 hi
    have : l.getD i .dead ∈ l := by
      rw [List.getD_eq_getElem?_getD, List.getElem?_eq_getElem hi]
      exact List.getElem_mem hi
    exact h _ this
theorem any_range {p : V → Bool} {l : List V} : ((List.range l.length).any fun k => p (l.getD k .dead)) = l.any p := by
  rw [Bool.eq_iff_iff, List.any_eq_true, List.any_eq_true]
  constructor
  · rintro ⟨i, hi, h⟩
    have hi := List.mem_range.1 hi
    refine ⟨l.getD i .dead, ?_, h⟩
    rw [List.getD_eq_getElem?_getD, List.getElem?_eq_getElem hi]
    exact List.getElem_mem hi
  · rintro ⟨x, hx, h⟩
    obtain ⟨i, hi, rfl⟩ := List.getElem_of_mem hx
    refine ⟨i, List.mem_range.2 hi, ?_⟩
    simpa [hi] using h
theorem plainV_mk {l : List V} : plainV (mkMany l) = l.all one1 := by
  unfold mkMany
  rw [← all_range]
  rfl
theorem tOwn_mk {l : List V} : tOwn (mkMany l) = l.any tOwn := by
  unfold mkMany; rw [← any_range]; rfl
theorem lentAny_mk {l : List V} : lentAny (mkMany l) = l.any lentAny := by
  unfold mkMany; rw [← any_range]; rfl
theorem getD_map' {f : V → V} (hf : f .dead = .dead) {l : List V} {k : Nat} : (l.map f).getD k .dead = f (l.getD k .dead) := by
  simp only [List.getD_eq_getElem?_getD, List.getElem?_map]
  cases l[k]? <;> simp [hf]
theorem frz_mk {l : List V} : frz (mkMany l) = mkMany (l.map frz) := by
  unfold mkMany frz
  rw [List.length_map]
  congr 1
  funext k
  rw [getD_map' rfl]
theorem lend_mk {σ : List V} {l : List V} : lend σ (mkMany l) = mkMany (l.map (lend σ)) := by
  unfold mkMany
  show V.many false l.length (fun k => lend σ (l.getD k .dead)) = _
  rw [List.length_map]
  congr 1
  funext k
  rw [getD_map' rfl]
theorem killV_mk {id : Nat} {p : List (Nat × Nat)} {l : List V} : killV id p (mkMany l) = mkMany (l.map (killV id p)) := by
  unfold mkMany
  show V.many false l.length (fun k => killV id p (l.getD k .dead)) = _
  rw [List.length_map]
  congr 1
  funext k
  rw [getD_map' rfl]
theorem moveV_mk {id j : Nat} {p : List (Nat × Nat)} {l : List V} : moveV id p j (mkMany l) = mkMany (l.map (moveV id p j)) := by
  unfold mkMany
  show V.many false l.length (fun k => moveV id p j (l.getD k .dead)) = _
  rw [List.length_map]
  congr 1
  funext k
  rw [getD_map' rfl]
theorem rrV_mk {id j : Nat} {p : List (Nat × Nat)} {l : List V} : rrV id p j (mkMany l) = mkMany (l.map (rrV id p j)) := by
  unfold mkMany
  show V.many false l.length (fun k => rrV id p j (l.getD k .dead)) = _
  rw [List.length_map]
  congr 1
  funext k
  rw [getD_map' rfl]
def promL : List V → Nat → List V × List V
  | [], _ => ([], [])
  | v :: vs, m => ((prom v m).1 :: (promL vs (m + (prom v m).2.length)).1, (prom v m).2 ++ (promL vs (m + (prom v m).2.length)).2)
theorem promL_snoc : ∀ (l : List V) (v : V) (m : Nat), promL (l ++ [v]) m = ((promL l m).1 ++ [(prom v (m + (promL l m).2.length)).1], (promL l m).2 ++ (prom v (m + (promL l m).2.length)).2)
  | [], v, m => by simp [promL]
  | w :: l, v, m => by
    simp only [List.cons_append, promL, promL_snoc l v, List.length_append, Nat.add_assoc, List.append_assoc]
theorem promL_length : ∀ (l : List V) (m : Nat), (promL l m).1.length = l.length
  | [], _ => rfl
  | v :: l, m => by simp [promL, promL_length l]
theorem promF_take {l : List V} {m : Nat} : ∀ n, n ≤ l.length → promF (fun k => prom (l.getD k .dead)) n m = promL (l.take n) m := by
  intro n
  induction n with
  | zero => intro _; rfl
  | succ n ih =>
    intro hn
    have e : l.take (n + 1) = l.take n ++ [l.getD n .dead] := by
      rw [List.take_add_one]
      have hn' : n < l.length := by omega
      simp [hn']
    rw [e, promL_snoc]
    unfold promF
    rw [ih (by omega)]
theorem prom_mk {l : List V} {m : Nat} : prom (mkMany l) m = (mkMany (promL l m).1, (promL l m).2) := by
  unfold mkMany
  show (V.many false l.length (fun k => (promF (fun k => prom (l.getD k .dead)) l.length m).1.getD k .dead), (promF (fun k => prom (l.getD k .dead)) l.length m).2) = _
  rw [promF_take l.length (Nat.le_refl _), List.take_length, promL_length]
def tupV (l : List V) : V := .many true l.length fun k => l.getD k .dead
theorem prom_tup {l : List V} {m : Nat} : prom (tupV l) m = (tupV (promL l m).1, (promL l m).2) := by
  unfold tupV
  show (V.many true l.length (fun k => (promF (fun k => prom (l.getD k .dead)) l.length m).1.getD k .dead), (promF (fun k => prom (l.getD k .dead)) l.length m).2) = _
  rw [promF_take l.length (Nat.le_refl _), List.take_length, promL_length]
theorem promL_nil {m : Nat} : promL [] m = ([], []) := rfl
theorem promL_cons {v : V} {vs : List V} {m : Nat} : promL (v :: vs) m = ((prom v m).1 :: (promL vs (m + (prom v m).2.length)).1, (prom v m).2 ++ (promL vs (m + (prom v m).2.length)).2) := rfl
theorem frz_tup {l : List V} : frz (tupV l) = tupV (l.map frz) := by
  unfold tupV frz
  rw [List.length_map]
  congr 1
  funext k
  rw [getD_map' rfl]
theorem tOwn_tup {l : List V} : tOwn (tupV l) = l.any tOwn := by
  unfold tupV; rw [← any_range]; rfl
theorem getD_mem {l : List V} {k : Nat} (h : k < l.length) : l.getD k .dead ∈ l := by
  rw [List.getD_eq_getElem?_getD, List.getElem?_eq_getElem h]; exact List.getElem_mem h
theorem all_ownOnly {l : List V} : (∀ k, k < l.length → ownOnly (l.getD k .dead)) = ∀ v ∈ l, ownOnly v := by
  apply propext
  constructor
  · intro h v hv
    obtain ⟨i, hi, rfl⟩ := List.getElem_of_mem hv
    simpa [hi] using h i hi
  · intro h k hk
    exact h _ (getD_mem hk)
theorem ownOnly_mk {l : List V} : ownOnly (mkMany l) = ∀ v ∈ l, ownOnly v := all_ownOnly
theorem ownOnly_tup {l : List V} : ownOnly (tupV l) = ∀ v ∈ l, ownOnly v := all_ownOnly
theorem frz_objL {o : Bool} {l : List V} : frz (objL o l) = objL false (l.map frz) := by
  unfold objL frz
  rw [List.length_map]
  congr 1
  funext i k
  cases i with
  | zero => exact (getD_map' (f := frz) rfl).symm
  | succ i => rfl
theorem lend_objL {σ : List V} {o : Bool} {l : List V} : lend σ (objL o l) = objL false (l.map frz) := frz_objL
theorem tOwn_objL {o : Bool} {l : List V} : tOwn (objL o l) = o := rfl
theorem one1_objL {o : Bool} {l : List V} : one1 (objL o l) = !o := rfl
theorem tOwn_arr {α : Type} {o : Bool} {sz : Nat} {g : α → List V} {d : α} {l : List α} : tOwn (arr o sz g d l) = o := rfl
theorem prom_arr {α : Type} {o : Bool} {sz m : Nat} {g : α → List V} {d : α} {l : List α} : prom (arr o sz g d l) m = if o then (.rs m [] 0 l.length, [arr o sz g d l]) else (arr o sz g d l, []) := by cases o <;> rfl
theorem frz_arr {α : Type} {o : Bool} {sz : Nat} {g : α → List V} {d : α} {l : List α} : frz (arr o sz g d l) = arr false sz (fun a => (g a).map frz) d l := by
  unfold arr frz
  congr 1
  funext i k
  rw [getD_map' rfl]
theorem lend_arr {σ : List V} {α : Type} {o : Bool} {sz : Nat} {g : α → List V} {d : α} {l : List α} : lend σ (arr o sz g d l) = arr false sz (fun a => (g a).map frz) d l := frz_arr
def lendS (v : V) (off len : Nat) : V := match v with
  | .nd _ _ sz _ f => .nd true false sz len fun i k => frz (f (off + i) k)
  | _ => .dead
theorem lend_rs {σ : List V} {id : Nat} {p : List (Nat × Nat)} {off len : Nat} : lend σ (.rs id p off len) = lendS (sub p (σ.getD id .dead)) off len := rfl
theorem lendS_arr {α : Type} {o : Bool} {sz n : Nat} {g : α → List V} {d : α} {l : List α} (h : n = l.length) : lendS (arr o sz g d l) 0 n = arr false sz (fun a => (g a).map frz) d l := by
  subst h
  rw [← frz_arr (o := o)]
  show V.nd true false sz l.length (fun i k => frz ((g (l.getD (0 + i) d)).getD k .dead)) = _
  simp only [Nat.zero_add]
  rfl
def lendP (v : V) (i k : Nat) : V := match v with
  | .nd _ _ sz _ f => .nd false false (sz - k) 1 fun i' j => if i' = 0 then frz (f i (k + j)) else .dead
  | _ => .dead
theorem lend_rp {σ : List V} {id : Nat} {p : List (Nat × Nat)} {i k : Nat} : lend σ (.rp id p i k) = lendP (sub p (σ.getD id .dead)) i k := rfl
theorem lendP_objL {o : Bool} {l : List V} {k : Nat} : lendP (objL o l) 0 k = objL false ((l.drop k).map frz) := by
  show V.nd false false (l.length - k) 1 (fun i' j => if i' = 0 then frz (([l].getD 0 []).getD (k + j) .dead) else .dead) = _
  unfold objL
  rw [List.length_map, List.length_drop]
  congr 1
  funext i j
  cases i with
  | zero =>
    simp only [if_true, List.getD_cons_zero]
    rw [getD_map' rfl]
    simp
  | succ i => rfl
theorem sub_objL {o : Bool} {k : Nat} {p : List (Nat × Nat)} {l : List V} : sub ((0, k) :: p) (objL o l) = sub p (l.getD k .dead) := rfl
theorem sub_arr {α : Type} {o : Bool} {sz i k : Nat} {p : List (Nat × Nat)} {g : α → List V} {d : α} {l : List α} : sub ((i, k) :: p) (arr o sz g d l) = sub p ((g (l.getD i d)).getD k .dead) := rfl
end Go.Ve
