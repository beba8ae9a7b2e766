/- Equality of bools, of structs and arrays of scalars. -/
import Derived.Test.YtkafcpbbcpngdaaTz
import Derived.ChangeKeysEq
namespace Go.Ve
open Go

/-- what a scalar type is -/
def knd (P : Program) (t : TypeId) : Option Nat := match P.underlying t with
  | some (.int _) => some 0
  | some .bool => some 1
  | some .string => some 2
  | _ => none
/-- The scalar parts of a type that '==' compares. -/
def eqTy (P : Program) (t : TypeId) : Option (List Nat) := match P.underlying t with
  | some .bool => some [9]
  | some (.struct fs) => if fs.toList.all (fun f => f.name != "_") && !P.stoodInHeld t && !P.eqGuardType P.depth t && decide (fs.toList.map (·.offset) = List.range fs.toList.length) then fs.toList.mapM (fun f => knd P f.type) else none
  | some (.array n e) => if P.cellsOf e == 1 && !P.eqGuardType P.depth t then (match knd P e with
      | some k => some (List.replicate n k)
      | none => none) else none
  | _ => none
def kOf : Value → Option Nat
  | .int _ _ => some 0
  | .bool _ => some 1
  | .string _ => some 2
  | _ => none
def sameK : Value → Value → Bool
  | .int k _, .int k' _ => decide (k = k')
  | _, _ => true
def vEq : Value → Value → Bool
  | .int _ a, .int _ b => decide (a = b)
  | .bool a, .bool b => a == b
  | .string a, .string b => decide (a.data.toList = b.data.toList)
  | _, _ => false
theorem knd_plain {P : Program} {e : TypeId} {k : Nat} (h : knd P e = some k) : P.plainKey e = true := by
  unfold knd at h
  unfold Program.plainKey
  split at h <;> first | (rename_i hu; simp [hu]; done) | cases h
theorem eq_cell {P : Program} (w : World) {e : TypeId} {k d : Nat} {a b : Value} (hk : knd P e = some k) (ha : kOf a = some k) (hb : kOf b = some k) (hs : sameK a b = true) : (Op.equalIn (d + 1) e a b).run P w = .ok (vEq a b) w := by
  unfold knd at hk
  split at hk
  · rename_i q hu
    cases hk
    cases a <;> try (cases ha; done)
    cases b <;> try (cases hb; done)
    rename_i k1 x k2 y
    have hkk : k1 = k2 := by simpa [sameK] using hs
    subst hkk
    simp [Op.equalIn, run_underlying hu, vEq]
    rfl
  · rename_i hu
    cases hk
    cases a <;> try (cases ha; done)
    cases b <;> try (cases hb; done)
    simp [Op.equalIn, run_underlying hu, vEq]
  · rename_i hu
    cases hk
    cases a <;> try (cases ha; done)
    cases b <;> try (cases hb; done)
    rename_i x y
    have e : (x == y) = decide (x.data.toList = y.data.toList) := by
      rw [beq_toListBytes, ByteArray.toList_eq, ByteArray.toList_eq]
      rw [Bool.eq_iff_iff]; simp
    simp [Op.equalIn, run_underlying hu, vEq, e]
  · cases hk

/-- two lists of scalars -/
def vEqL : List Value → List Value → Bool
  | a :: l, b :: m => vEq a b && vEqL l m
  | _, _ => true
def okL : List Nat → List Value → List Value → Bool
  | k :: ks, a :: l, b :: m => (kOf a == some k) && (kOf b == some k) && sameK a b && okL ks l m
  | [], [], [] => true
  | _, _, _ => false
theorem eqItems_v {P : Program} (w : World) {e : TypeId} {k d : Nat} (hk : knd P e = some k) (xs ys : Array Value) : ∀ (n off : Nat) (l m : List Value), xs.toList.drop off = l → ys.toList.drop off = m → okL (List.replicate n k) l m = true →
    (Op.eqItems (d + 1) e 1 xs ys (List.range' off n)).run P w = .ok (vEqL l m) w
  | 0, off, l, m, _, _, h => by
    cases l <;> cases m <;> first | (cases h; done) | rfl
  | n + 1, off, l, m, hl, hm, h => by
    cases l with
    | nil => cases m <;> cases h
    | cons a l =>
    cases m with
    | nil => cases h
    | cons b m =>
    have h : ((kOf a == some k) && (kOf b == some k) && sameK a b && okL (List.replicate n k) l m) = true := h
    simp only [Bool.and_eq_true, beq_iff_eq] at h
    obtain ⟨⟨⟨h1, h2⟩, h3⟩, h4⟩ := h
    have ga : xs[off]? = some a := by
      have := congrArg (·[0]?) hl
      simpa using this
    have gb : ys[off]? = some b := by
      have := congrArg (·[0]?) hm
      simpa using this
    have ta : xs.toList.drop (off + 1) = l := by
      have := congrArg (List.drop 1) hl
      simpa [List.drop_drop, Nat.add_comm] using this
    have tb : ys.toList.drop (off + 1) = m := by
      have := congrArg (List.drop 1) hm
      simpa [List.drop_drop, Nat.add_comm] using this
    have ih := eqItems_v w (d := d) hk xs ys n (off + 1) l m ta tb h4
    rw [List.range'_succ]
    simp only [Op.eqItems, Sem.run_bind, Nat.mul_one, run_part_plain w (knd_plain hk) ga, run_part_plain w (knd_plain hk) gb, Result.andThen_ok, eq_cell w hk h1 h2 h3]
    cases hv : vEq a b with
    | false => simp [vEqL, hv]
    | true => simpa [vEqL, hv] using ih
theorem eqFields_v {P : Program} (w : World) {d : Nat} (xs ys : Array Value) : ∀ (fs : List Field) (ks : List Nat) (off : Nat) (l m : List Value), fs.all (fun f => f.name != "_") = true → fs.map (·.offset) = List.range' off fs.length → fs.mapM (fun f => knd P f.type) = some ks →
    xs.toList.drop off = l → ys.toList.drop off = m → okL ks l m = true → (Op.eqFields (d + 1) xs ys fs).run P w = .ok (vEqL l m) w
  | [], ks, off, l, m, _, _, hk, _, _, h => by
    simp at hk
    subst hk
    cases l <;> cases m <;> first | (cases h; done) | rfl
  | f :: fs, ks, off, l, m, hn, ho, hk, hl, hm, h => by
    rw [List.mapM_cons] at hk
    simp only [bind, Option.bind_eq_some_iff, pure, Option.some.injEq] at hk
    obtain ⟨k, hk1, ks', hk2, rfl⟩ := hk
    cases l with
    | nil => cases m <;> cases h
    | cons a l =>
    cases m with
    | nil => cases h
    | cons b m =>
    have h : ((kOf a == some k) && (kOf b == some k) && sameK a b && okL ks' l m) = true := h
    simp only [Bool.and_eq_true, beq_iff_eq] at h
    obtain ⟨⟨⟨h1, h2⟩, h3⟩, h4⟩ := h
    rw [List.all_cons, Bool.and_eq_true] at hn
    rw [List.map_cons, List.length_cons, List.range'_succ, List.cons.injEq] at ho
    have ga : xs[off]? = some a := by
      have := congrArg (·[0]?) hl
      simpa using this
    have gb : ys[off]? = some b := by
      have := congrArg (·[0]?) hm
      simpa using this
    have ta : xs.toList.drop (off + 1) = l := by
      have := congrArg (List.drop 1) hl
      simpa [List.drop_drop, Nat.add_comm] using this
    have tb : ys.toList.drop (off + 1) = m := by
      have := congrArg (List.drop 1) hm
      simpa [List.drop_drop, Nat.add_comm] using this
    have ih := eqFields_v w (d := d) xs ys fs ks' (off + 1) l m hn.2 ho.2 hk2 ta tb h4
    have hne : f.name ≠ "_" := by simpa using hn.1
    simp only [Op.eqFields, hne, ne_eq, not_false_eq_true, if_true, Sem.run_bind, ho.1, run_part_plain w (knd_plain hk1) ga, run_part_plain w (knd_plain hk1) gb, Result.andThen_ok, eq_cell w hk1 h1 h2 h3]
    cases hv : vEq a b with
    | false => simp [vEqL, hv]
    | true => simpa [vEqL, hv] using ih

theorem equal_agg {P : Program} (w : World) {t : TypeId} {ks : List Nat} {xs ys : Array Value} (h : eqTy P t = some ks) (hn : ks ≠ [9]) (hx : okL ks xs.toList ys.toList = true) :
    (Op.equal t (.agg xs) (.agg ys)).run P w = .ok (vEqL xs.toList ys.toList) w ∧ P.eqGuardType P.depth t = false := by
  unfold eqTy at h
  split at h
  · cases h; exact absurd rfl hn
  · rename_i fs hu
    split at h
    case isFalse => cases h
    rename_i hc
    simp only [Bool.and_eq_true, Bool.not_eq_true', decide_eq_true_eq] at hc
    obtain ⟨⟨⟨h1, h2⟩, h3⟩, h4⟩ := hc
    refine ⟨?_, h3⟩
    have ef : P.fieldsOf t = fs := by unfold Program.fieldsOf; rw [hu]
    show (Op.equalIn (9998 + 1 + 1) t (.agg xs) (.agg ys)).run P w = _
    rw [run_equalIn_struct w _ t xs ys (by rw [ef]; exact hu) h2, ef]
    exact eqFields_v w xs ys fs.toList ks 0 _ _ h1 (by rw [h4, List.range_eq_range']) h rfl rfl hx
  · rename_i n e hu
    split at h
    case isFalse => cases h
    rename_i hc
    simp only [Bool.and_eq_true, Bool.not_eq_true', beq_iff_eq] at hc
    split at h
    case h_2 => cases h
    rename_i k hk
    cases h
    refine ⟨?_, hc.2⟩
    obtain ⟨i, hi⟩ : ∃ i, P.info? e = some i := by
      unfold knd at hk
      split at hk
      · rename_i he; exact info_of_underlying he
      · rename_i he; exact info_of_underlying he
      · rename_i he; exact info_of_underlying he
      · cases hk
    show (Op.equalIn (9998 + 1 + 1) t (.agg xs) (.agg ys)).run P w = _
    rw [run_equalIn_array w _ xs ys hu hi, hc.1, List.range_eq_range']
    exact eqItems_v w hk xs ys n 0 _ _ rfl rfl hx
  · cases h
theorem knd_le {P : Program} {t : TypeId} {k : Nat} (h : knd P t = some k) : k ≠ 9 := by
  unfold knd at h
  split at h <;> cases h <;> simp
theorem mapM_head {α : Type} {f : α → Option Nat} {l : List α} {k : Nat} {m : List Nat} (h : l.mapM f = some (k :: m)) : ∃ x, f x = some k := by
  cases l with
  | nil => simp at h
  | cons x l =>
    rw [List.mapM_cons] at h
    simp only [bind, Option.bind_eq_some_iff, pure, Option.some.injEq, List.cons.injEq] at h
    obtain ⟨y, h1, z, h2, rfl, rfl⟩ := h
    exact ⟨x, h1⟩
theorem equal_bool {P : Program} (w : World) {t : TypeId} {a b : Bool} (h : eqTy P t = some [9]) : (Op.equal t (.bool a) (.bool b)).run P w = .ok (a == b) w := by
  unfold eqTy at h
  split at h
  · rename_i hu
    have gen : ∀ d, (Op.equalIn (d + 1) t (.bool a) (.bool b)).run P w = .ok (a == b) w := fun d => by simp [Op.equalIn, run_underlying hu]
    exact gen 9999
  · split at h
    · obtain ⟨x, hx⟩ := mapM_head h
      exact absurd rfl (knd_le hx)
    · cases h
  · split at h
    · split at h
      · rename_i k hk
        have h := Option.some.inj h
        have key : ∀ n, List.replicate n k = [9] → False := fun n e => by
          have : 9 ∈ List.replicate n k := by rw [e]; simp
          rw [List.mem_replicate] at this
          exact absurd this.2.symm (knd_le hk)
        exact (key _ h).elim
      · cases h
    · cases h
  · cases h
end Go.Ve
