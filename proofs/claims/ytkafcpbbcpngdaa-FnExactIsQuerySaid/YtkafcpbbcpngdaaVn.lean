/- The small machine's steps: an operation, by its kind. -/
import Derived.Test.YtkafcpbbcpngdaaVm
namespace Go.Ve
open RowKit (Below)

def constV (v : Value) : V :=
  match v with
  | .agg cs => if cs.toList.all (·.oneCell') = true then mkMany (cs.toList.map .c) else .dead
  | v => if v.oneCell' = true then .c v else .dead

/-- The state: what the temporaries hold, the owned trees. -/
structure Ms where
  t : Nat → V
  σ : List V

def Ms.ev (S : Ms) : Operand → V
  | .tmp t => S.t t
  | .const v => constV v
  | .global g => .c (.pointer (some ⟨g, 0, none⟩))
  | .func f => .c (.func (.func f) #[] #[])

def upd1 (t : Nat → V) (d : Nat) (v : V) : Nat → V := fun i => if i = d then v else t i

/-- What a walk is told: how many temporaries there are; 'fz': the slots whose values are only read from now on; 'keep': so many trees stay in the list, even if they are gone. -/
structure Hint where
  n : Nat
  fz : List Nat
  keep : Nat

/-- The state behind a value. -/
def Ms.res (S : Ms) (h : Hint) (d : Option Nat) (r : V) : Ms :=
  match d with
  | some d => if d < h.n then (if h.fz.contains d then ⟨upd1 S.t d (frz r), S.σ⟩ else ⟨upd1 S.t d (prom r S.σ.length).1, S.σ ++ (prom r S.σ.length).2⟩) else S
  | none => S

def ResK (h : Hint) (d : Option Nat) (S : Ms) (K : Ms → Prop) (r : V) : Prop := K (S.res h d r)

def lenOK (l : LenI) (v : V) : Bool :=
  match l, v with
  | .string, .c (.string _) => true
  | .slice, .c (.string _) => false
  | .slice, _ => true
  | _, _ => false

def qMinMax (b : Builtin) (x y : V) (K : V → Prop) : Prop :=
  match b, x, y with
  | .min, .c (.int k x), .c (.int _ y) => K (.c (.int k (if y < x then y else x)))
  | .max, .c (.int k x), .c (.int _ y) => K (.c (.int k (if x < y then y else x)))
  | _, _, _ => False

def qBuiltin (P : Program) (b : Builtin) (args : List V) (ats : List TypeId) (K : V → Prop) : Prop :=
  match b, args, ats with
  | .len, [x], [t] => lenOK (lenI P t) x = true ∧ qLen x K
  | .min, [x, y], _ => qMinMax .min x y K
  | .max, [x, y], _ => qMinMax .max x y K
  | _, _, _ => False

def qop0 (P : Program) (σ : List V) (ev : Operand → V) (op : Op) (K : V → Prop) : Prop :=
  match op with
  | .move x => qMove (ev x) K
  | .assign x => qMove (ev x) K
  | .pick c x y => qPick (ev c) (ev x) (ev y) K
  | .load t x => qLoad (tyI P t) σ (ev x) K
  | .fieldAddr t x k => qField (fldI P t k) σ (ev x) K
  | .indexAddr t x i => qIndexAddr (slI P t) σ (ev x) (ev i) K
  | .index t x i => slK P t = .string ∧ qIndex (ev x) (ev i) K
  | .nilCheck x => qNil (ev x) K
  | .binOp op t x y _ => qBin P op t x y (ev x) (ev y) K
  | .unOp op _ x => qUn op (ev x) K
  | .convert s d x => qConv P s d (ev x) K
  | .extract x i => qExtract (ev x) i K
  | .build t ps => qBuild (bldI P t) (ps.toList.map fun p => (p.1, ev p.2)) K
  | .buildSlice t n ps => qBuildSlice (slI P t) (rowT P t) n (ps.toList.map fun p => (p.1, ev p.2)) K
  | .alloc t => qAlloc (tyI P t) K
  | .box _ x => qBox (ev x) K
  | .makeSlice t l c => qMake (slI P t) (rowT P t) (ev l) (ev c) K
  | .slice t x lo hi mx => mx = none ∧ qSlice (slK P t) σ (ev x) (lo.map ev) (hi.map ev) K
  | .call c => match c.callee with
    | .value (.func f) => Call P f ((c.args.toList.map ev).any lentAny) ((c.args.toList.map ev).map (lend σ)) K
    | .builtin b => qBuiltin P b (c.args.toList.map ev) c.argTypes.toList K
    | _ => False
  | _ => False

section
variable {P : Program} {o : Oper} {a : Act} {w : World} {σ : List V} {D : Nat → Prop} {ρ : Nat → Value} {F : Nat → Nat → Prop} {K : V → Prop}

theorem slK_str {t : TypeId} (h : slK P t = .string) : P.underlying t = some .string := by
  unfold slK at h; split at h <;> first | assumption | (split at h <;> cases h) | cases h

theorem list1 {α : Type} {xs : Array α} {x : α} (h : xs.toList = [x]) : xs = #[x] := by
  cases xs; simp at h; simp [h]

theorem qMinMax_sound (wr : WRel σ w D ρ F) {b : Builtin} {x y : Operand} {vx vy : V} {ats : Array TypeId} (ho : o.op = .call { callee := .builtin b, args := #[x, y], argTypes := ats }) (hx : OpR σ w D ρ F vx (a.eval x)) (hy : OpR σ w D ρ F vy (a.eval y)) (h : qMinMax b vx vy K) : ∃ r, K r ∧ Yields P o a w σ D ρ r := by
  obtain ⟨_, hx, _⟩ := hx
  obtain ⟨_, hy, _⟩ := hy
  unfold qMinMax at h
  split at h
  · refine ⟨_, h, Yields.pure wr ?_ ⟨rfl, rfl, fun _ h => h⟩⟩
    unfold execOp; rw [ho]; simp [resolve, invoke, builtin, Builtin.min_, Builtin.min2, hx.1, hy.1]
  · refine ⟨_, h, Yields.pure wr ?_ ⟨rfl, rfl, fun _ h => h⟩⟩
    unfold execOp; rw [ho]; simp [resolve, invoke, builtin, Builtin.max_, Builtin.max2, hx.1, hy.1]
  · exact h.elim

theorem qop0_sound (wr : WRel σ w D ρ F) {ev : Operand → V} (he : ∀ x ∈ o.op.operands, OpR σ w D ρ F (ev x) (a.eval x)) (h : qop0 P σ ev o.op K) : ∃ r, K r ∧ Yields P o a w σ D ρ r := by
  have parts : ∀ (ps : Array (Nat × Operand)), (∀ x ∈ (ps.toList.map (·.2)).toArray, OpR σ w D ρ F (ev x) (a.eval x)) → PartsR σ w D ρ F (ps.toList.map fun p => (p.1, ev p.2)) (ps.toList.map fun p => (p.1, a.eval p.2)) := by
    intro ps hp
    refine ⟨by simp, fun j i v hj => ?_⟩
    simp only [List.getElem?_map] at hj ⊢
    cases hq : ps.toList[j]? with
    | none => simp [hq] at hj
    | some q =>
      simp only [hq, Option.map_some, Option.some.injEq, Prod.mk.injEq] at hj ⊢
      obtain ⟨rfl, rfl⟩ := hj
      exact ⟨_, ⟨rfl, rfl⟩, hp q.2 (by
        simp only [List.mem_toArray, List.mem_map]
        exact ⟨q, List.mem_of_getElem? hq, rfl⟩)⟩
  have opt : ∀ (lo : Option Operand), (∀ x ∈ lo.toArray, OpR σ w D ρ F (ev x) (a.eval x)) → OptR σ w D ρ F (lo.map ev) (lo.map a.eval) := by
    intro lo hl
    cases lo with
    | none => trivial
    | some x => exact hl x (by simp)
  unfold qop0 at h
  split at h
  case h_1 x ho => exact qMove_sound wr (.inl ho) (he x (by simp [ho, Op.operands])) h
  case h_2 x ho => exact qMove_sound wr (.inr ho) (he x (by simp [ho, Op.operands])) h
  case h_3 c x y ho => exact qPick_sound wr ho (he c (by simp [ho, Op.operands])) (he x (by simp [ho, Op.operands])) (he y (by simp [ho, Op.operands])) h
  case h_4 t x ho => exact qLoad_sound wr ho (he x (by simp [ho, Op.operands])) h
  case h_5 t x k ho => exact qField_sound wr ho (he x (by simp [ho, Op.operands])) h
  case h_6 t x i ho => exact qIndexAddr_sound wr ho (he x (by simp [ho, Op.operands])) (he i (by simp [ho, Op.operands])) h
  case h_7 t x i ho => exact qIndex_sound wr (slK_str h.1) ho (he x (by simp [ho, Op.operands])) (he i (by simp [ho, Op.operands])) h.2
  case h_8 x ho => exact qNil_sound wr ho (he x (by simp [ho, Op.operands])) h
  case h_9 op t x y yt ho => exact qBin_sound wr ho (he x (by simp [ho, Op.operands])) (he y (by simp [ho, Op.operands])) h
  case h_10 op t x ho => exact qUn_sound wr ho (he x (by simp [ho, Op.operands])) h
  case h_11 s d x ho => exact qConv_sound wr ho (he x (by simp [ho, Op.operands])) h
  case h_12 x i ho => exact qExtract_sound wr ho (he x (by simp [ho, Op.operands])) h
  case h_13 t ps ho => exact qBuild_sound wr ho (parts ps fun x hx => he x (by rw [ho]; exact hx)) h
  case h_14 t n ps ho => exact qBuildSlice_sound wr ho (parts ps fun x hx => he x (by rw [ho]; exact hx)) h
  case h_15 t ho => exact qAlloc_sound wr ho h
  case h_16 t x ho => exact qBox_sound wr ho (he x (by simp [ho, Op.operands])) h
  case h_17 t l c ho => exact qMake_sound wr ho (he l (by simp [ho, Op.operands])) (he c (by simp [ho, Op.operands])) h
  case h_18 t x lo hi mx ho =>
    obtain ⟨rfl, h⟩ := h
    exact qSlice_sound wr ho (he x (by simp [ho, Op.operands])) (opt lo fun y hy => he y (by rw [ho]; simp only [Op.operands, Array.mem_append]; exact .inl (.inl (.inr hy)))) (opt hi fun y hy => he y (by rw [ho]; simp only [Op.operands, Array.mem_append]; exact .inl (.inr hy))) h
  case h_19 c ho =>
    obtain ⟨callee, args, ats⟩ := c
    simp only at h
    split at h
    · refine Call_sound wr ho ⟨by simp, fun j hj => ?_⟩ h
      simp at hj
      have := he args[j] (by rw [ho]; simp [Op.operands, Call.operands])
      simpa [hj] using this
    · unfold qBuiltin at h
      have hm : ∀ x ∈ args.toList, OpR σ w D ρ F (ev x) (a.eval x) := fun x hx => he x (by rw [ho]; simp [Op.operands, Call.operands]; simpa using hx)
      split at h
      · rename_i vx t hvx hats
        obtain ⟨x, hx, rfl⟩ : ∃ x, args.toList = [x] ∧ ev x = vx := by
          cases hl : args.toList with
          | nil => simp [hl] at hvx
          | cons x l => cases l with
            | nil => simp [hl] at hvx; exact ⟨x, rfl, hvx⟩
            | cons => simp [hl] at hvx
        rw [list1 hx, list1 hats] at ho
        obtain ⟨hl, h⟩ := h
        refine qLen_sound wr ?_ ho (hm x (by simp [hx])) h
        unfold lenOK at hl
        split at hl
        · rename_i s h1 h2; exact .inl ⟨h1, s, h2⟩
        · cases hl
        · rename_i h1 h2; exact .inr ⟨h1, fun ⟨s, hs⟩ => h2 s hs⟩
        · cases hl
      · rename_i vx vy hvx
        obtain ⟨x, y, hx, rfl, rfl⟩ : ∃ x y, args.toList = [x, y] ∧ ev x = vx ∧ ev y = vy := by
          match hl : args.toList, hvx with
          | [x, y], hvx => simp at hvx; exact ⟨x, y, rfl, hvx⟩
          | [], hvx => simp at hvx
          | [_], hvx => simp at hvx
          | _ :: _ :: _ :: _, hvx => simp at hvx
        have e : args = #[x, y] := by cases args; simp at hx; simp [hx]
        rw [e] at ho
        exact qMinMax_sound wr ho (hm x (by simp [hx])) (hm y (by simp [hx])) h
      · rename_i vx vy hvx
        obtain ⟨x, y, hx, rfl, rfl⟩ : ∃ x y, args.toList = [x, y] ∧ ev x = vx ∧ ev y = vy := by
          match hl : args.toList, hvx with
          | [x, y], hvx => simp at hvx; exact ⟨x, y, rfl, hvx⟩
          | [], hvx => simp at hvx
          | [_], hvx => simp at hvx
          | _ :: _ :: _ :: _, hvx => simp at hvx
        have e : args = #[x, y] := by cases args; simp at hx; simp [hx]
        rw [e] at ho
        exact qMinMax_sound wr ho (hm x (by simp [hx])) (hm y (by simp [hx])) h
      · exact h.elim
    · exact h.elim
  all_goals exact h.elim

theorem Yields.sub {r r' : V} (hs : Sub r r') (hy : Yields P o a w σ D ρ r) : Yields P o a w σ D ρ r' :=
  fun next Q hn => hy next Q fun v' w' D' fp hB hr hf hd1 hd2 hd3 => hn v' w' D' fp hB (Rel.sub hs hr) hf hd1 hd2 hd3

/-- An operation whose value may be seen otherwise. -/
def qop (P : Program) (σ : List V) (ev : Operand → V) (op : Op) (K : V → Prop) : Prop := qop0 P σ ev op fun r0 => ∃ r, Sub r0 r ∧ K r

theorem qop_sound (wr : WRel σ w D ρ F) {ev : Operand → V} (he : ∀ x ∈ o.op.operands, OpR σ w D ρ F (ev x) (a.eval x)) (h : qop P σ ev o.op K) : ∃ r, K r ∧ Yields P o a w σ D ρ r := by
  obtain ⟨r0, ⟨r, hs, hK⟩, hy⟩ := qop0_sound wr he h
  exact ⟨r, hK, hy.sub hs⟩

end
end Go.Ve
