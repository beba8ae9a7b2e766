/- Calls by contract in the small machine. -/
import Derived.Test.YtkafcpbbcpngdaaVh
namespace Go.Ve
open RowKit (Below)

def callable (P : Program) (f : FuncId) : Bool :=
  match P.funcs[f]? with
  | some fn => !(fn.name == "runtime.NumGoroutine") && fn.body.isSome
  | none => false

section ops
variable {P : Program} {o : Oper} {a : Act} {w : World} {σ : List V} {D : Nat → Prop} {ρ : Nat → Value} {F : Nat → Nat → Prop} {K : V → Prop}

theorem lentAny_free {R : V → Value → Prop} {v : V} {cv : Value} {fp : Nat → Prop} (h : lentAny v = false) (hr : Rel D w R v cv fp) : ∀ b, ¬ fp b := by
  have : ∀ v : V, lentAny v = false → tOwn v = false := by
    intro v
    induction v with
    | many t n f ih =>
      intro h
      unfold lentAny at h
      unfold tOwn
      rw [List.any_eq_false] at h ⊢
      intro k hk
      simpa using ih k (by simpa using h k hk)
    | nd s own sz n f _ => intro h; exact h
    | _ => intro _; rfl
  exact tOwn_free _ _ _ (this _ h) hr

/-- A call, by its contract. 'la': something that is owned is lent to it. -/
def Call (P : Program) (f : FuncId) (la : Bool) (vs : List V) (K : V → Prop) : Prop :=
  ∃ r, (callable P f = true ∧ FC P f vs r) ∧ (la = true → ownOnly r) ∧ K r

/-- The arguments, in relation. -/
def ArgsR (σ : List V) (w : World) (D : Nat → Prop) (ρ : Nat → Value) (F : Nat → Nat → Prop) (vs : List V) (cs : Array Value) : Prop :=
  cs.size = vs.length ∧ ∀ j, j < vs.length → OpR σ w D ρ F (vs.getD j .dead) (cs.getD j undef)

theorem Call_sound (wr : WRel σ w D ρ F) {f : FuncId} {vs : List V} {xs : Array Operand} {ats : Array TypeId} (ho : o.op = .call { callee := .value (.func f), args := xs, argTypes := ats }) (hv : ArgsR σ w D ρ F vs (xs.map a.eval))
    (h : Call P f (vs.any lentAny) (vs.map (lend σ)) K) : ∃ r, K r ∧ Yields P o a w σ D ρ r := by
  obtain ⟨r, ⟨hcall, hfc⟩, hla, hK⟩ := h
  refine ⟨r, hK, fun next Q hn => ?_⟩
  have hrun : (execOp a.eval o).run P w = .ok (.enter f (xs.map a.eval)) w := by
    unfold callable at hcall
    split at hcall
    · rename_i fn hfn
      simp only [Bool.and_eq_true, Bool.not_eq_true'] at hcall
      obtain ⟨h1, h2⟩ := hcall
      have h2' : fn.body.isNone = false := by cases hb : fn.body <;> simp [hb] at h2 ⊢
      have e0 : a.eval (.func f) = .func (.func f) #[] #[] := rfl
      unfold execOp; rw [ho]
      simp [resolve, e0, Deferred.ofValue, invoke, callFunc, hfn, h2']
      simp at h1
      simp [h1]
      intro hb; simp [hb] at h2
    · cases hcall
  unfold Oper.wp
  rw [hrun, Oper.upon_enter]
  let D2 : Nat → Prop := fun b => D b ∨ (vs.any lentAny = true ∧ ((∃ j fp, j < vs.length ∧ Rel D w (RefOK σ ρ w) (vs.getD j .dead) ((xs.map a.eval).getD j undef) fp ∧ fp b) ∨ ∃ i, F i b))
  have hargs : ∀ i, i < (vs.map (lend σ)).length → Rel D2 w noR ((vs.map (lend σ)).getD i .dead) ((xs.map a.eval).getD i undef) noF := by
    intro i hi
    simp at hi
    obtain ⟨fp, hr, hfD, hfF⟩ := hv.2 i hi
    have e1 : (vs.map (lend σ)).getD i .dead = lend σ (vs.getD i .dead) := by simp [hi]
    rw [e1]
    have hl : lentAny (vs.getD i .dead) = true ∨ ∀ b, ¬ fp b := by
      cases h : lentAny (vs.getD i .dead) with
      | true => exact .inl rfl
      | false => exact .inr (lentAny_free h hr)
    refine Rel.mono (fun b hb => hb.imp id fun ⟨h1, h2⟩ => ⟨?_, h2.imp (fun h => ⟨i, fp, hi, hr, h⟩) id⟩) (fun _ _ h => h) _ _ _ (fun _ _ => rfl) (lend_rel wr _ _ _ hr hl)
    rw [List.any_eq_true]
    refine ⟨vs.getD i .dead, ?_, h1⟩
    rw [List.getD_eq_getElem?_getD, List.getElem?_eq_getElem hi]
    exact List.getElem_mem hi
  have hD2 : ∀ b, D2 b → b < w.heap.size := by
    rintro b (hb | ⟨_, ⟨j, fp, hj, hr, hb⟩ | ⟨i, hb⟩⟩)
    · exact wr.Dlt b hb
    · exact Rel.lt _ _ _ hr b hb
    · exact wr.lt i b hb
  refine (hfc w D2 (xs.map a.eval) hD2 (by rw [hv.1]; simp) hargs).mono ?_
  rintro e w' ⟨cv, fp, D', rfl, hB, hr, hf, hd1, hd2, hd3⟩
  cases hl : vs.any lentAny with
  | false =>
    refine hn cv w' D' fp hB (Rel.noR_mono hr) hf (fun b hb => hd1 b (.inl hb)) (fun b hb => ?_) hd3
    rcases hd2 b hb with (h | ⟨h, _⟩) | h
    · exact .inl h
    · rw [hl] at h; cases h
    · exact .inr h
  | true =>
    refine hn cv w' D fp hB (Rel.noR_mono (Rel.ownOnly' r _ _ _ _ (hla hl) hr)) hf (fun _ h => h) (fun _ h => .inl h) fun b hb => ⟨Nat.lt_of_lt_of_le (wr.Dlt b hb) hB.size, fun h => ?_⟩
    have := wr.Dlt b hb
    have := hf b h
    omega

end ops
end Go.Ve
