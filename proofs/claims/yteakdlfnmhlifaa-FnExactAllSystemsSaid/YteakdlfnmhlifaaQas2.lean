/- The law FnExactAllSystems returns true for every input. -/
import Derived.Test.YteakdlfnmhlifaaRows
import Derived.Test.YteakdlfnmhlifaaYtd
open Option(none)
namespace Go.Proofs.Yteakdlfnmhlifaa
open Go Go.ChangeShapes Go.WideShapes Go.ChangeAt Go.RowKit Go.Ve Go.Ve.D

theorem Try.own : ownKnob Try.prog.godebug = none := by kernel_rfl
theorem Try.laidOut : laidOutB Try.prog = true := by kernel_rfl
theorem parsAllSystems : Try.f5.params.toList.map (parP Try.prog) = S5.ps.map (λp => (p.1, some p.2)) := by kernel_rfl
theorem readAllSystems :(Try.f5.params.toList.all λt => Try.prog.readableRec t && decide (t < Try.prog.types.size)) = true := by kernel_rfl

set_option maxRecDepth 100000 in
theorem fnExactAllSystems_lifted (os : Os) (started : os.Started) (H : Type) (enc : TypeId × Value → H) :
    ReturnsInHanded {} Try.checked os 5 .any (Rows.fnExactAllSystemsSpec.pre6 enc Try.prog Try.f5 Rows.fnExactAllSystemsRow.domain false) (Rows.fnExactAllSystemsSpec.post enc Try.prog Try.f5 false true false false) := by
  refine returnsInHanded_of_change (C := Try.checked) Try.own started (by kernel_rfl) Try.func5
    (ChangeSpec.witness6 (enc := enc) (C := Try.checked) false ⟨#[], #[.agg #[.int .i64 0, .slice none 0 0, .slice none 0 0, .slice none 0 0, .slice none 0 0]], []⟩ 8 (by kernel_rfl) (by kernel_rfl) (by kernel_rfl) (by kernel_rfl)) ?_
  intro W base args ds gs before hval0 hW hcnd _
  have hval :∀(j : Nat) t v, Try.f5.params.toList[j]? = some t → args[j]? = some v → Value.okWide Try.prog W .any base t v := λj t v h1 h2 => hval0 j t v (by simpa using h1) h2
  have hW' := hW
  obtain ⟨p, q, hA0, hV, rfl, hfz, hnd⟩ := hW'
  obtain ⟨rfl, rfl⟩ := trodVars_none hV
  have hA : DataW.TrodAll enc Try.prog W 0 (λ_ => true) true Try.f5.params.toList args.toList ds p := hA0
  refine (XX (ps := S5.ps) (g := G5) c5 p5 (base := base) parsAllSystems hA hval (wok0 rfl _)).mono λe W' => ?_
  rintro ⟨rfl, hb⟩
  refine ⟨_, rfl, ?_⟩
  refine ZT (P := Try.prog) (tb := 4) hW rfl ?_ rfl (by kernel_rfl) Try.laidOut readAllSystems hb
  obtain ⟨v0, d0, _, rfl, _⟩ := trodAll_one (t := 25) hA
  rfl

theorem fnExactAllSystems_holds : Rows.FnExactAllSystemsSaid :=
  OpenClaim.holds_of_wide 5 Try.f5 rfl rfl rfl rfl rfl rfl rfl ⟨rfl, rfl, rfl, rfl, rfl⟩ rfl rfl rfl rfl rfl (by kernel_rfl) Try.func5 (by kernel_rfl)
    (of_decide_eq_true (by kernel_rfl)) (by unfold Func.isWrapper; first |(rw[if_pos (by decide +kernel)]; kernel_rfl) |(rw[if_neg (by decide +kernel)]; exact ⟨rfl, rfl⟩))
    (λos started H enc _ => fnExactAllSystems_lifted os started H enc)
end Go.Proofs.Yteakdlfnmhlifaa

