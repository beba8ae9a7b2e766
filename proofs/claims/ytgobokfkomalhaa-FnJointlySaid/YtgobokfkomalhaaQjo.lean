/- The law FnJointly returns true for every input: jointly monomorphic arrows are found the same by both ways, one arrow is so exactly if it is a monomorphism, more arrows stay so, and quotients are the subobjects of the opposite category. No condition. -/
import Derived.Test.YtgobokfkomalhaaRows
import Derived.Test.YtgobokfkomalhaaOjf
namespace Go.Proofs.Ytgobokfkomalhaa
open Go Go.ChangeShapes Go.WideShapes Go.ChangeAt Go.RowKit Go.Ve Go.Ve.D

theorem Try.own : ownKnob Try.prog.godebug = Option.none := by kernel_rfl
theorem Try.laidOut : laidOutB Try.prog = true := by kernel_rfl
theorem parsJointly : Try.f3.params.toList.map (parP Try.prog) = S3.ps.map (λp => (p.1, some p.2)) := by kernel_rfl
theorem readJointly : (Try.f3.params.toList.all λt => Try.prog.readableRec t && decide (t < Try.prog.types.size)) = true := by kernel_rfl

set_option maxRecDepth 100000 in
theorem fnJointly_lifted (os : Os) (started : os.Started) (H : Type) (enc : TypeId × Value → H) :
    ReturnsInHanded {} Try.checked os 3 .any (Rows.fnJointlySpec.pre6 enc Try.prog Try.f3 Rows.fnJointlyRow.domain false) (Rows.fnJointlySpec.post enc Try.prog Try.f3 false true false false) := by
  refine returnsInHanded_of_change (C := Try.checked) Try.own started (by kernel_rfl) Try.func3
    (ChangeSpec.witness6 (enc := enc) (C := Try.checked) false ⟨#[], #[.slice Option.none 0 0], []⟩ 8 (by kernel_rfl) (by kernel_rfl) (by kernel_rfl) (by kernel_rfl)) ?_
  intro W base args ds gs before hval0 hW hcnd _
  have hval : ∀ (j : Nat) t v, Try.f3.params.toList[j]? = some t → args[j]? = some v → Value.okWide Try.prog W .any base t v := λj t v h1 h2 => hval0 j t v (by simpa using h1) h2
  have hW' := hW
  obtain ⟨p, q, hA0, hV, rfl, hfz, hnd⟩ := hW'
  obtain ⟨rfl, rfl⟩ := trodVars_none hV
  have hA : DataW.TrodAll enc Try.prog W 0 (λ_ => true) true Try.f3.params.toList args.toList ds p := hA0
  refine (Wb (ps := S3.ps) (g := G3) c3 p3 (base := base) parsJointly hA hval (wok0 rfl _)).mono λe W' => ?_
  rintro ⟨rfl, hb⟩
  refine ⟨_, rfl, ?_⟩
  refine XW (P := Try.prog) (tb := 4) hW rfl ?_ rfl (by kernel_rfl) Try.laidOut readJointly hb
  obtain ⟨v0, d0, _, rfl, _⟩ := trodAll_one (t := 22) hA
  rfl

theorem fnJointly_holds : Rows.FnJointlySaid :=
  OpenClaim.holds_of_wide 3 Try.f3 rfl rfl rfl rfl rfl rfl rfl ⟨rfl, rfl, rfl, rfl, rfl⟩ rfl rfl rfl rfl rfl (by kernel_rfl) Try.func3 (by kernel_rfl)
    (of_decide_eq_true (by kernel_rfl)) (by unfold Func.isWrapper; first | (rw [if_pos (by decide +kernel)]; kernel_rfl) | (rw [if_neg (by decide +kernel)]; exact ⟨rfl, rfl⟩))
    (λos started H enc _ => fnJointly_lifted os started H enc)
end Go.Proofs.Ytgobokfkomalhaa

