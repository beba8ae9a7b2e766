/- The law FnExactTruthObjects returns true for every input: the program's TruthObjects returns what the reference's returns. No condition. -/
import Derived.Test.YtbbhfpbalccohaaGreatRows
import Derived.Test.YtbbhfpbalccohaaGreatFga
namespace Go.Proofs.YtbbhfpbalccohaaGreat
open Go Go.ChangeShapes Go.WideShapes Go.ChangeAt Go.RowKit Go.Ve Go.Ve.D

theorem Tryz.own : ownKnob Tryz.prog.godebug = Option.none := by kernel_rfl
theorem Tryz.laidOut : laidOutB Tryz.prog = true := by kernel_rfl
theorem parsTruthObjects : Tryz.f7.params.toList.map (parP Tryz.prog) = S7.ps.map (fun p => (p.1, some p.2)) := by kernel_rfl
theorem readTruthObjects : (Tryz.f7.params.toList.all fun t => Tryz.prog.readableRec t && decide (t < Tryz.prog.types.size)) = true := by kernel_rfl

set_option maxRecDepth 100000 in
theorem fnExactTruthObjects_lifted (os : Os) (started : os.Started) (H : Type) (enc : TypeId × Value → H) :
    ReturnsInHanded {} Tryz.checked os 7 .any (Rows.fnExactTruthObjectsSpec.pre6 enc Tryz.prog Tryz.f7 Rows.fnExactTruthObjectsRow.domain false) (Rows.fnExactTruthObjectsSpec.post enc Tryz.prog Tryz.f7 false true false false) := by
  refine returnsInHanded_of_change (C := Tryz.checked) Tryz.own started (by kernel_rfl) Tryz.func7
    (ChangeSpec.witness6 (enc := enc) (C := Tryz.checked) false ⟨#[], #[.agg #[.slice Option.none 0 0, .slice Option.none 0 0], .slice Option.none 0 0], []⟩ 8 (by kernel_rfl) (by kernel_rfl) (by kernel_rfl) (by kernel_rfl)) ?_
  intro W base args ds gs before hval0 hW hcnd _
  have hval : ∀ (j : Nat) t v, Tryz.f7.params.toList[j]? = some t → args[j]? = some v → Value.okWide Tryz.prog W .any base t v := fun j t v h1 h2 => hval0 j t v (by simpa using h1) h2
  have hW' := hW
  obtain ⟨p, q, hA0, hV, rfl, hfz, hnd⟩ := hW'
  obtain ⟨rfl, rfl⟩ := trodVars_none hV
  have hA : DataW.TrodAll enc Tryz.prog W 0 (fun _ => true) true Tryz.f7.params.toList args.toList ds p := hA0
  refine (V3 (ps := S7.ps) (g := G7) c7 p7 (base := base) parsTruthObjects hA hval (wok0 rfl _)).mono fun e W' => ?_
  rintro ⟨rfl, hb⟩
  refine ⟨_, rfl, ?_⟩
  refine X5 (P := Tryz.prog) (tb := 4) hW rfl ?_ rfl (by kernel_rfl) Tryz.laidOut readTruthObjects hb
  obtain ⟨v0, v1, d0, d1, p0, p1, _, rfl, _⟩ := trodAll_two (t := 25) (t' := 27) hA
  rfl

theorem fnExactTruthObjects_holds : Rows.FnExactTruthObjectsSaid :=
  OpenClaim.holds_of_wide 7 Tryz.f7 rfl rfl rfl rfl rfl rfl rfl ⟨rfl, rfl, rfl, rfl, rfl⟩ rfl rfl rfl rfl rfl (by kernel_rfl) Tryz.func7 (by kernel_rfl)
    (of_decide_eq_true (by kernel_rfl)) (by unfold Func.isWrapper; first | (rw [if_pos (by decide +kernel)]; kernel_rfl) | (rw [if_neg (by decide +kernel)]; exact ⟨rfl, rfl⟩))
    (fun os started H enc _ => fnExactTruthObjects_lifted os started H enc)
end Go.Proofs.YtbbhfpbalccohaaGreat

