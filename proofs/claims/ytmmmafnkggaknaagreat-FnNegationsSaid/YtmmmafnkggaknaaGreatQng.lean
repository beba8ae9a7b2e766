/- The law FnNegations returns true for every input: three negations of a part are one, a part and its negation have nothing in common and their join is dense, and a complemented part is its double negation. No condition. -/
import Derived.Test.YtmmmafnkggaknaaGreatRows
import Derived.Test.YtmmmafnkggaknaaGreatDro
namespace Go.Proofs.YtmmmafnkggaknaaGreat
open Go Go.ChangeShapes Go.WideShapes Go.ChangeAt Go.RowKit Go.Ve Go.Ve.D

theorem Tryz.own : ownKnob Tryz.prog.godebug = Option.none := by kernel_rfl
theorem Tryz.laidOut : laidOutB Tryz.prog = true := by kernel_rfl
theorem parsNegations : Tryz.f3.params.toList.map (parP Tryz.prog) = S3.ps.map (λp => (p.1, some p.2)) := by kernel_rfl
theorem readNegations :(Tryz.f3.params.toList.all λt => Tryz.prog.readableRec t && decide (t < Tryz.prog.types.size)) = true := by kernel_rfl

set_option maxRecDepth 100000 in
theorem fnNegations_lifted (os : Os) (started : os.Started) (H : Type) (enc : TypeId × Value → H) :
    ReturnsInHanded {} Tryz.checked os 3 .any (Rows.fnNegationsSpec.pre6 enc Tryz.prog Tryz.f3 Rows.fnNegationsRow.domain false) (Rows.fnNegationsSpec.post enc Tryz.prog Tryz.f3 false true false false) := by
  refine returnsInHanded_of_change (C := Tryz.checked) Tryz.own started (by kernel_rfl) Tryz.func3
    (ChangeSpec.witness6 (enc := enc) (C := Tryz.checked) false ⟨#[], #[.slice Option.none 0 0], []⟩ 8 (by kernel_rfl) (by kernel_rfl) (by kernel_rfl) (by kernel_rfl)) ?_
  intro W base args ds gs before hval0 hW hcnd _
  have hval :∀(j : Nat) t v, Tryz.f3.params.toList[j]? = some t → args[j]? = some v → Value.okWide Tryz.prog W .any base t v := λj t v h1 h2 => hval0 j t v (by simpa using h1) h2
  have hW' := hW
  obtain ⟨p, q, hA0, hV, rfl, hfz, hnd⟩ := hW'
  obtain ⟨rfl, rfl⟩ := trodVars_none hV
  have hA : DataW.TrodAll enc Tryz.prog W 0 (λ_ => true) true Tryz.f3.params.toList args.toList ds p := hA0
  refine (VG (ps := S3.ps) (g := G3) c3.2 p3 (base := base) parsNegations hA hval (wok0 rfl _)).mono λe W' => ?_
  rintro ⟨rfl, hb⟩
  refine ⟨_, rfl, ?_⟩
  refine Xy (P := Tryz.prog) (tb := 4) hW rfl ?_ rfl (by kernel_rfl) Tryz.laidOut readNegations hb
  obtain ⟨v0, d0, _, rfl, _⟩ := trodAll_one (t := 22) hA
  rfl

theorem fnNegations_holds : Rows.FnNegationsSaid :=
  OpenClaim.holds_of_wide 3 Tryz.f3 rfl rfl rfl rfl rfl rfl rfl ⟨rfl, rfl, rfl, rfl, rfl⟩ rfl rfl rfl rfl rfl (by kernel_rfl) Tryz.func3 (by kernel_rfl)
    (of_decide_eq_true (by kernel_rfl)) (by unfold Func.isWrapper; first |(rw[if_pos (by decide +kernel)]; kernel_rfl) |(rw[if_neg (by decide +kernel)]; exact ⟨rfl, rfl⟩))
    (λos started H enc _ => fnNegations_lifted os started H enc)
end Go.Proofs.YtmmmafnkggaknaaGreat

