/- The law FnSystems returns true for every input: any two factorizations of an arrow by a factorization system are linked by exactly one arrow, and it is an isomorphism. No condition. -/
import Derived.Test.YtlggjlgcmilmhaaRows
import Derived.Test.YtlggjlgcmilmhaaSyz
namespace Go.Proofs.Ytlggjlgcmilmhaa
open Go Go.ChangeShapes Go.WideShapes Go.ChangeAt Go.RowKit Go.Ve Go.Ve.D

theorem Try.own : ownKnob Try.prog.godebug = Option.none := by kernel_rfl
theorem Try.laidOut : laidOutB Try.prog = true := by kernel_rfl
theorem parsSystems : Try.f4.params.toList.map (parP Try.prog) = S4.ps.map (λp => (p.1, some p.2)) := by kernel_rfl
theorem readSystems : (Try.f4.params.toList.all λt => Try.prog.readableRec t && decide (t < Try.prog.types.size)) = true := by kernel_rfl

set_option maxRecDepth 100000 in
theorem fnSystems_lifted (os : Os) (started : os.Started) (H : Type) (enc : TypeId × Value → H) :
    ReturnsInHanded {} Try.checked os 4 .any (Rows.fnSystemsSpec.pre6 enc Try.prog Try.f4 Rows.fnSystemsRow.domain false) (Rows.fnSystemsSpec.post enc Try.prog Try.f4 false true false false) := by
  refine returnsInHanded_of_change (C := Try.checked) Try.own started (by kernel_rfl) Try.func4
    (ChangeSpec.witness6 (enc := enc) (C := Try.checked) false ⟨#[], #[.slice Option.none 0 0], []⟩ 8 (by kernel_rfl) (by kernel_rfl) (by kernel_rfl) (by kernel_rfl)) ?_
  intro W base args ds gs before hval0 hW hcnd _
  have hval : ∀ (j : Nat) t v, Try.f4.params.toList[j]? = some t → args[j]? = some v → Value.okWide Try.prog W .any base t v := λj t v h1 h2 => hval0 j t v (by simpa using h1) h2
  have hW' := hW
  obtain ⟨p, q, hA0, hV, rfl, hfz, hnd⟩ := hW'
  obtain ⟨rfl, rfl⟩ := trodVars_none hV
  have hA : DataW.TrodAll enc Try.prog W 0 (λ_ => true) true Try.f4.params.toList args.toList ds p := hA0
  refine (V2 (ps := S4.ps) (g := G4) c4 p4 (base := base) parsSystems hA hval (wok0 rfl _)).mono λe W' => ?_
  rintro ⟨rfl, hb⟩
  refine ⟨_, rfl, ?_⟩
  refine XU (P := Try.prog) (tb := 4) hW rfl ?_ rfl (by kernel_rfl) Try.laidOut readSystems hb
  obtain ⟨v0, d0, _, rfl, _⟩ := trodAll_one (t := 22) hA
  rfl

theorem fnSystems_holds : Rows.FnSystemsSaid :=
  OpenClaim.holds_of_wide 4 Try.f4 rfl rfl rfl rfl rfl rfl rfl ⟨rfl, rfl, rfl, rfl, rfl⟩ rfl rfl rfl rfl rfl (by kernel_rfl) Try.func4 (by kernel_rfl)
    (of_decide_eq_true (by kernel_rfl)) (by unfold Func.isWrapper; first | (rw [if_pos (by decide +kernel)]; kernel_rfl) | (rw [if_neg (by decide +kernel)]; exact ⟨rfl, rfl⟩))
    (λos started H enc _ => fnSystems_lifted os started H enc)
end Go.Proofs.Ytlggjlgcmilmhaa

