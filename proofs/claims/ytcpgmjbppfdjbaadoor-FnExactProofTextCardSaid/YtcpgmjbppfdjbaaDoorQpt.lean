/- The law FnExactProofText returns true for every input: the program's ProofText returns what the reference's returns. No condition beyond the card's own tables. -/
import Derived.Test.YtcpgmjbppfdjbaaDoorCards
import Derived.Test.YtcpgmjbppfdjbaaDoorTie
import Derived.Test.YtcpgmjbppfdjbaaDoorNpa
import Derived.ProofKit
import Derived.Handy
import Derived.Lay
import Derived.SevenTiedAt
namespace Go.Proofs.YtcpgmjbppfdjbaaDoor
open Go Go.ChangeShapes Go.WideShapes Go.ChangeAt Go.RowKit Go.Ve Go.Ve.D

theorem Tryd.own : ownKnob Tryd.prog.godebug = Option.none := by kernel_rfl
theorem Tryd.laidOut : laidOutB Tryd.prog = true := by kernel_rfl
theorem parsProofText : Tryd.f3.params.toList.map (parP Tryd.prog) = S3.ps.map (λp => (p.1, some p.2)) := by kernel_rfl
theorem readProofText : (Tryd.f3.params.toList.all λt => Tryd.prog.readableRec t && decide (t < Tryd.prog.types.size)) = true := by kernel_rfl

/-- the library's table stands where it is looked for -/
theorem wok_of {W : World} (h : laidMetH Tryd.prog Rows.fnExactProofTextRow.laid W) : Wok W := by
  rw [MakeChecks.laidMetH_plain _ _ _ (by kernel_rfl)] at h
  obtain ⟨ps, ⟨_, _, _, _, _, _, _, _, _, _, ⟨_, _, _, _, _, _, _, _, _, _, ⟨g, t, cs, fuel, p, q, hg, ht, hvar, hd, _, _⟩, _⟩, _⟩, _⟩ := h
  obtain rfl := Option.some.inj ((show Tryd.prog.globalNamed "internal/strconv.uint64pow10" = some 0 by kernel_rfl).symm.trans hg)
  obtain rfl := Option.some.inj ((show (Tryd.prog.globals[0]?).map (·.type) = some 91 by kernel_rfl).symm.trans ht)
  have hcs := Lib.cells_of_tab (k := .u64) (zs := Lib.pow10Tab) (n := 20) (e := 79) Tryd.underlying91 Tryd.underlying79 (by kernel_rfl) (by kernel_rfl) hd
  intro p hp
  cases hp
  unfold World.var? at hvar
  rw [hg, Option.bind_some] at hvar
  split at hvar
  · rename_i cs' T fz hb
    have e := Option.some.inj hvar
    refine ⟨T, fz, ?_⟩
    show W.heap[0]? = _
    rw [hb, e]
    congr 2
    apply Array.toList_inj.1
    rw [hcs]
  · cases hvar

set_option maxRecDepth 100000 in
theorem fnExactProofText_lifted (os : Os) (started : os.Started) (H : Type) (enc : TypeId × Value → H) :
    ReturnsInHanded {} Tryd.checked os 3 .any (λw args => (Rows.fnExactProofTextSpec.pre enc Tryd.prog Tryd.f3 [] false w args ∧ laidMetH Tryd.prog Rows.fnExactProofTextRow.laid w) ∧ sizedMet enc Tryd.prog Tryd.f3 (OpenSpec.ofChange Rows.fnExactProofTextSpec) false w args)
      (Rows.fnExactProofTextSpec.post enc Tryd.prog Tryd.f3 false true false false) := by
  refine returnsInHanded_of_change_and (C := Tryd.checked) (X := λw _ => laidMetH Tryd.prog Rows.fnExactProofTextRow.laid w) (λ_ _ _ hh h => h.of_heap hh) Tryd.own started (by kernel_rfl) Tryd.func3
    (ChangeSpec.witness_shaped (enc := enc) (C := Tryd.checked) (os := os) (X := λw _ => laidMetH Tryd.prog Rows.fnExactProofTextRow.laid w) false (World.laidAll Tryd.prog os Rows.fnExactProofTextRow.laid) #[.slice Option.none 0 0] 8 (World.laidAll_os _ _ _)
      (World.shaped_of_ZipB (by kernel_rfl) (by kernel_rfl)) (by kernel_rfl) (by kernel_rfl) (by kernel_rfl)
      (by rw [MakeChecks.laidMetH_plain _ _ _ (by kernel_rfl)]; exact laidMet_laidAll _ (by kernel_rfl) (by kernel_rfl))) ?_
  intro W base args ds gs before hval0 hW hcnd _ hL _
  have hval : ∀ (j : Nat) t v, Tryd.f3.params.toList[j]? = some t → args[j]? = some v → Value.okWide Tryd.prog W .any base t v := λj t v h1 h2 => hval0 j t v (by simpa using h1) h2
  have hW' := hW
  obtain ⟨p, q, hA0, hV, rfl, hfz, hnd⟩ := hW'
  obtain ⟨rfl, rfl⟩ := trodVars_none hV
  have hA : DataW.TrodAll enc Tryd.prog W 0 (λ_ => true) true Tryd.f3.params.toList args.toList ds p := hA0
  refine (Wh (ps := S3.ps) (g := G3) c3 p3 (base := base) parsProofText hA hval (wok_of hL)).mono λe W' => ?_
  rintro ⟨rfl, hb⟩
  refine ⟨_, rfl, ?_⟩
  refine X2 (P := Tryd.prog) (tb := 4) hW rfl ?_ rfl (by kernel_rfl) Tryd.laidOut readProofText hb
  obtain ⟨v0, d0, _, rfl, _⟩ := trodAll_one (t := 22) hA
  rfl

theorem fnExactProofText_row : Rows.FnExactProofTextSaid :=
  OpenClaim.holds_of_wide 3 Tryd.f3 rfl rfl rfl rfl rfl rfl rfl ⟨rfl, rfl, rfl, rfl, rfl⟩ rfl rfl rfl rfl rfl (by kernel_rfl) Tryd.func3 (by kernel_rfl)
    (of_decide_eq_true (by kernel_rfl)) (by unfold Func.isWrapper; first | (rw [if_pos (by decide +kernel)]; kernel_rfl) | (rw [if_neg (by decide +kernel)]; exact ⟨rfl, rfl⟩))
    (λos started H enc _ => fnExactProofText_lifted os started H enc)
theorem fnExactProofText_holds : Rows.FnExactProofTextCardSaid :=
  Claim7.holds_tied_plain_at .later [] [.data, .data, .data] true (true, "26ebc14503139b6eade75398a8638e39b3c06c6bff56f780adb1470a54c4e290") false fnExactProofText_row (λ_ h => by cases h) (by kernel_rfl) (λ_ h => by cases h) fnExactProofText_row_tie rfl ⟨rfl, rfl⟩ (by kernel_rfl) rfl
    (λf fn hf hfn => by
      obtain rfl : f = 3 := Option.some.inj ((show Tryd.prog.funcNamed "loop.example/g01083/laws.FnExactProofText" = some 3 by kernel_rfl).symm.trans hf) |>.symm
      obtain rfl : fn = Tryd.f3 := (Option.some.inj (Tryd.func3.symm.trans hfn)).symm
      exact ⟨by kernel_rfl, λj t ht => by
        rw [Tryd.params3] at ht
        have hm : t ∈ [22] := by simpa using Array.mem_of_getElem? ht
        have hall : ([22].all λu => !Tryd.prog.wantsStandIn u) = true := by kernel_rfl
        exact (show Tryd.prog.wantsStandIn t = false by simpa using List.all_eq_true.1 hall t hm)⟩)
    (by kernel_rfl)
end Go.Proofs.YtcpgmjbppfdjbaaDoor

