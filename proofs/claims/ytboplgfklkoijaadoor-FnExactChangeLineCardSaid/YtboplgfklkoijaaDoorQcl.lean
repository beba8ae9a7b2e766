/- The law FnExactChangeLine returns true for every input: the program's ChangeLine returns what the reference's returns. No condition beyond the card's own tables. -/
import Derived.Test.YtboplgfklkoijaaDoorCards
import Derived.Test.YtboplgfklkoijaaDoorTie
import Derived.Test.YtboplgfklkoijaaDoorLcl
import Derived.ProofKit
import Derived.Handy
import Derived.Lay
import Derived.SevenTiedAt
namespace Go.Proofs.YtboplgfklkoijaaDoor
open Go Go.ChangeShapes Go.WideShapes Go.ChangeAt Go.RowKit Go.Ve Go.Ve.D

theorem Tryd.own : ownKnob Tryd.prog.godebug = Option.none := by kernel_rfl
theorem Tryd.laidOut : laidOutB Tryd.prog = true := by kernel_rfl
theorem parsChangeLine : Tryd.f3.params.toList.map (parP Tryd.prog) = S3.ps.map (fun p => (p.1, some p.2)) := by kernel_rfl
theorem readChangeLine : (Tryd.f3.params.toList.all fun t => Tryd.prog.readableRec t && decide (t < Tryd.prog.types.size)) = true := by kernel_rfl

/-- the library's table stands where it is looked for -/
theorem wok_of {W : World} (h : laidMetH Tryd.prog Rows.fnExactChangeLineRow.laid W) : Wok W := by
  rw [MakeChecks.laidMetH_plain _ _ _ (by kernel_rfl)] at h
  obtain ⟨ps, ⟨_, _, _, _, _, _, _, _, _, _, ⟨_, _, _, _, _, _, _, _, _, _, ⟨g, t, cs, fuel, p, q, hg, ht, hvar, hd, _, _⟩, _⟩, _⟩, _⟩ := h
  obtain rfl := Option.some.inj ((show Tryd.prog.globalNamed "internal/strconv.uint64pow10" = some 0 by kernel_rfl).symm.trans hg)
  obtain rfl := Option.some.inj ((show (Tryd.prog.globals[0]?).map (·.type) = some 48 by kernel_rfl).symm.trans ht)
  have hcs := Lib.cells_of_tab (k := .u64) (zs := Lib.pow10Tab) (n := 20) (e := 41) Tryd.underlying48 Tryd.underlying41 (by kernel_rfl) (by kernel_rfl) hd
  intro p hp
  cases hp
  unfold World.var? at hvar
  rw [hg, Option.bind_some] at hvar
  split at hvar
  · rename_i cs' T fz hb
    have e := Option.some.inj hvar
    refine ⟨T, fz, ?_⟩
    show W.heap[0]? = _
    rw [hb, e]
    congr 2
    apply Array.toList_inj.1
    rw [hcs]
  · cases hvar

set_option maxRecDepth 100000 in
theorem fnExactChangeLine_lifted (os : Os) (started : os.Started) (H : Type) (enc : TypeId × Value → H) :
    ReturnsInHanded {} Tryd.checked os 3 .any (fun w args => (Rows.fnExactChangeLineSpec.pre enc Tryd.prog Tryd.f3 [] false w args ∧ laidMetH Tryd.prog Rows.fnExactChangeLineRow.laid w) ∧ sizedMet enc Tryd.prog Tryd.f3 (OpenSpec.ofChange Rows.fnExactChangeLineSpec) false w args)
      (Rows.fnExactChangeLineSpec.post enc Tryd.prog Tryd.f3 false true false false) := by
  refine returnsInHanded_of_change_and (C := Tryd.checked) (X := fun w _ => laidMetH Tryd.prog Rows.fnExactChangeLineRow.laid w) (fun _ _ _ hh h => h.of_heap hh) Tryd.own started (by kernel_rfl) Tryd.func3
    (ChangeSpec.witness_shaped (enc := enc) (C := Tryd.checked) (os := os) (X := fun w _ => laidMetH Tryd.prog Rows.fnExactChangeLineRow.laid w) false (World.laidAll Tryd.prog os Rows.fnExactChangeLineRow.laid) #[.agg #[.int .i64 0, .int .i64 0, .int .i64 0, .int .i64 0]] 8 (World.laidAll_os _ _ _)
      (World.shaped_of_ZipB (by kernel_rfl) (by kernel_rfl)) (by kernel_rfl) (by kernel_rfl) (by kernel_rfl)
      (by rw [MakeChecks.laidMetH_plain _ _ _ (by kernel_rfl)]; exact laidMet_laidAll _ (by kernel_rfl) (by kernel_rfl))) ?_
  intro W base args ds gs before hval0 hW hcnd _ hL _
  have hval : ∀ (j : Nat) t v, Tryd.f3.params.toList[j]? = some t → args[j]? = some v → Value.okWide Tryd.prog W .any base t v := fun j t v h1 h2 => hval0 j t v (by simpa using h1) h2
  have hW' := hW
  obtain ⟨p, q, hA0, hV, rfl, hfz, hnd⟩ := hW'
  obtain ⟨rfl, rfl⟩ := trodVars_none hV
  have hA : DataW.TrodAll enc Tryd.prog W 0 (fun _ => true) true Tryd.f3.params.toList args.toList ds p := hA0
  refine (law_calls (ps := S3.ps) (g := G3) c3 p3 (base := base) parsChangeLine hA hval (wok_of hL)).mono fun e W' => ?_
  rintro ⟨rfl, hb⟩
  refine ⟨_, rfl, ?_⟩
  refine law_post (P := Tryd.prog) (tb := 4) hW rfl ?_ rfl (by kernel_rfl) Tryd.laidOut readChangeLine hb
  obtain ⟨v0, d0, _, rfl, _⟩ := trodAll_one (t := 23) hA
  rfl

theorem fnExactChangeLine_row : Rows.FnExactChangeLineSaid :=
  OpenClaim.holds_of_wide 3 Tryd.f3 rfl rfl rfl rfl rfl rfl rfl ⟨rfl, rfl, rfl, rfl, rfl⟩ rfl rfl rfl rfl rfl (by kernel_rfl) Tryd.func3 (by kernel_rfl)
    (of_decide_eq_true (by kernel_rfl)) (by unfold Func.isWrapper; first | (rw [if_pos (by decide +kernel)]; kernel_rfl) | (rw [if_neg (by decide +kernel)]; exact ⟨rfl, rfl⟩))
    (fun os started H enc _ => fnExactChangeLine_lifted os started H enc)
theorem fnExactChangeLine_holds : Rows.FnExactChangeLineCardSaid :=
  Claim7.holds_tied_plain_at .later [] [.data, .data, .data] true (true, "ca865f8136ce237f5a5d743ff33caa9f208d8969c452146e1c986ec52918a6ad") false fnExactChangeLine_row (fun _ h => by cases h) (by kernel_rfl) (fun _ h => by cases h) fnExactChangeLine_row_tie rfl ⟨rfl, rfl⟩ (by kernel_rfl) rfl
    (fun f fn hf hfn => by
      obtain rfl : f = 3 := Option.some.inj ((show Tryd.prog.funcNamed "loop.example/g01083/laws.FnExactChangeLine" = some 3 by kernel_rfl).symm.trans hf) |>.symm
      obtain rfl : fn = Tryd.f3 := (Option.some.inj (Tryd.func3.symm.trans hfn)).symm
      exact ⟨by kernel_rfl, fun j t ht => by
        rw [Tryd.params3] at ht
        have hm : t ∈ [23] := by simpa using Array.mem_of_getElem? ht
        have hall : ([23].all fun u => !Tryd.prog.wantsStandIn u) = true := by kernel_rfl
        exact (show Tryd.prog.wantsStandIn t = false by simpa using List.all_eq_true.1 hall t hm)⟩)
    (by kernel_rfl)
end Go.Proofs.YtboplgfklkoijaaDoor

