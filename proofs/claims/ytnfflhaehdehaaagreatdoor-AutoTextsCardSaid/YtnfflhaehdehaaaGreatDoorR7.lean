/-
  AutoTexts answers true for every input and leaves its arguments as they were; no condition.
-/
import Derived.Test.YtnfflhaehdehaaaGreatDoorS9
import Derived.Test.YtnfflhaehdehaaaGreatDoorF4
import Derived.Test.YtnfflhaehdehaaaGreatDoorRows
import Derived.WalkKit
import Derived.JoinedOf
import Derived.Test.YtnfflhaehdehaaaGreatDoorTie
import Derived.Test.YtnfflhaehdehaaaGreatDoorCards
import Derived.Lay
import Derived.LaidMore
import Derived.SevenTiedAt
import Derived.Stop.Joined
set_option linter.unusedVariables false
set_option linter.unusedSimpArgs false
set_option linter.unusedSectionVars false

/-! text UaCAutoTexts -/
section
namespace Go.Proofs.YtnfflhaehdehaaaGreatDoor.autoTexts
open Go Go.AM Go.ChangeShapes Go.WideShapes Go.ChangeAt Go.RowKit
theorem own : ownKnob Tryz.prog.godebug = none := by kernel_rfl
theorem laid : laidOutB Tryz.prog = true := by kernel_rfl
theorem rowed : paramsRowed Tryz.prog Tryz.f9.params.toList = true := by kernel_rfl
set_option maxRecDepth 100000 in
theorem lifted (os : Os) (started : os.Started) (H : Type) (enc : TypeId × Value → H) :
    ReturnsInHanded {} Tryz.checked os 9 .any (fun w args => (Rows.autoTextsSpec.pre enc Tryz.prog Tryz.f9 Rows.autoTextsRow.domain false w args ∧ laidMetH Tryz.prog Rows.autoTextsRow.laid w) ∧ sizedMet enc Tryz.prog Tryz.f9 (OpenSpec.ofChange Rows.autoTextsSpec) false w args) (Rows.autoTextsSpec.post enc Tryz.prog Tryz.f9 false true false false) := by
  refine returnsInHanded_of_change_and (C := Tryz.checked) (X := fun w _ => laidMetH Tryz.prog Rows.autoTextsRow.laid w) (fun _ _ _ hh h => h.of_heap hh) own started (by kernel_rfl) Tryz.func9
    (ChangeSpec.witness_shaped (enc := enc) (C := Tryz.checked) (os := os) (X := fun w _ => laidMetH Tryz.prog Rows.autoTextsRow.laid w) false (World.laidAll Tryz.prog os Rows.autoTextsRow.laid) #[.agg #[.slice none 0 0], .string ByteArray.empty] 8 (World.laidAll_os _ _ _)
      (World.shaped_of_ZipB (by kernel_rfl) (by kernel_rfl)) (by kernel_rfl) (by kernel_rfl) (by kernel_rfl)
      (by rw [MakeChecks.laidMetH_plain _ _ _ (by kernel_rfl)]; exact laidMet_laidAll _ (by kernel_rfl) (by kernel_rfl))) ?_
  intro W base args ds gs before hval0 hW _ hz _ _
  have hval : ∀ (j : Nat) t v, Tryz.f9.params[j]? = some t → args[j]? = some v → Value.okWide Tryz.prog W .any base t v := hval0
  have hW' := hW
  obtain ⟨p, q, hA0, hV, rfl, hfz, hnd⟩ := hW
  have hA : DataW.TrodAll enc Tryz.prog W 0 (fun _ => true) true Tryz.f9.params.toList args.toList ds p := hA0
  rw [Tryz.params9] at hA hval
  obtain ⟨v0, vs0, d0, ds0, p0, q0, hargs, rfl, rfl, h0, r0⟩ := trodAll_cons hA
  obtain ⟨v1, vs1, d1, ds1, p1, q1, rfl, rfl, rfl, h1, r1⟩ := trodAll_cons r0
  obtain ⟨rfl, rfl, rfl⟩ := trodAll_nil r1
  obtain rfl : args = #[v0, v1] := by cases args; simp_all
  obtain ⟨rfl, rfl⟩ := trodVars_none hV
  obtain ⟨R0, hR0, _, hl0, hm0⟩ := pv_auto Tryz.underlying24 (by kernel_rfl) (by kernel_rfl) Tryz.underlying22 Tryz.underlying25 Tryz.underlying3 (by kernel_rfl) (by kernel_rfl) (by kernel_rfl) (by kernel_rfl) (hval 0 24 v0 rfl rfl)  h0 (light_of (j := 0) hz rfl rfl)
  obtain ⟨s1, rfl, hl1⟩ := pv_str_at Tryz.underlying9 (hval 1 9 v1 rfl rfl) h1 (light_of (j := 1) hz rfl rfl)
  clear hA0 hA r0 r1 hval hz
  refine calls_true ((lawAutoTexts R0 s1.data.toList (by omega) (fun r hr => by have := hm0 r hr; omega) (by omega)).mono fun _ _ h => h.1) rfl (fun c hc => ?_) fun W' hb => ⟨_, rfl, ?_⟩
  · match c, hc with
    | 0, _ => exact hR0
    | 1, _ => exact by rw [← bs_of s1]; exact .str _
  · exact post_true (tb := 4) laid rowed rfl rfl Tryz.underlying4 hW' hb rfl
theorem holds0 : Rows.AutoTextsSaid :=
  OpenClaim.holds_of_wide 9 Tryz.f9 rfl rfl rfl rfl rfl rfl rfl ⟨rfl, rfl, rfl, rfl, rfl⟩ rfl rfl rfl rfl rfl (by kernel_rfl) Tryz.func9 (by kernel_rfl)
    (of_decide_eq_true (by kernel_rfl)) (by unfold Func.isWrapper; first | (rw [if_pos (by decide +kernel)]; kernel_rfl) | (rw [if_neg (by decide +kernel)]; exact ⟨rfl, rfl⟩))
    (fun os started H enc _ => lifted os started H enc)
theorem holds : Rows.AutoTextsCardSaid :=
  Claim7.holds_tied_plain_at .later [] [.data, .data, .data, .data, .sentinel, .sentinel, .pinned] true (true, "7223ebd498cec74ba500faa2af9a924b3c65b545e0cb0d92db824d3ebd1e5d03") true holds0 (fun _ h => by cases h) (by kernel_rfl) (fun _ h => by cases h) autoTexts_row_tie rfl ⟨rfl, rfl⟩ (by kernel_rfl) rfl
    (fun f fn hf hfn => by
      obtain rfl : f = 9 := Option.some.inj ((show Tryz.prog.funcNamed "mizmaze/mizmazelaw01.AutoTexts" = some 9 by kernel_rfl).symm.trans hf) |>.symm
      obtain rfl : fn = Tryz.f9 := (Option.some.inj (Tryz.func9.symm.trans hfn)).symm
      exact ⟨by kernel_rfl, fun j t ht => by
        rw [Tryz.params9] at ht
        have hm : t ∈ [24, 9] := by simpa using Array.mem_of_getElem? ht
        have hall : ([24, 9].all fun u => !Tryz.prog.wantsStandIn u) = true := by kernel_rfl
        exact (show Tryz.prog.wantsStandIn t = false by simpa using List.all_eq_true.1 hall t hm)⟩)
    (by kernel_rfl)
end Go.Proofs.YtnfflhaehdehaaaGreatDoor.autoTexts
#print axioms Go.Proofs.YtnfflhaehdehaaaGreatDoor.autoTexts.holds
end
