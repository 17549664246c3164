/-
  AutoNames answers true for every input and leaves its arguments as they were; no condition.
-/
import Derived.Test.YtnfflhaehdehaaaGreatDoorS8
import Derived.Test.YtnfflhaehdehaaaGreatDoorF4
import Derived.Test.YtnfflhaehdehaaaGreatDoorRows
import Derived.WalkKit
import Derived.JoinedOf
import Derived.Test.YtnfflhaehdehaaaGreatDoorTie
import Derived.Test.YtnfflhaehdehaaaGreatDoorCards
import Derived.Lay
import Derived.LaidMore
import Derived.SevenTiedAt
import Derived.Stop.Joined
set_option linter.unusedVariables false
set_option linter.unusedSimpArgs false
set_option linter.unusedSectionVars false

/-! text UaCAutoNames -/
section
namespace Go.Proofs.YtnfflhaehdehaaaGreatDoor.autoNames
open Go Go.AM Go.ChangeShapes Go.WideShapes Go.ChangeAt Go.RowKit
theorem own : ownKnob Tryz.prog.godebug = none := by kernel_rfl
theorem laid : laidOutB Tryz.prog = true := by kernel_rfl
theorem rowed : paramsRowed Tryz.prog Tryz.f8.params.toList = true := by kernel_rfl
set_option maxRecDepth 100000 in
theorem lifted (os : Os) (started : os.Started) (H : Type) (enc : TypeId × Value → H) :
    ReturnsInHanded {} Tryz.checked os 8 .any (fun w args => (Rows.autoNamesSpec.pre enc Tryz.prog Tryz.f8 Rows.autoNamesRow.domain false w args ∧ laidMetH Tryz.prog Rows.autoNamesRow.laid w) ∧ sizedMet enc Tryz.prog Tryz.f8 (OpenSpec.ofChange Rows.autoNamesSpec) false w args) (Rows.autoNamesSpec.post enc Tryz.prog Tryz.f8 false true false false) := by
  refine returnsInHanded_of_change_and (C := Tryz.checked) (X := fun w _ => laidMetH Tryz.prog Rows.autoNamesRow.laid w) (fun _ _ _ hh h => h.of_heap hh) own started (by kernel_rfl) Tryz.func8
    (ChangeSpec.witness_shaped (enc := enc) (C := Tryz.checked) (os := os) (X := fun w _ => laidMetH Tryz.prog Rows.autoNamesRow.laid w) false (World.laidAll Tryz.prog os Rows.autoNamesRow.laid) #[.agg #[.slice none 0 0], .int .i64 0, .slice none 0 0, .slice none 0 0, .slice none 0 0] 8 (World.laidAll_os _ _ _)
      (World.shaped_of_ZipB (by kernel_rfl) (by kernel_rfl)) (by kernel_rfl) (by kernel_rfl) (by kernel_rfl)
      (by rw [MakeChecks.laidMetH_plain _ _ _ (by kernel_rfl)]; exact laidMet_laidAll _ (by kernel_rfl) (by kernel_rfl))) ?_
  intro W base args ds gs before hval0 hW _ hz _ _
  have hval : ∀ (j : Nat) t v, Tryz.f8.params[j]? = some t → args[j]? = some v → Value.okWide Tryz.prog W .any base t v := hval0
  have hW' := hW
  obtain ⟨p, q, hA0, hV, rfl, hfz, hnd⟩ := hW
  have hA : DataW.TrodAll enc Tryz.prog W 0 (fun _ => true) true Tryz.f8.params.toList args.toList ds p := hA0
  rw [Tryz.params8] at hA hval
  obtain ⟨v0, vs0, d0, ds0, p0, q0, hargs, rfl, rfl, h0, r0⟩ := trodAll_cons hA
  obtain ⟨v1, vs1, d1, ds1, p1, q1, rfl, rfl, rfl, h1, r1⟩ := trodAll_cons r0
  obtain ⟨v2, vs2, d2, ds2, p2, q2, rfl, rfl, rfl, h2, r2⟩ := trodAll_cons r1
  obtain ⟨v3, vs3, d3, ds3, p3, q3, rfl, rfl, rfl, h3, r3⟩ := trodAll_cons r2
  obtain ⟨v4, vs4, d4, ds4, p4, q4, rfl, rfl, rfl, h4, r4⟩ := trodAll_cons r3
  obtain ⟨rfl, rfl, rfl⟩ := trodAll_nil r4
  obtain rfl : args = #[v0, v1, v2, v3, v4] := by cases args; simp_all
  obtain ⟨rfl, rfl⟩ := trodVars_none hV
  obtain ⟨R0, hR0, _, hl0, hm0⟩ := pv_auto Tryz.underlying24 (by kernel_rfl) (by kernel_rfl) Tryz.underlying22 Tryz.underlying25 Tryz.underlying3 (by kernel_rfl) (by kernel_rfl) (by kernel_rfl) (by kernel_rfl) (hval 0 24 v0 rfl rfl)  h0 (light_of (j := 0) hz rfl rfl)
  obtain ⟨x1, rfl, rfl, rfl, wx1⟩ := open_int Tryz.underlying3 (hval 1 3 v1 rfl rfl) h1
  obtain ⟨w2, hR2, _, hl2⟩ := pv_ints_at Tryz.underlying25 Tryz.underlying3 (by kernel_rfl) (by kernel_rfl) (hval 2 25 v2 rfl rfl) h2 (light_of (j := 2) hz rfl rfl)
  obtain ⟨M3, hR3, _, hl3, hm3⟩ := pv_rows_at Tryz.underlying22 Tryz.underlying25 Tryz.underlying3 (by kernel_rfl) (by kernel_rfl) (by kernel_rfl) (by kernel_rfl) (hval 3 22 v3 rfl rfl) h3 (light_of (j := 3) hz rfl rfl)
  obtain ⟨w4, hR4, _, hl4⟩ := pv_ints_at Tryz.underlying25 Tryz.underlying3 (by kernel_rfl) (by kernel_rfl) (hval 4 25 v4 rfl rfl) h4 (light_of (j := 4) hz rfl rfl)
  clear hA0 hA r0 r1 r2 r3 r4 hval hz
  refine calls_true ((lawAutoNames R0 x1 w2 M3 w4 (by omega) (fun r hr => by have := hm0 r hr; omega) (by omega) (by omega) (fun r hr => by have := hm3 r hr; omega) (by omega)).mono fun _ _ h => h.1) rfl (fun c hc => ?_) fun W' hb => ⟨_, rfl, ?_⟩
  · match c, hc with
    | 0, _ => exact hR0
    | 1, _ => exact .int _ _
    | 2, _ => exact hR2
    | 3, _ => exact hR3
    | 4, _ => exact hR4
  · exact post_true (tb := 4) laid rowed rfl rfl Tryz.underlying4 hW' hb rfl
theorem holds0 : Rows.AutoNamesSaid :=
  OpenClaim.holds_of_wide 8 Tryz.f8 rfl rfl rfl rfl rfl rfl rfl ⟨rfl, rfl, rfl, rfl, rfl⟩ rfl rfl rfl rfl rfl (by kernel_rfl) Tryz.func8 (by kernel_rfl)
    (of_decide_eq_true (by kernel_rfl)) (by unfold Func.isWrapper; first | (rw [if_pos (by decide +kernel)]; kernel_rfl) | (rw [if_neg (by decide +kernel)]; exact ⟨rfl, rfl⟩))
    (fun os started H enc _ => lifted os started H enc)
theorem holds : Rows.AutoNamesCardSaid :=
  Claim7.holds_tied_plain_at .later [] [.data, .data, .data, .data, .sentinel, .sentinel, .pinned] true (true, "7223ebd498cec74ba500faa2af9a924b3c65b545e0cb0d92db824d3ebd1e5d03") true holds0 (fun _ h => by cases h) (by kernel_rfl) (fun _ h => by cases h) autoNames_row_tie rfl ⟨rfl, rfl⟩ (by kernel_rfl) rfl
    (fun f fn hf hfn => by
      obtain rfl : f = 8 := Option.some.inj ((show Tryz.prog.funcNamed "mizmaze/mizmazelaw01.AutoNames" = some 8 by kernel_rfl).symm.trans hf) |>.symm
      obtain rfl : fn = Tryz.f8 := (Option.some.inj (Tryz.func8.symm.trans hfn)).symm
      exact ⟨by kernel_rfl, fun j t ht => by
        rw [Tryz.params8] at ht
        have hm : t ∈ [24, 3, 25, 22, 25] := by simpa using Array.mem_of_getElem? ht
        have hall : ([24, 3, 25, 22, 25].all fun u => !Tryz.prog.wantsStandIn u) = true := by kernel_rfl
        exact (show Tryz.prog.wantsStandIn t = false by simpa using List.all_eq_true.1 hall t hm)⟩)
    (by kernel_rfl)
end Go.Proofs.YtnfflhaehdehaaaGreatDoor.autoNames
#print axioms Go.Proofs.YtnfflhaehdehaaaGreatDoor.autoNames.holds
end
