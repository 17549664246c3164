/-
  MealyShort answers true for every input and leaves its arguments as they were; no condition.
-/
import Derived.Test.YthgglfpklgjibaaDoorS13
import Derived.Test.YthgglfpklgjibaaDoorF4
import Derived.Test.YthgglfpklgjibaaDoorRows
import Derived.WalkKit
import Derived.JoinedOf
import Derived.Test.YthgglfpklgjibaaDoorTie
import Derived.Test.YthgglfpklgjibaaDoorCards
import Derived.Lay
import Derived.LaidMore
import Derived.SevenTiedAt
import Derived.Stop.Joined
set_option linter.unusedVariables false
set_option linter.unusedSimpArgs false
set_option linter.unusedSectionVars false

/-! text UdCMealyShort -/
section
namespace Go.Proofs.YthgglfpklgjibaaDoor.mealyShort
open Go Go.AM Go.ChangeShapes Go.WideShapes Go.ChangeAt Go.RowKit
theorem own : ownKnob Tryd.prog.godebug = none := by kernel_rfl
theorem laid : laidOutB Tryd.prog = true := by kernel_rfl
theorem rowed : paramsRowed Tryd.prog Tryd.f9.params.toList = true := by kernel_rfl
set_option maxRecDepth 100000 in
theorem lifted (os : Os) (started : os.Started) (H : Type) (enc : TypeId × Value → H) :
    ReturnsInHanded {} Tryd.checked os 9 .any (fun w args => (Rows.mealyShortSpec.pre enc Tryd.prog Tryd.f9 Rows.mealyShortRow.domain false w args ∧ laidMetH Tryd.prog Rows.mealyShortRow.laid w) ∧ sizedMet enc Tryd.prog Tryd.f9 (OpenSpec.ofChange Rows.mealyShortSpec) false w args) (Rows.mealyShortSpec.post enc Tryd.prog Tryd.f9 false true false false) := by
  refine returnsInHanded_of_change_and (C := Tryd.checked) (X := fun w _ => laidMetH Tryd.prog Rows.mealyShortRow.laid w) (fun _ _ _ hh h => h.of_heap hh) own started (by kernel_rfl) Tryd.func9
    (ChangeSpec.witness_shaped (enc := enc) (C := Tryd.checked) (os := os) (X := fun w _ => laidMetH Tryd.prog Rows.mealyShortRow.laid w) false (World.laidAll Tryd.prog os Rows.mealyShortRow.laid) #[.agg #[.slice none 0 0, .slice none 0 0], .int .i64 0, .agg #[.slice none 0 0, .slice none 0 0], .int .i64 0, .slice none 0 0] 8 (World.laidAll_os _ _ _)
      (World.shaped_of_ZipB (by kernel_rfl) (by kernel_rfl)) (by kernel_rfl) (by kernel_rfl) (by kernel_rfl)
      (by rw [MakeChecks.laidMetH_plain _ _ _ (by kernel_rfl)]; exact laidMet_laidAll _ (by kernel_rfl) (by kernel_rfl))) ?_
  intro W base args ds gs before hval0 hW _ hz _ _
  have hval : ∀ (j : Nat) t v, Tryd.f9.params[j]? = some t → args[j]? = some v → Value.okWide Tryd.prog W .any base t v := hval0
  have hW' := hW
  obtain ⟨p, q, hA0, hV, rfl, hfz, hnd⟩ := hW
  have hA : DataW.TrodAll enc Tryd.prog W 0 (fun _ => true) true Tryd.f9.params.toList args.toList ds p := hA0
  rw [Tryd.params9] at hA hval
  obtain ⟨v0, vs0, d0, ds0, p0, q0, hargs, rfl, rfl, h0, r0⟩ := trodAll_cons hA
  obtain ⟨v1, vs1, d1, ds1, p1, q1, rfl, rfl, rfl, h1, r1⟩ := trodAll_cons r0
  obtain ⟨v2, vs2, d2, ds2, p2, q2, rfl, rfl, rfl, h2, r2⟩ := trodAll_cons r1
  obtain ⟨v3, vs3, d3, ds3, p3, q3, rfl, rfl, rfl, h3, r3⟩ := trodAll_cons r2
  obtain ⟨v4, vs4, d4, ds4, p4, q4, rfl, rfl, rfl, h4, r4⟩ := trodAll_cons r3
  obtain ⟨rfl, rfl, rfl⟩ := trodAll_nil r4
  obtain rfl : args = #[v0, v1, v2, v3, v4] := by cases args; simp_all
  obtain ⟨rfl, rfl⟩ := trodVars_none hV
  obtain ⟨N0, O0, hR0, hl0, hm0, hl0b, hm0b⟩ := pv_mealy Tryd.underlying24 (by kernel_rfl) (by kernel_rfl) Tryd.underlying22 Tryd.underlying27 Tryd.underlying3 (by kernel_rfl) (by kernel_rfl) (by kernel_rfl) (by kernel_rfl) rfl (hval 0 24 v0 rfl rfl) h0 (light_of (j := 0) hz rfl rfl)
  obtain ⟨x1, rfl, rfl, rfl, wx1⟩ := open_int Tryd.underlying3 (hval 1 3 v1 rfl rfl) h1
  obtain ⟨N2, O2, hR2, hl2, hm2, hl2b, hm2b⟩ := pv_mealy Tryd.underlying24 (by kernel_rfl) (by kernel_rfl) Tryd.underlying22 Tryd.underlying27 Tryd.underlying3 (by kernel_rfl) (by kernel_rfl) (by kernel_rfl) (by kernel_rfl) rfl (hval 2 24 v2 rfl rfl) h2 (light_of (j := 2) hz rfl rfl)
  obtain ⟨x3, rfl, rfl, rfl, wx3⟩ := open_int Tryd.underlying3 (hval 3 3 v3 rfl rfl) h3
  obtain ⟨w4, hR4, _, hl4⟩ := pv_ints_at Tryd.underlying27 Tryd.underlying3 (by kernel_rfl) (by kernel_rfl) (hval 4 27 v4 rfl rfl) h4 (light_of (j := 4) hz rfl rfl)
  clear hA0 hA r0 r1 r2 r3 r4 hval hz
  refine calls_true ((lawMealyShort N0 O0 x1 N2 O2 x3 w4 (by omega) (fun r hr => by have := hm0 r hr; omega) (by omega) (fun r hr => by have := hm0b r hr; omega) (by omega) (fun r hr => by have := hm2 r hr; omega) (by omega) (fun r hr => by have := hm2b r hr; omega) (by omega)).mono fun _ _ h => h.1) rfl (fun c hc => ?_) fun W' hb => ⟨_, rfl, ?_⟩
  · match c, hc with
    | 0, _ => exact hR0
    | 1, _ => exact .int _ _
    | 2, _ => exact hR2
    | 3, _ => exact .int _ _
    | 4, _ => exact hR4
  · exact post_true (tb := 4) laid rowed rfl rfl Tryd.underlying4 hW' hb rfl
theorem holds0 : Rows.MealyShortSaid :=
  OpenClaim.holds_of_wide 9 Tryd.f9 rfl rfl rfl rfl rfl rfl rfl ⟨rfl, rfl, rfl, rfl, rfl⟩ rfl rfl rfl rfl rfl (by kernel_rfl) Tryd.func9 (by kernel_rfl)
    (of_decide_eq_true (by kernel_rfl)) (by unfold Func.isWrapper; first | (rw [if_pos (by decide +kernel)]; kernel_rfl) | (rw [if_neg (by decide +kernel)]; exact ⟨rfl, rfl⟩))
    (fun os started H enc _ => lifted os started H enc)
theorem holds : Rows.MealyShortCardSaid :=
  Claim7.holds_tied_plain_at .later [] [.data, .data, .data, .data, .sentinel, .sentinel, .pinned] true (true, "f6ff7ae8fdf5460903a4941cd728babb160e5fe816e3518d3221f185dbed9e42") true holds0 (fun _ h => by cases h) (by kernel_rfl) (fun _ h => by cases h) mealyShort_row_tie rfl ⟨rfl, rfl⟩ (by kernel_rfl) rfl
    (fun f fn hf hfn => by
      obtain rfl : f = 9 := Option.some.inj ((show Tryd.prog.funcNamed "mizmaze/mizmazelaw07.MealyShort" = some 9 by kernel_rfl).symm.trans hf) |>.symm
      obtain rfl : fn = Tryd.f9 := (Option.some.inj (Tryd.func9.symm.trans hfn)).symm
      exact ⟨by kernel_rfl, fun j t ht => by
        rw [Tryd.params9] at ht
        have hm : t ∈ [24, 3, 24, 3, 27] := by simpa using Array.mem_of_getElem? ht
        have hall : ([24, 3, 24, 3, 27].all fun u => !Tryd.prog.wantsStandIn u) = true := by kernel_rfl
        exact (show Tryd.prog.wantsStandIn t = false by simpa using List.all_eq_true.1 hall t hm)⟩)
    (by kernel_rfl)
end Go.Proofs.YthgglfpklgjibaaDoor.mealyShort
#print axioms Go.Proofs.YthgglfpklgjibaaDoor.mealyShort.holds
end
