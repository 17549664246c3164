/-
  HomeShortest answers true for every input and leaves its arguments as they were; no condition.
-/
import Derived.Test.YtkpoffjimfiabaaS19
import Derived.Test.YtkpoffjimfiabaaF4
import Derived.Test.YtkpoffjimfiabaaRows
import Derived.WalkKit
import Derived.JoinedOf
set_option linter.unusedVariables false
set_option linter.unusedSimpArgs false
set_option linter.unusedSectionVars false
set_option linter.unnecessarySimpa false

section
namespace Go.Proofs.Ytkpoffjimfiabaa.homeShortest
open Go Go.AM Go.ChangeShapes Go.WideShapes Go.ChangeAt Go.RowKit
theorem own : ownKnob Try.prog.godebug = none := by kernel_rfl
theorem laid : laidOutB Try.prog = true := by kernel_rfl
theorem rowed : paramsRowed Try.prog Try.f6.params.toList = true := by kernel_rfl
set_option maxRecDepth 100000 in
theorem lifted (os : Os) (started : os.Started) (H : Type) (enc : TypeId × Value → H) :
  ReturnsInHanded {} Try.checked os 6 .any (Rows.homeShortestSpec.pre6 enc Try.prog Try.f6 Rows.homeShortestRow.domain false) (Rows.homeShortestSpec.post enc Try.prog Try.f6 false true false false) := by
 refine returnsInHanded_of_change_sized (C := Try.checked) own started (by kernel_rfl) Try.func6
  (ChangeSpec.witness6 (enc := enc) (C := Try.checked) false ⟨#[], #[.agg #[.slice none 0 0, .slice none 0 0]], []⟩ 8 (by kernel_rfl) (by kernel_rfl) (by kernel_rfl) (by kernel_rfl)) ?_
 intro W base args ds gs before hval hW _ hz _
 have hW' := hW
 obtain ⟨p, q, hA0, hV, rfl, hfz, hnd⟩ := hW
 have hA : DataW.TrodAll enc Try.prog W 0 (fun _ => true) true Try.f6.params.toList args.toList ds p := hA0
 rw [Try.params6] at hA hval
 obtain ⟨v0, vs0, d0, ds0, p0, q0, hargs, rfl, rfl, h0, r0⟩ := trodAll_cons hA
 obtain ⟨rfl, rfl, rfl⟩ := trodAll_nil r0
 obtain rfl : args = #[v0] := by cases args; simp_all
 obtain ⟨rfl, rfl⟩ := trodVars_none hV
 obtain ⟨N0, O0, hR0, hl0, hm0, hl0b, hm0b⟩ := pv_mealy Try.underlying24 (by kernel_rfl) (by kernel_rfl) Try.underlying22 Try.underlying25 Try.underlying3 (by kernel_rfl) (by kernel_rfl) (by kernel_rfl) (by kernel_rfl) rfl (hval 0 24 v0 rfl rfl) h0 (light_of (j := 0) hz rfl rfl)
 clear hA0 hA r0 hval hz
 refine calls_true ((lawHomeShortest N0 O0 (by omega) (fun r hr => by have := hm0 r hr; omega) (by omega) (fun r hr => by have := hm0b r hr; omega)).mono fun _ _ h => h.1) rfl (fun c hc => ?_) fun W' hb => ⟨_, rfl, ?_⟩
 ·match c, hc with
  | 0, _ => exact hR0
 ·exact post_true (tb := 4) laid rowed rfl rfl Try.underlying4 hW' hb rfl
theorem holds : Rows.HomeShortestSaid :=
 OpenClaim.holds_of_wide 6 Try.f6 rfl rfl rfl rfl rfl rfl rfl ⟨rfl, rfl, rfl, rfl, rfl⟩ rfl rfl rfl rfl rfl (by kernel_rfl) Try.func6 (by kernel_rfl)
  (of_decide_eq_true (by kernel_rfl)) (by unfold Func.isWrapper; first | (rw [if_pos (by decide +kernel)]; kernel_rfl) | (rw [if_neg (by decide +kernel)]; exact ⟨rfl, rfl⟩))
  (fun os started H enc _ => lifted os started H enc)
end Go.Proofs.Ytkpoffjimfiabaa.homeShortest
#print axioms Go.Proofs.Ytkpoffjimfiabaa.homeShortest.holds
end
