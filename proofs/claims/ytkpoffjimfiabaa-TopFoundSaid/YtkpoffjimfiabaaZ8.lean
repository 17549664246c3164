/-
  TopFound answers true for every input and leaves its arguments as they were; no condition.
-/
import Derived.Test.YtkpoffjimfiabaaS17
import Derived.Test.YtkpoffjimfiabaaF4
import Derived.Test.YtkpoffjimfiabaaRows
import Derived.WalkKit
import Derived.JoinedOf
set_option linter.unusedVariables false
set_option linter.unusedSimpArgs false
set_option linter.unusedSectionVars false
set_option linter.unnecessarySimpa false

section
namespace Go.Proofs.Ytkpoffjimfiabaa.topFound
open Go Go.AM Go.ChangeShapes Go.WideShapes Go.ChangeAt Go.RowKit
theorem own : ownKnob Try.prog.godebug = none := by kernel_rfl
theorem laid : laidOutB Try.prog = true := by kernel_rfl
theorem rowed : paramsRowed Try.prog Try.f11.params.toList = true := by kernel_rfl
set_option maxRecDepth 100000 in
theorem lifted (os : Os) (started : os.Started) (H : Type) (enc : TypeId × Value → H) :
  ReturnsInHanded {} Try.checked os 11 .any (Rows.topFoundSpec.pre6 enc Try.prog Try.f11 Rows.topFoundRow.domain false) (Rows.topFoundSpec.post enc Try.prog Try.f11 false true false false) := by
 refine returnsInHanded_of_change_sized (C := Try.checked) own started (by kernel_rfl) Try.func11
  (ChangeSpec.witness6 (enc := enc) (C := Try.checked) false ⟨#[], #[.agg #[.slice none 0 0], .slice none 0 0, .agg #[.int .i64 0, .int .i64 0, .slice none 0 0]], []⟩ 8 (by kernel_rfl) (by kernel_rfl) (by kernel_rfl) (by kernel_rfl)) ?_
 intro W base args ds gs before hval hW _ hz _
 have hW' := hW
 obtain ⟨p, q, hA0, hV, rfl, hfz, hnd⟩ := hW
 have hA : DataW.TrodAll enc Try.prog W 0 (fun _ => true) true Try.f11.params.toList args.toList ds p := hA0
 rw [Try.params11] at hA hval
 obtain ⟨v0, vs0, d0, ds0, p0, q0, hargs, rfl, rfl, h0, r0⟩ := trodAll_cons hA
 obtain ⟨v1, vs1, d1, ds1, p1, q1, rfl, rfl, rfl, h1, r1⟩ := trodAll_cons r0
 obtain ⟨v2, vs2, d2, ds2, p2, q2, rfl, rfl, rfl, h2, r2⟩ := trodAll_cons r1
 obtain ⟨rfl, rfl, rfl⟩ := trodAll_nil r2
 obtain rfl : args = #[v0, v1, v2] := by cases args; simp_all
 obtain ⟨rfl, rfl⟩ := trodVars_none hV
 obtain ⟨R0, hR0, _, hl0, hm0⟩ := pv_auto Try.underlying43 (by kernel_rfl) (by kernel_rfl) Try.underlying22 Try.underlying25 Try.underlying3 (by kernel_rfl) (by kernel_rfl) (by kernel_rfl) (by kernel_rfl) (hval 0 43 v0 rfl rfl)  h0 (light_of (j := 0) hz rfl rfl)
 obtain ⟨w1, hR1, _, hl1⟩ := pv_ints_at Try.underlying25 Try.underlying3 (by kernel_rfl) (by kernel_rfl) (hval 1 25 v1 rfl rfl) h1 (light_of (j := 1) hz rfl rfl)
 obtain ⟨x2, y2, w2, hR2, hl2⟩ := pv_way Try.underlying50 (by kernel_rfl) (by kernel_rfl) Try.underlying3 Try.underlying3 Try.underlying25 Try.underlying3 (by kernel_rfl) (by kernel_rfl) (hval 2 50 v2 rfl rfl) h2 (light_of (j := 2) hz rfl rfl)
 clear hA0 hA r0 r1 r2 hval hz
 refine calls_true ((lawTopFound R0 w1 x2 y2 w2 (by omega) (fun r hr => by have := hm0 r hr; omega) (by omega) (by omega)).mono fun _ _ h => h.1) rfl (fun c hc => ?_) fun W' hb => ⟨_, rfl, ?_⟩
 ·match c, hc with
  | 0, _ => exact hR0
  | 1, _ => exact hR1
  | 2, _ => exact hR2
 ·exact post_true (tb := 4) laid rowed rfl rfl Try.underlying4 hW' hb rfl
theorem holds : Rows.TopFoundSaid :=
 OpenClaim.holds_of_wide 11 Try.f11 rfl rfl rfl rfl rfl rfl rfl ⟨rfl, rfl, rfl, rfl, rfl⟩ rfl rfl rfl rfl rfl (by kernel_rfl) Try.func11 (by kernel_rfl)
  (of_decide_eq_true (by kernel_rfl)) (by unfold Func.isWrapper; first | (rw [if_pos (by decide +kernel)]; kernel_rfl) | (rw [if_neg (by decide +kernel)]; exact ⟨rfl, rfl⟩))
  (fun os started H enc _ => lifted os started H enc)
end Go.Proofs.Ytkpoffjimfiabaa.topFound
#print axioms Go.Proofs.Ytkpoffjimfiabaa.topFound.holds
end
