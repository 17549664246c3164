/-
  HomeSeeks answers true for every input and leaves its arguments as they were; no condition.
-/
import Derived.Test.YtkpoffjimfiabaaGreatS10
import Derived.Test.YtkpoffjimfiabaaGreatF4
import Derived.Test.YtkpoffjimfiabaaGreatRows
import Derived.WalkKit
import Derived.JoinedOf
set_option linter.unusedVariables false
set_option linter.unusedSimpArgs false
set_option linter.unusedSectionVars false
set_option linter.unnecessarySimpa false

section
namespace Go.Proofs.YtkpoffjimfiabaaGreat.homeSeeks
open Go Go.AM Go.ChangeShapes Go.WideShapes Go.ChangeAt Go.RowKit
theorem own : ownKnob Tryz.prog.godebug = none := by kernel_rfl
theorem laid : laidOutB Tryz.prog = true := by kernel_rfl
theorem rowed : paramsRowed Tryz.prog Tryz.f3.params.toList = true := by kernel_rfl
set_option maxRecDepth 100000 in
theorem lifted (os : Os) (started : os.Started) (H : Type) (enc : TypeId × Value → H) :
  ReturnsInHanded {} Tryz.checked os 3 .any (Rows.homeSeeksSpec.pre6 enc Tryz.prog Tryz.f3 Rows.homeSeeksRow.domain false) (Rows.homeSeeksSpec.post enc Tryz.prog Tryz.f3 false true false false) := by
 refine returnsInHanded_of_change_sized (C := Tryz.checked) own started (by kernel_rfl) Tryz.func3
  (ChangeSpec.witness6 (enc := enc) (C := Tryz.checked) false ⟨#[], #[.agg #[.slice none 0 0, .slice none 0 0], .int .i64 0], []⟩ 8 (by kernel_rfl) (by kernel_rfl) (by kernel_rfl) (by kernel_rfl)) ?_
 intro W base args ds gs before hval hW _ hz _
 have hW' := hW
 obtain ⟨p, q, hA0, hV, rfl, hfz, hnd⟩ := hW
 have hA : DataW.TrodAll enc Tryz.prog W 0 (fun _ => true) true Tryz.f3.params.toList args.toList ds p := hA0
 rw [Tryz.params3] at hA hval
 obtain ⟨v0, vs0, d0, ds0, p0, q0, hargs, rfl, rfl, h0, r0⟩ := trodAll_cons hA
 obtain ⟨v1, vs1, d1, ds1, p1, q1, rfl, rfl, rfl, h1, r1⟩ := trodAll_cons r0
 obtain ⟨rfl, rfl, rfl⟩ := trodAll_nil r1
 obtain rfl : args = #[v0, v1] := by cases args; simp_all
 obtain ⟨rfl, rfl⟩ := trodVars_none hV
 obtain ⟨N0, O0, hR0, hl0, hm0, hl0b, hm0b⟩ := pv_mealy Tryz.underlying24 (by kernel_rfl) (by kernel_rfl) Tryz.underlying22 Tryz.underlying27 Tryz.underlying3 (by kernel_rfl) (by kernel_rfl) (by kernel_rfl) (by kernel_rfl) rfl (hval 0 24 v0 rfl rfl) h0 (light_of (j := 0) hz rfl rfl)
 obtain ⟨x1, rfl, rfl, rfl, wx1⟩ := open_int Tryz.underlying3 (hval 1 3 v1 rfl rfl) h1
 clear hA0 hA r0 r1 hval hz
 refine calls_true ((lawHomeSeeks N0 O0 x1 (by omega) (fun r hr => by have := hm0 r hr; omega) (by omega) (fun r hr => by have := hm0b r hr; omega)).mono fun _ _ h => h.1) rfl (fun c hc => ?_) fun W' hb => ⟨_, rfl, ?_⟩
 ·match c, hc with
  | 0, _ => exact hR0
  | 1, _ => exact .int _ _
 ·exact post_true (tb := 4) laid rowed rfl rfl Tryz.underlying4 hW' hb rfl
theorem holds : Rows.HomeSeeksSaid :=
 OpenClaim.holds_of_wide 3 Tryz.f3 rfl rfl rfl rfl rfl rfl rfl ⟨rfl, rfl, rfl, rfl, rfl⟩ rfl rfl rfl rfl rfl (by kernel_rfl) Tryz.func3 (by kernel_rfl)
  (of_decide_eq_true (by kernel_rfl)) (by unfold Func.isWrapper; first | (rw [if_pos (by decide +kernel)]; kernel_rfl) | (rw [if_neg (by decide +kernel)]; exact ⟨rfl, rfl⟩))
  (fun os started H enc _ => lifted os started H enc)
end Go.Proofs.YtkpoffjimfiabaaGreat.homeSeeks
#print axioms Go.Proofs.YtkpoffjimfiabaaGreat.homeSeeks.holds
end
