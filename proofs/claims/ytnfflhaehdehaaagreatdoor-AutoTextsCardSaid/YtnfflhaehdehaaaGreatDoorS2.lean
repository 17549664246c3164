/-
  Contracts of the strings' functions, of Parse and of the chapter's examples; conditions in each statement.
-/
import Derived.Test.YtnfflhaehdehaaaGreatDoorS1
import Derived.Test.YtnfflhaehdehaaaGreatDoorP1
import Derived.Shelf.Strings.SlTrimAscii
import Derived.Test.YtnfflhaehdehaaaGreatDoorF5
set_option linter.unusedVariables false
set_option linter.unusedSimpArgs false
set_option linter.unusedSectionVars false

/-! text Ua4 -/
section
namespace Go.AM
open Go Go.Proofs
theorem f89 (l : List UInt8) (c : UInt8) : ACall Tryz.prog 89 [.str (bs l), .str (bs [c])] (fun r objs => r = .int .i64 (Lib.indexByte l c) ∧ objs = []) := by
  refine acall_scal (vs := [.string (bs l), .string (bs [c])]) Tryz.func89 rfl rfl rfl (fun w => ?_) (fun w S => .int _ _)
  refine (Tryz.strings_Index_one (bs l) c w).mono ?_
  rintro e w' ⟨rfl, rfl⟩
  rw [bs_data]
  exact ⟨rfl, KeepL.refl _ _⟩
theorem f88 (l : List UInt8) (c : UInt8) : ACall Tryz.prog 88 [.str (bs l), .str (bs [c])] (fun r objs => r = .int .i64 (Lib.countByte l c) ∧ objs = []) := by
  refine acall_scal (vs := [.string (bs l), .string (bs [c])]) Tryz.func88 rfl rfl rfl (fun w => ?_) (fun w S => .int _ _)
  refine (Tryz.strings_Count_one (bs l) c w).mono ?_
  rintro e w' ⟨rfl, rfl⟩
  rw [bs_data]
  exact ⟨rfl, KeepL.refl _ _⟩
/- strings.genSplit -/
def c69 : VCfg := ⟨⟨[65], [], [], [0, 1, 2, 3, 8, 9, 10, 11, 13, 15, 20, 36, 41]⟩, [], [], []⟩
theorem f69 (l : List UInt8) (c : UInt8) (hl : l.length ≤ 1099511627776) : ACall Tryz.prog 69 [.str (bs l), .str (bs [c]), .int .i64 0, .int .i64 (-1)] (fun r objs => r = .pay (.strs ((splitL c l).map bs)) false ∧ objs = []) := by
  suffices h : ACall Tryz.prog 69 [.str (bs l), .str (bs [c]), .int .i64 0, .int .i64 (-1)] (fun r objs => r = .pay (.strs ((splitL c l).map bs)) false ∧ objs = []) from h
  refine acall_intro (tyP_ok _) c69 2000 [.tmp 8] Tryz.func69 rfl (by rfl) rfl (by kernel_rfl) ?_
  unfold Tryz.f69
  simp (config := {implicitDefEqProofs := false, maxSteps := 4000000}) (disch := omega) only [push_cast, c69, Nat.reduceAdd, Nat.reduceSub, Nat.reduceMul, Nat.reduceBEq, Int.reduceToNat, Int.reduceNeg, Int.reduceLE, Int.reduceLT, Int.reduceBEq, Int.reduceBNe, Int.reduceEq, Bool.not_true, Bool.not_false, eq_self, reduceCtorEq]
  refine callW_eq _ _ (f88 l c) ?_
  have hcl : Lib.countByte l c ≤ l.length := List.count_le_length
  have hmin : min ((Lib.countByte l c : Int) + 1) ((l.length : Int) + 1) = Lib.countByte l c + 1 := by omega
  generalize hn : Lib.countByte l c = n at *
  simp (config := {implicitDefEqProofs := false, maxSteps := 4000000}) (disch := omega) only [push_cast, c69, hmin, Nat.reduceAdd, Nat.reduceSub, Nat.reduceMul, Nat.reduceBEq, Int.reduceToNat, Int.reduceNeg, Int.reduceLE, Int.reduceLT, Int.reduceBEq, Int.reduceBNe, Int.reduceEq, Bool.not_true, Bool.not_false, eq_self, reduceCtorEq]
  refine ⟨by omega, ?_⟩
  refine awp_upto (tyP_ok _) c69 2000 [0, 1, 2, 3, 8, 9, 10] (n) (fun _ => True) (fun i => ⟨66, [(0, .str (bs (cutsL c l i).2)), (1, .str (bs [c])), (2, .int .i64 0), (3, .int .i64 n), (8, .pay (.strs []) true), (9, .own 0), (10, .int .i64 i)], [.arr (.strs (cutsA c l n i)) ⟨9, false⟩]⟩) (by kernel_rfl) ?_ ?_ ?_
  · rw [show ((n : Int) + 1).toNat = n + 1 by omega, show ((n : Int) + 1 - 1) = n by omega, empty_bs]
    simp (config := {implicitDefEqProofs := false, maxSteps := 4000000}) (disch := omega) only [push_cast, c69, cutsL, cutsA, Nat.reduceAdd, Nat.reduceSub, Nat.reduceMul, Nat.reduceBEq, Int.reduceToNat, Int.reduceNeg, Int.reduceLE, Int.reduceLT, Int.reduceBEq, Int.reduceBNe, Int.reduceEq, Bool.not_true, Bool.not_false, eq_self, reduceCtorEq]
    simp [List.replicate_succ]
  · trivial
  intro i hi _
  obtain ⟨g1, g2, g3, g4⟩ := cutsL_spec c l i (by omega)
  have hcA := cutsA_len hn hi
  simp (config := {implicitDefEqProofs := false, maxSteps := 4000000}) (disch := omega) only [push_cast, c69, hcA, Nat.reduceAdd, Nat.reduceSub, Nat.reduceMul, Nat.reduceBEq, Int.reduceToNat, Int.reduceNeg, Int.reduceLE, Int.reduceLT, Int.reduceBEq, Int.reduceBNe, Int.reduceEq, Bool.not_true, Bool.not_false, eq_self, reduceCtorEq]
  refine ⟨fun hlt => ?_, fun hge => ?_⟩
  · refine callW_eq _ _ (f89 _ c) ?_
    obtain ⟨m, hm, hml⟩ := cutsL_index (i := i) (by rw [hn]; exact hlt)
    have hst := cutsA_step hn hlt hm
    have h2 : (cutsL c l (i + 1)).2 = (cutsL c l i).2.drop (m + 1) := by simp [cutsL, hm]
    rw [hm]
    simp (config := {implicitDefEqProofs := false, maxSteps := 4000000}) (disch := omega) only [push_cast, c69, hcA, Nat.reduceAdd, Nat.reduceSub, Nat.reduceMul, Nat.reduceBEq, Int.reduceToNat, Int.reduceNeg, Int.reduceLE, Int.reduceLT, Int.reduceBEq, Int.reduceBNe, Int.reduceEq, Bool.not_true, Bool.not_false, eq_self, reduceCtorEq]
    have e1 : ((m : Int) + (0 + 1)).toNat = m + 1 := by omega
    have e2 : ((m : Int) + 0).toNat = m := by omega
    rw [e1, e2, hst, h2, List.take_length]
    exact ⟨fun h => by omega, by omega, by omega, by omega, hlt, rfl, rfl⟩
  · have : i = n := by omega
    subst this
    rw [cutsA_end hn]
    have := splitL_len c l
    refine ⟨by omega, by simp; omega, ?_⟩
    rw [List.take_of_length_le (by simp; omega)]
/- strings.Split -/
def c55 : VCfg := ⟨⟨[], [], [], [0, 1, 4]⟩, [], [], []⟩
theorem f55 (l : List UInt8) (c : UInt8) (hl : l.length ≤ 1099511627776) : ACall Tryz.prog 55 [.str (bs l), .str (bs [c])] (fun r objs => r = .pay (.strs ((splitL c l).map bs)) false ∧ objs = []) := by
  refine acall_intro (tyP_ok _) c55 2000 [.tmp 4] Tryz.func55 rfl (by rfl) rfl (by kernel_rfl) ?_
  unfold Tryz.f55
  simp (config := {implicitDefEqProofs := false, maxSteps := 4000000}) (disch := omega) only [push_cast, c55, Nat.reduceAdd, Nat.reduceSub, Nat.reduceMul, Nat.reduceBEq, Int.reduceToNat, Int.reduceNeg, Int.reduceLE, Int.reduceLT, Int.reduceBEq, Int.reduceBNe, Int.reduceEq, Bool.not_true, Bool.not_false, eq_self, reduceCtorEq]
  refine callW_eq _ _ (f69 l c hl) ?_
  simp (config := {implicitDefEqProofs := false, maxSteps := 4000000}) (disch := omega) only [push_cast, c55, Nat.reduceAdd, Nat.reduceSub, Nat.reduceMul, Nat.reduceBEq, Int.reduceToNat, Int.reduceNeg, Int.reduceLE, Int.reduceLT, Int.reduceBEq, Int.reduceBNe, Int.reduceEq, Bool.not_true, Bool.not_false, eq_self, reduceCtorEq]
theorem f70 (l : List UInt8) (h0 : l ≠ []) (hl : l.length ≤ 1099511627776) : ACall Tryz.prog 70 [.str (bs l), .str (bs digits)] (fun r objs => r = .str (bs (Lib.trimS l digits)) ∧ objs = []) := by
  refine acall_scal (vs := [.string (bs l), .string (bs digits)]) Tryz.func70 rfl rfl rfl (fun w => ?_) (fun w S => .str _)
  have hp : 0 < l.length := List.length_pos_iff.2 h0
  refine (Any.strings_Trim_set Tryz.lays160 (zero_of (by kernel_rfl)) (by kernel_rfl) (bs l) (bs digits) w (by decide) (by rw [bs_size]; exact hp) (by rw [bs_size]; omega) (by decide) (by rw [bs_data]; exact fun j b h => digits_lt b (List.mem_of_getElem? h))).mono ?_
  rintro e w' ⟨rfl, q, rfl⟩
  rw [bs_data, bs_data]
  have k1 := keepL_alloc w (.cells (Lib.setCells digits) (Tryz.lays160_ren.t 116))
  have k2 := keepL_alloc (w.alloc (.cells (Lib.setCells digits) (Tryz.lays160_ren.t 116))) (.cells (Lib.setCells digits) (Tryz.lays160_ren.t 116))
  have k3 := k1.trans k2 (fun _ _ h => h)
  exact ⟨rfl, k3.os, k3.tape, k3.output, k3.size, k3.block⟩
theorem keepL_bytes (w : World) (e : TypeId) (s : ByteArray) : KeepL (fun _ => False) w (Lib.bytesWorld w e s) := by
  refine ⟨rfl, rfl, rfl, ?_, fun k hk _ => ?_⟩
  · simp only [Lib.bytesWorld, World.freeze, World.alloc, World.drew, Nat.one_ne_zero, if_false, Array.size_modify, Array.size_push]
    omega
  · simp only [Lib.bytesWorld, World.freeze, World.alloc, World.drew, Nat.one_ne_zero, if_false, Array.getElem?_modify]
    rw [if_neg (by omega), Array.getElem?_push, if_neg (by omega)]
theorem f71 (l : List UInt8) (h0 : l ≠ []) (h2 : l.length ≤ 2) (hd : ∀ x ∈ l, x ∈ digits) : ACall Tryz.prog 71 [.str (bs l)] (fun r objs => r = .tup [.int .i64 (valL l), .lit .nilIface] ∧ objs = []) := by
  have ha := atoi_digits h0 h2 hd
  generalize valL l = v at *
  refine acall_scal (vs := [.string (bs l)]) (v := .tuple #[.int .i64 v, .nilIface]) Tryz.func71 rfl rfl rfl (fun w => ?_) (fun w S => .tup rfl fun c hc => ?_)
  · refine (Tryz.strconv_Atoi_ok (bs l) (by rw [bs_size]; omega) v (by rw [bs_data]; exact ha) w).mono ?_
    rintro e w' ⟨rfl, rfl | ⟨t, rfl⟩⟩
    · exact ⟨rfl, KeepL.refl _ _⟩
    · exact ⟨rfl, keepL_bytes _ _ _⟩
  · match c, hc with
    | 0, _ => exact .int _ _
    | 1, _ => exact .lit _
/- mizmaze/auto.number -/
def c56 : VCfg := ⟨⟨[], [], [], [0, 2, 3, 4, 5, 27]⟩, [(4, (.op 0 .loose (.op 1 .loose (.op 2 .loose (.op 3 .loose (.op 4 .loose .nil))))))], [], []⟩
theorem f56 (l : List UInt8) (hl : l.length ≤ 1099511627776) : ACall Tryz.prog 56 [.str (bs l)] (fun r objs => ∃ n, (numL l = some n ∧ r = .tup [.int .i64 n, .bool true] ∨ numL l = none ∧ n = 0 ∧ r = .tup [.int .i64 0, .bool false]) ∧ objs = []) := by
  refine acall_intro (tyP_ok _) c56 2000 [.tmp 2, .tmp 3] Tryz.func56 rfl (by rfl) rfl (by kernel_rfl) ?_
  unfold Tryz.f56
  simp (config := {implicitDefEqProofs := false, maxSteps := 4000000}) (disch := omega) only [push_cast, c56, Nat.reduceAdd, Nat.reduceSub, Nat.reduceMul, Nat.reduceBEq, Int.reduceToNat, Int.reduceNeg, Int.reduceLE, Int.reduceLT, Int.reduceBEq, Int.reduceBNe, Int.reduceEq, Bool.not_true, Bool.not_false, eq_self, reduceCtorEq]
  refine ⟨fun h => ⟨0, .inr ⟨numL_none fun g => g.1 h, rfl⟩⟩, fun h0 => ⟨fun h => ⟨0, .inr ⟨numL_none fun g => by have := g.2.1; omega, rfl⟩⟩, fun h2 => ?_⟩⟩
  refine ⟨fun h1 => ⟨by omega, fun h48 => ⟨0, .inr ⟨numL_none fun g => g.2.2.1 ⟨by omega, UInt8.toNat_inj.1 (by rw [show (48 : UInt8).toNat = 48 from rfl]; omega)⟩, rfl⟩⟩, fun h48 => ?_⟩, fun h1 => ?_⟩
  all_goals
    refine callW_eq _ _ (f70 l h0 hl) ?_
    simp (config := {implicitDefEqProofs := false, maxSteps := 4000000}) (disch := omega) only [push_cast, c56, trimS_nil, Nat.reduceAdd, Nat.reduceSub, Nat.reduceMul, Nat.reduceBEq, Int.reduceToNat, Int.reduceNeg, Int.reduceLE, Int.reduceLT, Int.reduceBEq, Int.reduceBNe, Int.reduceEq, Bool.not_true, Bool.not_false, eq_self, reduceCtorEq]
    refine ⟨fun hb => ⟨0, .inr ⟨numL_none fun g => hb g.2.2.2, rfl⟩⟩, fun hd => ?_⟩
    refine callW_eq _ _ (f71 l h0 (by omega) hd) ?_
    simp (config := {implicitDefEqProofs := false, maxSteps := 4000000}) (disch := omega) only [push_cast, c56, Nat.reduceAdd, Nat.reduceSub, Nat.reduceMul, Nat.reduceBEq, Int.reduceToNat, Int.reduceNeg, Int.reduceLE, Int.reduceLT, Int.reduceBEq, Int.reduceBNe, Int.reduceEq, Bool.not_true, Bool.not_false, eq_self, reduceCtorEq]
    have hN : numOk l := ⟨h0, by omega, fun g => by
      first
        | omega
        | exact h48 (by have h9 := congrArg UInt8.toNat g.2; rw [show (48 : UInt8).toNat = 48 from rfl] at h9; omega), hd⟩
    exact ⟨_, .inl ⟨numL_some hN, rfl⟩⟩
end Go.AM
end

/-! text Ua5 -/
section
namespace Go.AM
open Go Go.Proofs
/- mizmaze/auto.Parse -/
def c35 : VCfg := ⟨⟨[], [], [7], [0, 2, 3, 4, 6, 7, 9, 10, 11, 14, 17, 18, 19, 20, 24, 25, 26, 27, 36, 52]⟩, [], [], []⟩
def ParseR (s : List UInt8) (A : List (List Int)) (e : Int) : Prop := (parseB s = true ∧ A = matV s ∧ e = 0) ∨ (parseB s = false ∧ A = [] ∧ e = 5)
def rowsTo (s : List UInt8) (i : Nat) : List (List Int) := ((splitL 32 s).take i).map rowV
def O35 (s : List UInt8) (i : Nat) : List AObj := [.box [.lit (.slice none 0 0)], .box [.own 2], .arr (.rows (rowsTo s i)) ⟨25, true⟩]
def S35 (s : List UInt8) (i : Nat) : St := ⟨55, [(2, .ref 0 0), (3, .int .i64 0), (4, .ref 1 0), (17, .pay (.strs (List.map bs (splitL 32 s))) false), (18, .int .i64 (splitL 32 s).length), (19, .int .i64 i)], O35 s i⟩
theorem f35 (l : List UInt8) : ACall Tryz.prog 35 [.str (bs l)] (fun r objs => ∃ A e nz, ParseR l A e ∧ r = .tup [.agg [.pay (.rows A) nz], .int .i64 e] ∧ objs = []) := by
  suffices h : ACall Tryz.prog 35 [.str (bs l)] (fun r objs => (parseB l = false ∧ r = .tup [.agg [.lit (.slice none 0 0)], .int .i64 5] ∧ objs = []) ∨ (parseB l = true ∧ r = .tup [.agg [.own 0], .int .i64 0] ∧ objs = [.arr (.rows (matV l)) ⟨25, true⟩])) by
    have h2 := h.fill (.rows []) rfl (Q' := fun r objs => (parseB l = false ∧ r = .tup [.agg [.pay (.rows []) true], .int .i64 5] ∧ objs = []) ∨ (parseB l = true ∧ r = .tup [.agg [.own 0], .int .i64 0] ∧ objs = [.arr (.rows (matV l)) ⟨25, true⟩])) (by
      rintro r objs (⟨h1, rfl, rfl⟩ | ⟨h1, rfl, rfl⟩)
      · exact .inl ⟨h1, rfl, rfl⟩
      · exact .inr ⟨h1, rfl, rfl⟩)
    refine h2.frz ?_
    rintro r objs (⟨h1, rfl, rfl⟩ | ⟨h1, rfl, rfl⟩)
    · exact ⟨[], _, 0, rfl, [], 5, true, .inr ⟨h1, rfl, rfl⟩, rfl, rfl⟩
    · exact ⟨[0], _, 1, rfl, matV l, 0, true, .inl ⟨h1, rfl, rfl⟩, rfl, rfl⟩
  refine acall_intro (tyP_ok _) c35 2000 [.cell 2 24, .tmp 3] Tryz.func35 rfl (by rfl) rfl (by kernel_rfl) ?_
  unfold Tryz.f35
  simp (config := {implicitDefEqProofs := false, maxSteps := 4000000}) (disch := omega) only [push_cast, c35, Nat.reduceAdd, Nat.reduceSub, Nat.reduceMul, Nat.reduceBEq, Int.reduceToNat, Int.reduceNeg, Int.reduceLE, Int.reduceLT, Int.reduceBEq, Int.reduceBNe, Int.reduceEq, Bool.not_true, Bool.not_false, eq_self, reduceCtorEq]
  refine ⟨fun h => .inl (parseB_len h), fun h => ?_⟩
  refine callW_eq _ _ (f55 l 32 (by omega)) ?_
  simp (config := {implicitDefEqProofs := false, maxSteps := 4000000}) (disch := omega) only [push_cast, c35, Nat.reduceAdd, Nat.reduceSub, Nat.reduceMul, Nat.reduceBEq, Int.reduceToNat, Int.reduceNeg, Int.reduceLE, Int.reduceLT, Int.reduceBEq, Int.reduceBNe, Int.reduceEq, Bool.not_true, Bool.not_false, eq_self, reduceCtorEq]
  refine awp_virt (i := 1) (c := 0) (p := .rows []) 25 rfl rfl rfl ?_
  refine awp_upto (tyP_ok _) c35 2000 [2, 3, 4, 17, 18, 19] ((splitL 32 l).length) (fun i => ∀ j, j < i → rowOk ((splitL 32 l).getD j [])) (S35 l) (by kernel_rfl) rfl ?_ ?_
  · exact fun j hj => by omega
  have hsl := splitL_len 32 l
  have hcl : Lib.countByte l 32 ≤ l.length := List.count_le_length
  intro i hi hr
  simp (config := {implicitDefEqProofs := false, maxSteps := 4000000}) (disch := omega) only [push_cast, c35, S35, O35, Nat.reduceAdd, Nat.reduceSub, Nat.reduceMul, Nat.reduceBEq, Int.reduceToNat, Int.reduceNeg, Int.reduceLE, Int.reduceLT, Int.reduceBEq, Int.reduceBNe, Int.reduceEq, Bool.not_true, Bool.not_false, eq_self, reduceCtorEq]
  refine ⟨fun hlt => ⟨hlt, ?_⟩, fun hge => ?_⟩
  · have hpl := piece_len (getD_memL hlt)
    refine callW_eq _ _ (f55 _ 46 (by omega)) ?_
    generalize hrow : (splitL 32 l).getD i [] = row at *
    have hsl2 := splitL_len 46 row
    have hcl2 : Lib.countByte row 46 ≤ row.length := List.count_le_length
    simp (config := {implicitDefEqProofs := false, maxSteps := 4000000}) (disch := omega) only [push_cast, c35, Nat.reduceAdd, Nat.reduceSub, Nat.reduceMul, Nat.reduceBEq, Int.reduceToNat, Int.reduceNeg, Int.reduceLE, Int.reduceLT, Int.reduceBEq, Int.reduceBNe, Int.reduceEq, Bool.not_true, Bool.not_false, eq_self, reduceCtorEq]
    refine awp_upd (tyP_ok _) c35 2000 [2, 3, 4, 17, 18, 19, 7, 24, 25, 26] ((splitL 46 row).length) (fun j => ∀ k, k < j → (numL ((splitL 46 row).getD k [])).isSome) (fun j => [(26, .int .i64 j)]) (fun j => [(2, .arr (.ints .i64 (((splitL 46 row).take j).map fun w => (numL w).getD 0)) ⟨3, true⟩)]) (by kernel_rfl) (by rw [List.take_zero]; rfl) ?_ ?_
    · exact fun j hj => by omega
    intro j hj hrj
    simp (config := {implicitDefEqProofs := false, maxSteps := 4000000}) (disch := omega) only [push_cast, c35, Nat.reduceAdd, Nat.reduceSub, Nat.reduceMul, Nat.reduceBEq, Int.reduceToNat, Int.reduceNeg, Int.reduceLE, Int.reduceLT, Int.reduceBEq, Int.reduceBNe, Int.reduceEq, Bool.not_true, Bool.not_false, eq_self, reduceCtorEq]
    refine ⟨fun hlt2 => ⟨hlt2, ?_⟩, fun hge2 => ?_⟩
    · have hpl2 := piece_len (getD_memL hlt2)
      refine callW_rel (f56 _ (by omega)) ?_
      rintro R O ⟨n, ⟨hN, rfl⟩ | ⟨hN, rfl, rfl⟩, rfl⟩
      · simp (config := {implicitDefEqProofs := false, maxSteps := 4000000}) (disch := omega) only [push_cast, c35, Nat.reduceAdd, Nat.reduceSub, Nat.reduceMul, Nat.reduceBEq, Int.reduceToNat, Int.reduceNeg, Int.reduceLE, Int.reduceLT, Int.reduceBEq, Int.reduceBNe, Int.reduceEq, Bool.not_true, Bool.not_false, eq_self, reduceCtorEq]
        refine ⟨by simp; omega, hlt2, upto_succ hrj (by rw [hN]; rfl), ?_⟩
        rw [List.take_succ_eq_append_getElem hlt2, List.map_append, List.map_cons, List.map_nil]
        rw [show (splitL 46 row)[j] = (splitL 46 row).getD j [] by simp [hlt2], hN]; rfl
      · simp (config := {implicitDefEqProofs := false, maxSteps := 4000000}) (disch := omega) only [push_cast, c35, Nat.reduceAdd, Nat.reduceSub, Nat.reduceMul, Nat.reduceBEq, Int.reduceToNat, Int.reduceNeg, Int.reduceLE, Int.reduceLT, Int.reduceBEq, Int.reduceBNe, Int.reduceEq, Bool.not_true, Bool.not_false, eq_self, reduceCtorEq]
        exact .inl (parseB_row hlt (by rw [hrow]; exact fun g => by have := g _ (getD_memL hlt2); rw [hN] at this; cases this))
    · rw [List.take_of_length_le hge2]
      have hlen : (rowsTo l i).length = i := by simp [rowsTo]; omega
      simp (config := {implicitDefEqProofs := false, maxSteps := 4000000}) (disch := omega) only [push_cast, c35, S35, O35, Nat.reduceAdd, Nat.reduceSub, Nat.reduceMul, Nat.reduceBEq, Int.reduceToNat, Int.reduceNeg, Int.reduceLE, Int.reduceLT, Int.reduceBEq, Int.reduceBNe, Int.reduceEq, Bool.not_true, Bool.not_false, eq_self, reduceCtorEq]
      refine ⟨by omega, hlt, upto_succ hr (by rw [hrow]; exact rowOk_of fun k hk => hrj k (by omega)), ?_⟩
      rw [rowsTo, rowsTo, List.take_succ_eq_append_getElem hlt, List.map_append, List.map_cons, List.map_nil, show (splitL 32 l)[i] = (splitL 32 l).getD i [] by simp [hlt], hrow]; rfl
  · have e1 : rowsTo l i = matV l := by rw [rowsTo, List.take_of_length_le hge]; rfl
    have hml : (matV l).length ≤ 4611686018427387904 := by simp [matV]; omega
    have hml2 : ∀ r ∈ matV l, r.length ≤ 4611686018427387904 := fun r hr => by
      simp only [matV, List.mem_map] at hr
      obtain ⟨row, h1, rfl⟩ := hr
      have := piece_len h1
      have h2 := splitL_len 46 row
      have h3 : Lib.countByte row 46 ≤ row.length := List.count_le_length
      simp [rowV]; omega
    rw [e1]
    refine callW_eq _ _ (f11 (matV l) true hml hml2) ?_
    have hpb := parseB_of (by omega) fun j hj => hr j (by omega)
    simp (config := {implicitDefEqProofs := false, maxSteps := 4000000}) (disch := omega) only [push_cast, c35, Nat.reduceAdd, Nat.reduceSub, Nat.reduceMul, Nat.reduceBEq, Int.reduceToNat, Int.reduceNeg, Int.reduceLE, Int.reduceLT, Int.reduceBEq, Int.reduceBNe, Int.reduceEq, Bool.not_true, Bool.not_false, eq_self, reduceCtorEq]
    exact ⟨fun hv => .inl (by rw [hpb, hv]), fun hv => .inr (by rw [hpb, hv])⟩
end Go.AM
end

/-! text Ua6 -/
section
namespace Go.AM
open Go Go.Proofs
/- mizmaze/mizmazelaw01.awake -/
def c16 : VCfg := ⟨⟨[], [], [], [0, 1, 2, 3, 4, 5, 6, 7, 8]⟩, [], [], []⟩
theorem awk_parse {A : List (List Int)} {e : Int} (h : ParseR [49, 46, 48, 32, 48, 46, 48] A e) : A = [[1, 0], [0, 0]] ∧ e = 0 := by
  have hm : matV [49, 46, 48, 32, 48, 46, 48] = [[1, 0], [0, 0]] := by decide
  have hv : vldB (matV [49, 46, 48, 32, 48, 46, 48]) = true := by
    rw [hm]; exact vldB_iff.2 ⟨by decide, by decide, by decide, by decide, by decide⟩
  have hp : parseB [49, 46, 48, 32, 48, 46, 48] = true := by
    rw [parseB_of (by decide) (fun j hj => ?_), hv]
    have h2 : ∀ j, j < 2 → ∀ w ∈ splitL 46 ((splitL 32 [49, 46, 48, 32, 48, 46, 48]).getD j []), (numL w).isSome := by decide
    exact h2 j hj
  rcases h with ⟨_, h2, h3⟩ | ⟨h1, _⟩
  · exact ⟨by rw [h2, hm], h3⟩
  · rw [hp] at h1; cases h1
theorem awk_v : vldB [[1, 0], [0, 0]] = true := vldB_iff.2 ⟨by decide, by decide, by decide, by decide, by decide⟩
theorem awk_run {A : List (List Int)} (hA : A = [[1, 0], [0, 0]]) {s f : Int} (h : RunR A 0 [0, 1] s f) : s = 0 ∧ f = 0 := by
  subst hA
  rcases h with ⟨h, _⟩ | ⟨_, h, _⟩ | ⟨_, _, _, h1, h2⟩
  · rw [awk_v] at h; cases h
  · exact absurd h (by decide)
  · exact ⟨by rw [h2]; decide, h1⟩
theorem awk_image {A : List (List Int)} (hA : A = [[1, 0], [0, 0]]) {l : List Int} {g : Int} (h : SetsR A [0, 1] [1] (imageL A [0, 1] [1]) l g) : l = [0] ∧ g = 0 := by
  subst hA
  rcases h with ⟨h, _⟩ | ⟨_, h, _⟩ | ⟨_, _, _, h1, h2⟩
  · rw [awk_v] at h; cases h
  · exact absurd h (by decide)
  · exact ⟨by rw [h2]; decide, h1⟩
theorem awk_pre {A : List (List Int)} (hA : A = [[1, 0], [0, 0]]) {l : List Int} {g : Int} (h : SetsR A [1] [0] (preL A (fun x => decide (x ∈ [(1 : Int)])) [0]) l g) : l = [0] ∧ g = 0 := by
  subst hA
  rcases h with ⟨h, _⟩ | ⟨_, h, _⟩ | ⟨_, _, _, h1, h2⟩
  · rw [awk_v] at h; cases h
  · exact absurd h (by decide)
  · exact ⟨by rw [h2]; decide, h1⟩
def eA : List (List Int) := [[1, 0], [0, 0]]
theorem eA_v : vldB eA = true := vldB_iff.2 ⟨by decide, by decide, by decide, by decide, by decide⟩
theorem awk_Parse : ACall Tryz.prog 35 [.str (bs [49, 46, 48, 32, 48, 46, 48])] (fun r objs => ∃ A nz, A = [[1, 0], [0, 0]] ∧ r = .tup [.agg [.pay (.rows A) nz], .int .i64 0] ∧ objs = []) :=
  (f35 _).mono fun r objs ⟨A, e, nz, h, h1, h2⟩ => ⟨A, nz, (awk_parse h).1, by rw [h1, (awk_parse h).2], h2⟩
theorem awk_rows {A : List (List Int)} (hA : A = [[1, 0], [0, 0]]) : A.length ≤ 4611686018427387904 ∧ ∀ r ∈ A, r.length ≤ 4611686018427387904 := by subst hA; decide
theorem awk_Run {A : List (List Int)} (hA : A = [[1, 0], [0, 0]]) (z z' : Bool) : ACall Tryz.prog 10 [.agg [.pay (.rows A) z], .int .i64 0, .pay (.ints .i64 [0, 1]) z'] (fun r objs => r = .tup [.int .i64 0, .int .i64 0] ∧ objs = []) :=
  (f10 A z z' 0 [0, 1] (awk_rows hA).1 (awk_rows hA).2 (by decide)).mono fun r objs ⟨s, f, h, h1, h2⟩ => ⟨by rw [h1, (awk_run hA h).1, (awk_run hA h).2], h2⟩
theorem awk_Image {A : List (List Int)} (hA : A = [[1, 0], [0, 0]]) (z z' z'' : Bool) : ACall Tryz.prog 17 [.agg [.pay (.rows A) z], .pay (.ints .i64 [0, 1]) z', .pay (.ints .i64 [1]) z''] (fun r objs => ∃ nz, r = .tup [.pay (.ints .i64 [0]) nz, .int .i64 0] ∧ objs = []) :=
  (f17 A z z' z'' [0, 1] [1] (awk_rows hA).1 (awk_rows hA).2 (by decide) (by decide)).mono fun r objs ⟨l, e, nz, h, h1, h2⟩ => ⟨nz, by rw [h1, (awk_image hA h).1, (awk_image hA h).2], h2⟩
theorem awk_Pre {A : List (List Int)} (hA : A = [[1, 0], [0, 0]]) (z z' z'' : Bool) : ACall Tryz.prog 18 [.agg [.pay (.rows A) z], .pay (.ints .i64 [1]) z', .pay (.ints .i64 [0]) z''] (fun r objs => ∃ nz, r = .tup [.pay (.ints .i64 [0]) nz, .int .i64 0] ∧ objs = []) :=
  (f18 A z z' z'' [1] [0] (awk_rows hA).1 (awk_rows hA).2 (by decide) (by decide)).mono fun r objs ⟨l, e, nz, h, h1, h2⟩ => ⟨nz, by rw [h1, (awk_pre hA h).1, (awk_pre hA h).2], h2⟩
set_option maxHeartbeats 4000000 in
theorem f16 : ACall Tryz.prog 16 [] (fun r objs => r = .bool true ∧ objs = []) := by
  refine acall_intro (tyP_ok _) c16 2000 [.tmp 0] Tryz.func16 rfl (by rfl) rfl (by kernel_rfl) ?_
  unfold Tryz.f16
  simp (config := {implicitDefEqProofs := false, maxSteps := 4000000}) (disch := omega) only [push_cast, c16, Nat.reduceAdd, Nat.reduceSub, Nat.reduceMul, Nat.reduceBEq, Int.reduceToNat, Int.reduceNeg, Int.reduceLE, Int.reduceLT, Int.reduceBEq, Int.reduceBNe, Int.reduceEq, Bool.not_true, Bool.not_false, eq_self, reduceCtorEq]
  refine callW_rel (awk_Parse) ?_
  rintro R O ⟨A, nz, hA, rfl, rfl⟩
  simp (config := {implicitDefEqProofs := false, maxSteps := 4000000}) (disch := omega) only [push_cast, c16, Nat.reduceAdd, Nat.reduceSub, Nat.reduceMul, Nat.reduceBEq, Int.reduceToNat, Int.reduceNeg, Int.reduceLE, Int.reduceLT, Int.reduceBEq, Int.reduceBNe, Int.reduceEq, Bool.not_true, Bool.not_false, eq_self, reduceCtorEq]
  refine callW_eq _ _ (awk_Run hA _ _) ?_
  simp (config := {implicitDefEqProofs := false, maxSteps := 4000000}) (disch := omega) only [push_cast, c16, Nat.reduceAdd, Nat.reduceSub, Nat.reduceMul, Nat.reduceBEq, Int.reduceToNat, Int.reduceNeg, Int.reduceLE, Int.reduceLT, Int.reduceBEq, Int.reduceBNe, Int.reduceEq, Bool.not_true, Bool.not_false, eq_self, reduceCtorEq]
  refine callW_rel (awk_Image hA _ _ _) ?_
  rintro R O ⟨nz2, rfl, rfl⟩
  simp (config := {implicitDefEqProofs := false, maxSteps := 4000000}) (disch := omega) only [push_cast, c16, Nat.reduceAdd, Nat.reduceSub, Nat.reduceMul, Nat.reduceBEq, Int.reduceToNat, Int.reduceNeg, Int.reduceLE, Int.reduceLT, Int.reduceBEq, Int.reduceBNe, Int.reduceEq, Bool.not_true, Bool.not_false, eq_self, reduceCtorEq]
  refine callW_rel (awk_Pre hA _ _ _) ?_
  rintro R O ⟨nz3, rfl, rfl⟩
  simp (config := {implicitDefEqProofs := false, maxSteps := 4000000}) (disch := omega) only [push_cast, c16, Nat.reduceAdd, Nat.reduceSub, Nat.reduceMul, Nat.reduceBEq, Int.reduceToNat, Int.reduceNeg, Int.reduceLE, Int.reduceLT, Int.reduceBEq, Int.reduceBNe, Int.reduceEq, Bool.not_true, Bool.not_false, eq_self, reduceCtorEq]
  refine callW_eq _ _ (f22 [0] [0] _ _ (by decide)) ?_
  simp (config := {implicitDefEqProofs := false, maxSteps := 4000000}) (disch := omega) only [push_cast, c16, Nat.reduceAdd, Nat.reduceSub, Nat.reduceMul, Nat.reduceBEq, Int.reduceToNat, Int.reduceNeg, Int.reduceLE, Int.reduceLT, Int.reduceBEq, Int.reduceBNe, Int.reduceEq, Bool.not_true, Bool.not_false, eq_self, reduceCtorEq]
  refine callW_eq _ _ (f22 [0] [0] _ _ (by decide)) ?_
  simp (config := {implicitDefEqProofs := false, maxSteps := 4000000}) (disch := omega) only [push_cast, c16, Nat.reduceAdd, Nat.reduceSub, Nat.reduceMul, Nat.reduceBEq, Int.reduceToNat, Int.reduceNeg, Int.reduceLE, Int.reduceLT, Int.reduceBEq, Int.reduceBNe, Int.reduceEq, Bool.not_true, Bool.not_false, eq_self, reduceCtorEq]
  refine callW_eq _ _ (ACall.nilArgs (.rows []) rfl (f11 [] true (by decide) (by decide))) ?_
  rw [← vldB_false (a := []) (fun h => by have := h.n1; simp at this)]
  simp (config := {implicitDefEqProofs := false, maxSteps := 4000000}) (disch := omega) only [push_cast, c16, Nat.reduceAdd, Nat.reduceSub, Nat.reduceMul, Nat.reduceBEq, Int.reduceToNat, Int.reduceNeg, Int.reduceLE, Int.reduceLT, Int.reduceBEq, Int.reduceBNe, Int.reduceEq, Bool.not_true, Bool.not_false, eq_self, reduceCtorEq]
end Go.AM
end
