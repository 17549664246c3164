/-
  Contracts of the strings' functions and of Text; conditions in each statement.
-/
import Derived.Test.YthgglfpklgjibaaGreatDoorS1
import Derived.Test.YthgglfpklgjibaaGreatDoorSh
import Derived.Test.YthgglfpklgjibaaGreatDoorP2
import Derived.Test.YthgglfpklgjibaaGreatDoorF5
set_option linter.unusedVariables false
set_option linter.unusedSimpArgs false
set_option linter.unusedSectionVars false

/-! text Ue11 -/
section
namespace Go.AM
open Go Go.Proofs
theorem f54 (l : List UInt8) (c : UInt8) : ACall Tryz.prog 54 [.str (bs l), .str (bs [c])] (fun r objs => r = .int .i64 (Lib.indexByte l c) ∧ objs = []) := by
  refine acall_scal (vs := [.string (bs l), .string (bs [c])]) Tryz.func54 rfl rfl rfl (fun w => ?_) (fun w S => .int _ _)
  refine (Tryz.strings_Index_one (bs l) c w).mono ?_
  rintro e w' ⟨rfl, rfl⟩
  rw [bs_data]
  exact ⟨rfl, KeepL.refl _ _⟩
theorem f34 (l : List UInt8) (c : UInt8) : ACall Tryz.prog 34 [.str (bs l), .str (bs [c])] (fun r objs => r = .int .i64 (Lib.countByte l c) ∧ objs = []) := by
  refine acall_scal (vs := [.string (bs l), .string (bs [c])]) Tryz.func34 rfl rfl rfl (fun w => ?_) (fun w S => .int _ _)
  refine (Tryz.strings_Count_one (bs l) c w).mono ?_
  rintro e w' ⟨rfl, rfl⟩
  rw [bs_data]
  exact ⟨rfl, KeepL.refl _ _⟩
/- strings.genSplit -/
def c55 : VCfg := ⟨⟨[65], [], [], [0, 1, 2, 3, 8, 9, 10, 11, 13, 15, 20, 36, 41]⟩, [], [], []⟩
theorem f55 (l : List UInt8) (c : UInt8) (hl : l.length ≤ 1099511627776) : ACall Tryz.prog 55 [.str (bs l), .str (bs [c]), .int .i64 0, .int .i64 (-1)] (fun r objs => r = .pay (.strs ((splitL c l).map bs)) false ∧ objs = []) := by
  suffices h : ACall Tryz.prog 55 [.str (bs l), .str (bs [c]), .int .i64 0, .int .i64 (-1)] (fun r objs => r = .pay (.strs ((splitL c l).map bs)) false ∧ objs = []) from h
  refine acall_intro (tyP_ok _) c55 2000 [.tmp 8] Tryz.func55 rfl (by rfl) rfl (by kernel_rfl) ?_
  unfold Tryz.f55
  simp (config := {implicitDefEqProofs := false, maxSteps := 4000000}) (disch := omega) only [push_cast, c55, Nat.reduceAdd, Nat.reduceSub, Nat.reduceMul, Nat.reduceBEq, Int.reduceToNat, Int.reduceNeg, Int.reduceLE, Int.reduceLT, Int.reduceBEq, Int.reduceBNe, Int.reduceEq, Bool.not_true, Bool.not_false, eq_self, reduceCtorEq]
  refine callW_eq _ _ (f34 l c) ?_
  have hcl : Lib.countByte l c ≤ l.length := List.count_le_length
  have hmin : min ((Lib.countByte l c : Int) + 1) ((l.length : Int) + 1) = Lib.countByte l c + 1 := by omega
  generalize hn : Lib.countByte l c = n at *
  simp (config := {implicitDefEqProofs := false, maxSteps := 4000000}) (disch := omega) only [push_cast, c55, hmin, Nat.reduceAdd, Nat.reduceSub, Nat.reduceMul, Nat.reduceBEq, Int.reduceToNat, Int.reduceNeg, Int.reduceLE, Int.reduceLT, Int.reduceBEq, Int.reduceBNe, Int.reduceEq, Bool.not_true, Bool.not_false, eq_self, reduceCtorEq]
  refine ⟨by omega, ?_⟩
  refine awp_upto (tyP_ok _) c55 2000 [0, 1, 2, 3, 8, 9, 10] (n) (fun _ => True) (fun i => ⟨66, [(0, .str (bs (cutsL c l i).2)), (1, .str (bs [c])), (2, .int .i64 0), (3, .int .i64 n), (8, .pay (.strs []) true), (9, .own 0), (10, .int .i64 i)], [.arr (.strs (cutsA c l n i)) ⟨9, false⟩]⟩) (by kernel_rfl) ?_ ?_ ?_
  · rw [show ((n : Int) + 1).toNat = n + 1 by omega, show ((n : Int) + 1 - 1) = n by omega, empty_bs]
    simp (config := {implicitDefEqProofs := false, maxSteps := 4000000}) (disch := omega) only [push_cast, c55, cutsL, cutsA, Nat.reduceAdd, Nat.reduceSub, Nat.reduceMul, Nat.reduceBEq, Int.reduceToNat, Int.reduceNeg, Int.reduceLE, Int.reduceLT, Int.reduceBEq, Int.reduceBNe, Int.reduceEq, Bool.not_true, Bool.not_false, eq_self, reduceCtorEq]
    simp [List.replicate_succ]
  · trivial
  intro i hi _
  obtain ⟨g1, g2, g3, g4⟩ := cutsL_spec c l i (by omega)
  have hcA := cutsA_len hn hi
  simp (config := {implicitDefEqProofs := false, maxSteps := 4000000}) (disch := omega) only [push_cast, c55, hcA, Nat.reduceAdd, Nat.reduceSub, Nat.reduceMul, Nat.reduceBEq, Int.reduceToNat, Int.reduceNeg, Int.reduceLE, Int.reduceLT, Int.reduceBEq, Int.reduceBNe, Int.reduceEq, Bool.not_true, Bool.not_false, eq_self, reduceCtorEq]
  refine ⟨fun hlt => ?_, fun hge => ?_⟩
  · refine callW_eq _ _ (f54 _ c) ?_
    obtain ⟨m, hm, hml⟩ := cutsL_index (i := i) (by rw [hn]; exact hlt)
    have hst := cutsA_step hn hlt hm
    have h2 : (cutsL c l (i + 1)).2 = (cutsL c l i).2.drop (m + 1) := by simp [cutsL, hm]
    rw [hm]
    simp (config := {implicitDefEqProofs := false, maxSteps := 4000000}) (disch := omega) only [push_cast, c55, hcA, Nat.reduceAdd, Nat.reduceSub, Nat.reduceMul, Nat.reduceBEq, Int.reduceToNat, Int.reduceNeg, Int.reduceLE, Int.reduceLT, Int.reduceBEq, Int.reduceBNe, Int.reduceEq, Bool.not_true, Bool.not_false, eq_self, reduceCtorEq]
    have e1 : ((m : Int) + (0 + 1)).toNat = m + 1 := by omega
    have e2 : ((m : Int) + 0).toNat = m := by omega
    rw [e1, e2, hst, h2, List.take_length]
    exact ⟨fun h => by omega, by omega, by omega, by omega, hlt, rfl, rfl⟩
  · have : i = n := by omega
    subst this
    rw [cutsA_end hn]
    have := splitL_len c l
    refine ⟨by omega, by simp; omega, ?_⟩
    rw [List.take_of_length_le (by simp; omega)]
/- strings.Split -/
def c35 : VCfg := ⟨⟨[], [], [], [0, 1, 4]⟩, [], [], []⟩
theorem f35 (l : List UInt8) (c : UInt8) (hl : l.length ≤ 1099511627776) : ACall Tryz.prog 35 [.str (bs l), .str (bs [c])] (fun r objs => r = .pay (.strs ((splitL c l).map bs)) false ∧ objs = []) := by
  refine acall_intro (tyP_ok _) c35 2000 [.tmp 4] Tryz.func35 rfl (by rfl) rfl (by kernel_rfl) ?_
  unfold Tryz.f35
  simp (config := {implicitDefEqProofs := false, maxSteps := 4000000}) (disch := omega) only [push_cast, c35, Nat.reduceAdd, Nat.reduceSub, Nat.reduceMul, Nat.reduceBEq, Int.reduceToNat, Int.reduceNeg, Int.reduceLE, Int.reduceLT, Int.reduceBEq, Int.reduceBNe, Int.reduceEq, Bool.not_true, Bool.not_false, eq_self, reduceCtorEq]
  refine callW_eq _ _ (f55 l c hl) ?_
  simp (config := {implicitDefEqProofs := false, maxSteps := 4000000}) (disch := omega) only [push_cast, c35, Nat.reduceAdd, Nat.reduceSub, Nat.reduceMul, Nat.reduceBEq, Int.reduceToNat, Int.reduceNeg, Int.reduceLE, Int.reduceLT, Int.reduceBEq, Int.reduceBNe, Int.reduceEq, Bool.not_true, Bool.not_false, eq_self, reduceCtorEq]
theorem keepL_bytes (w : World) (e : TypeId) (s : ByteArray) : KeepL (fun _ => False) w (Lib.bytesWorld w e s) := by
  refine ⟨rfl, rfl, rfl, ?_, fun k hk _ => ?_⟩
  · simp only [Lib.bytesWorld, World.freeze, World.alloc, World.drew, Nat.one_ne_zero, if_false, Array.size_modify, Array.size_push]
    omega
  · simp only [Lib.bytesWorld, World.freeze, World.alloc, World.drew, Nat.one_ne_zero, if_false, Array.getElem?_modify]
    rw [if_neg (by omega), Array.getElem?_push, if_neg (by omega)]
theorem f37 (l : List UInt8) (h0 : l ≠ []) (h2 : l.length ≤ 2) (hd : ∀ x ∈ l, x ∈ digits) : ACall Tryz.prog 37 [.str (bs l)] (fun r objs => r = .tup [.int .i64 (valL l), .lit .nilIface] ∧ objs = []) := by
  have ha := atoi_digits h0 h2 hd
  generalize valL l = v at *
  refine acall_scal (vs := [.string (bs l)]) (v := .tuple #[.int .i64 v, .nilIface]) Tryz.func37 rfl rfl rfl (fun w => ?_) (fun w S => .tup rfl fun c hc => ?_)
  · refine (Tryz.strconv_Atoi_ok (bs l) (by rw [bs_size]; omega) v (by rw [bs_data]; exact ha) w).mono ?_
    rintro e w' ⟨rfl, rfl | ⟨t, rfl⟩⟩
    · exact ⟨rfl, KeepL.refl _ _⟩
    · exact ⟨rfl, keepL_bytes _ _ _⟩
  · match c, hc with
    | 0, _ => exact .int _ _
    | 1, _ => exact .lit _
theorem f40 (t : Int) (h0 : 0 ≤ t) (h1 : t < 100) : ACall Tryz.prog 40 [.int .i64 t] (fun r objs => r = .str (bs (numT t)) ∧ objs = []) := by
  refine acall_scal (vs := [.int .i64 t]) Tryz.func40 rfl rfl rfl (fun w => ?_) (fun w S => .str _)
  have := Tryz.strconv_Itoa_small t.toNat (by omega) w
  rw [show ((t.toNat : Nat) : Int) = t by omega] at this
  refine this.mono ?_
  rintro e w' ⟨rfl, rfl⟩
  exact ⟨rfl, KeepL.refl _ _⟩
theorem f41 (L : List (List UInt8)) (z : Bool) (c : UInt8) (h0 : L ≠ []) (hN : L.length ≤ 140737488355328) (hl : (joinT c L).length ≤ 140737488355328) :
    ACall Tryz.prog 41 [.pay (.strs (L.map bs)) z, .str (bs [c])] (fun r objs => r = .str (bs (joinT c L)) ∧ objs = []) := by
  refine acall_of Tryz.func41 rfl rfl fun S0 w vsA hS0 hlen ha => ?_
  have a0 := ha 0 (by simp)
  have a1 := ha 1 (by simp)
  simp only [List.getElem_cons_zero, List.getElem_cons_succ] at a0 a1
  obtain ⟨l⟩ := vsA
  match l, hlen with
  | [u, v], _ =>
    have e0 : (#[u, v] : Array Value)[0]! = u := rfl
    have e1 : (#[u, v] : Array Value)[1]! = v := rfl
    rw [e0] at a0
    rw [e1] at a1
    cases a1
    cases a0 with
    | @pay _ _ a len cap ad vs hlen hcap hwf hnz had hsp hc hS hr =>
      simp only [Pay.len, List.length_map] at hlen
      subst hlen
      have hp : L.length ≠ 0 := fun e => h0 (List.length_eq_zero_iff.1 e)
      obtain rfl := had hp
      obtain ⟨b, o, sp⟩ := ad
      simp only at hsp
      subst hsp
      have hcell : ∀ j, j < L.length → w.cell? ⟨b, o + j, none⟩ = some (.string (bs (L.getD j []))) := fun j hj => by
        have h1 := hc j 0 hj (by simp [Pay.sz])
        simp only [Pay.sz, Nat.mul_one, Nat.add_zero] at h1
        rw [h1]
        have h2 := hr j 0 (by simp [Pay.at]) hj
        simp only [Pay.at, List.getElem_cons_zero, bs_getD] at h2
        generalize vs j 0 = x at h2
        cases h2
        rfl
      have hj := Tryz.strings_Join b o cap (L.map bs) (bs [c]) w (fun j x hx => by
          simp only [List.getElem?_map, Option.map_eq_some_iff] at hx
          obtain ⟨y, hy, rfl⟩ := hx
          obtain ⟨hj, hy2⟩ := List.getElem?_eq_some_iff.1 hy
          rw [hcell j hj]
          simp [List.getD, hj, hy2]) (lt_of_cell? (hcell 0 (by omega))) (by simpa using hN) (by simpa using hcap) (by
          simp only [List.map_map]
          have : (L.map ((fun x => x.data.toList) ∘ bs)) = L := by
            conv => rhs; rw [← List.map_id L]
            exact List.map_congr_left fun x _ => by simp [bs]
          rw [this, show (bs [c]).data.toList = [c] by simp [bs], joinT_lib]; exact hl)
      simp only [List.length_map] at hj
      refine Calls.mono' hj ?_
      rintro e w' ⟨rfl, hB⟩
      refine ACallR.pure hS0 ⟨hB.os, hB.tape, hB.output, hB.size, fun k hk _ => hB.block k hk⟩ (v := .string _) ?_ ⟨rfl, rfl⟩
      have : (L.map bs).map (fun x => x.data.toList) = L := by
        rw [List.map_map]
        conv => rhs; rw [← List.map_id L]
        exact List.map_congr_left fun x _ => by simp [bs]
      rw [this, show (bs [c]).data.toList = [c] by simp [bs], joinT_lib]
      exact .str _
theorem f79 (l : List UInt8) (c : UInt8) : ACall Tryz.prog 79 [.str (bs l), .str (bs [c])] (fun r objs => r = .int .i64 (Lib.indexByte l c) ∧ objs = []) := by
  refine acall_scal (vs := [.string (bs l), .string (bs [c])]) Tryz.func79 rfl rfl rfl (fun w => ?_) (fun w S => .int _ _)
  refine (Tryz.stringslite_Index_one (bs l) c w).mono ?_
  rintro e w' ⟨rfl, rfl⟩
  rw [bs_data]
  exact ⟨rfl, KeepL.refl _ _⟩
/- internal/stringslite.Cut -/
def c56 : VCfg := ⟨⟨[], [], [], [0, 1, 4, 5, 6, 7, 12]⟩, [(3, (.op 0 .loose (.op 1 .loose (.op 2 .loose (.op 3 .loose (.op 4 .loose (.op 5 .loose (.op 6 .loose (.op 7 .loose (.op 8 .loose (.op 9 .loose (.op 10 .loose (.op 11 .loose .nil)))))))))))))], [], []⟩
theorem f56 (t o : Int) (h0 : 0 ≤ t) (h1 : t < 100) (g0 : 0 ≤ o) (g1 : o < 100) : ACall Tryz.prog 56 [.str (bs (entT t o)), .str (bs [47])] (fun r objs => r = .tup [.str (bs (numT t)), .str (bs (numT o)), .bool true] ∧ objs = []) := by
  obtain ⟨e1, e2, e3⟩ := ent_index (o := o) h0 h1
  have hl := (entT_len h0 h1 g0 g1).1
  have hl2 : (numT t).length + 1 ≤ (entT t o).length := by simp [entT]
  refine acall_intro (tyP_ok _) c56 2000 [.tmp 4, .tmp 5, .tmp 6] Tryz.func56 rfl (by rfl) rfl (by kernel_rfl) ?_
  unfold Tryz.f56
  simp (config := {implicitDefEqProofs := false, maxSteps := 4000000}) (disch := omega) only [push_cast, c56, Nat.reduceAdd, Nat.reduceSub, Nat.reduceMul, Nat.reduceBEq, Int.reduceToNat, Int.reduceNeg, Int.reduceLE, Int.reduceLT, Int.reduceBEq, Int.reduceBNe, Int.reduceEq, Bool.not_true, Bool.not_false, eq_self, reduceCtorEq]
  refine callW_eq _ _ (f79 (entT t o) 47) ?_
  rw [e1]
  simp (config := {implicitDefEqProofs := false, maxSteps := 4000000}) (disch := omega) only [push_cast, c56, Nat.reduceAdd, Nat.reduceSub, Nat.reduceMul, Nat.reduceBEq, Int.reduceToNat, Int.reduceNeg, Int.reduceLE, Int.reduceLT, Int.reduceBEq, Int.reduceBNe, Int.reduceEq, Bool.not_true, Bool.not_false, eq_self, reduceCtorEq]
  have e4 : (((numT t).length : Int) + (0 + 1)).toNat = (numT t).length + 1 := by omega
  rw [e2, e4, List.take_length, e3]
  exact ⟨by omega, ⟨by omega, by omega, Nat.le_refl _⟩, rfl, rfl⟩
/- strings.Cut -/
def c36 : VCfg := ⟨⟨[], [], [], [0, 1, 4, 5, 6]⟩, [], [], []⟩
theorem f36 (t o : Int) (h0 : 0 ≤ t) (h1 : t < 100) (g0 : 0 ≤ o) (g1 : o < 100) : ACall Tryz.prog 36 [.str (bs (entT t o)), .str (bs [47])] (fun r objs => r = .tup [.str (bs (numT t)), .str (bs (numT o)), .bool true] ∧ objs = []) := by
  refine acall_intro (tyP_ok _) c36 2000 [.tmp 4, .tmp 5, .tmp 6] Tryz.func36 rfl (by rfl) rfl (by kernel_rfl) ?_
  unfold Tryz.f36
  simp (config := {implicitDefEqProofs := false, maxSteps := 4000000}) (disch := omega) only [push_cast, c36, Nat.reduceAdd, Nat.reduceSub, Nat.reduceMul, Nat.reduceBEq, Int.reduceToNat, Int.reduceNeg, Int.reduceLE, Int.reduceLT, Int.reduceBEq, Int.reduceBNe, Int.reduceEq, Bool.not_true, Bool.not_false, eq_self, reduceCtorEq]
  refine callW_eq _ _ (f56 t o h0 h1 g0 g1) ?_
  simp (config := {implicitDefEqProofs := false, maxSteps := 4000000}) (disch := omega) only [push_cast, c36, Nat.reduceAdd, Nat.reduceSub, Nat.reduceMul, Nat.reduceBEq, Int.reduceToNat, Int.reduceNeg, Int.reduceLE, Int.reduceLT, Int.reduceBEq, Int.reduceBNe, Int.reduceEq, Bool.not_true, Bool.not_false, eq_self, reduceCtorEq]
end Go.AM
end

/-! text Ue12 -/
section
namespace Go.AM
open Go Go.Proofs
/- mizmaze/mealy.Text -/
def c21 : VCfg := ⟨⟨[], [], [4, 6], [0, 1, 2, 3, 4, 5, 6, 7, 8, 11, 14, 15, 16, 22, 23, 24, 25]⟩, [(11, (.op 0 .loose (.op 1 .strict (.op 4 .strict (.op 5 .strict (.op 6 .strict (.op 7 .strict (.op 8 .strict (.op 9 .strict (.op 10 .strict (.op 11 .strict (.op 2 .eff (.op 3 .strict (.op 12 .eff (.op 13 .strict (.op 14 .eff (.op 15 .eff (.op 16 .loose .nil))))))))))))))))))], [], []⟩
set_option maxHeartbeats 4000000 in
set_option maxRecDepth 100000 in
theorem f21 (N O : List (List Int)) (z z' : Bool) (hl : N.length ≤ 4611686018427387904) (hl2 : ∀ r ∈ N, r.length ≤ 4611686018427387904) (ho : O.length ≤ 4611686018427387904) (ho2 : ∀ r ∈ O, r.length ≤ 4611686018427387904) :
    ACall Tryz.prog 21 [.agg [.pay (.rows (N)) (z), .pay (.rows (O)) (z')]] (fun r objs => ∃ t e, r = .tup [.str (bs t), .int .i64 e] ∧ ((vmB N O = true ∧ t = textM N O ∧ e = 0) ∨ (vmB N O = false ∧ t = [] ∧ e = 1)) ∧ objs = []) := by
  refine acall_intro (tyP_ok _) c21 2000 [.tmp 2, .tmp 3] Tryz.func21 rfl (by rfl) rfl (by kernel_rfl) ?_
  unfold Tryz.f21
  simp (config := {implicitDefEqProofs := false, maxSteps := 4000000}) (disch := omega) only [push_cast, c21, Nat.reduceAdd, Nat.reduceSub, Nat.reduceMul, Nat.reduceBEq, Int.reduceToNat, Int.reduceNeg, Int.reduceLE, Int.reduceLT, Int.reduceBEq, Int.reduceBNe, Int.reduceEq, Bool.not_true, Bool.not_false, eq_self, reduceCtorEq]
  refine callW_eq _ _ (f8 N O z z' hl hl2 ho ho2) ?_
  simp (config := {implicitDefEqProofs := false, maxSteps := 4000000}) (disch := omega) only [push_cast, c21, Nat.reduceAdd, Nat.reduceSub, Nat.reduceMul, Nat.reduceBEq, Int.reduceToNat, Int.reduceNeg, Int.reduceLE, Int.reduceLT, Int.reduceBEq, Int.reduceBNe, Int.reduceEq, Bool.not_true, Bool.not_false, eq_self, reduceCtorEq]
  refine ⟨fun hv => ⟨_, _, ⟨rfl, rfl⟩, .inr ⟨hv, rfl, rfl⟩⟩, fun hv => ?_⟩
  have hV := vmB_iff.1 hv
  generalize (N.getD 0 []).length = k at hV
  have hn := hV.v.n2
  have hn0 := hV.v.n1
  have hk2 := hV.v.k2
  have hol := hV.ol
  refine awp_upto (tyP_ok _) c21 2000 [1, 2, 3, 4, 14, 15] (N.length) (fun _ => True) (fun i => ⟨54, [(1, .fref [.pay (.rows N) z, .pay (.rows O) z']), (2, .str (bs [])), (3, .int .i64 0), (4, .own 0), (14, .int .i64 N.length), (15, .int .i64 i)], [.arr (.strs (((List.range i).map fun i => rowM (N.getD i []) (O.getD i [])).map bs)) ⟨9, true⟩]⟩) (by kernel_rfl) ?_ ?_ ?_
  · simp (config := {implicitDefEqProofs := false, maxSteps := 4000000}) (disch := omega) only [push_cast, c21, Nat.reduceAdd, Nat.reduceSub, Nat.reduceMul, Nat.reduceBEq, Int.reduceToNat, Int.reduceNeg, Int.reduceLE, Int.reduceLT, Int.reduceBEq, Int.reduceBNe, Int.reduceEq, Bool.not_true, Bool.not_false, eq_self, reduceCtorEq]
    rfl
  · trivial
  intro i hi _
  simp (config := {implicitDefEqProofs := false, maxSteps := 4000000}) (disch := omega) only [push_cast, c21, Nat.reduceAdd, Nat.reduceSub, Nat.reduceMul, Nat.reduceBEq, Int.reduceToNat, Int.reduceNeg, Int.reduceLE, Int.reduceLT, Int.reduceBEq, Int.reduceBNe, Int.reduceEq, Bool.not_true, Bool.not_false, eq_self, reduceCtorEq]
  refine ⟨fun hlt => ?_, fun hge => ?_⟩
  · obtain ⟨hn1, ho1⟩ := hV.lens hlt
    rw [hn1]
    refine ⟨hlt, ?_⟩
    refine awp_upto (tyP_ok _) c21 2000 [1, 2, 3, 4, 5, 6, 14, 15, 22, 23, 24] (k) (fun _ => True) (fun x => ⟨54, [(1, .fref [.pay (.rows N) z, .pay (.rows O) z']), (2, .str (bs [])), (3, .int .i64 0), (4, .own 0), (5, .int .i64 i), (6, .own 1), (14, .int .i64 N.length), (15, .int .i64 i), (22, .pay (.ints .i64 (N.getD i [])) false), (23, .int .i64 k), (24, .int .i64 x)], [.arr (.strs (((List.range i).map fun i => rowM (N.getD i []) (O.getD i [])).map bs)) ⟨9, true⟩, .arr (.strs (((List.range x).map fun y => entT ((N.getD i []).getD y 0) ((O.getD i []).getD y 0)).map bs)) ⟨9, true⟩]⟩) (by kernel_rfl) ?_ ?_ ?_
    · simp (config := {implicitDefEqProofs := false, maxSteps := 4000000}) (disch := omega) only [push_cast, c21, Nat.reduceAdd, Nat.reduceSub, Nat.reduceMul, Nat.reduceBEq, Int.reduceToNat, Int.reduceNeg, Int.reduceLE, Int.reduceLT, Int.reduceBEq, Int.reduceBNe, Int.reduceEq, Bool.not_true, Bool.not_false, eq_self, reduceCtorEq]
      rfl
    · trivial
    intro x hx _
    simp (config := {implicitDefEqProofs := false, maxSteps := 4000000}) (disch := omega) only [push_cast, c21, Nat.reduceAdd, Nat.reduceSub, Nat.reduceMul, Nat.reduceBEq, Int.reduceToNat, Int.reduceNeg, Int.reduceLE, Int.reduceLT, Int.reduceBEq, Int.reduceBNe, Int.reduceEq, Bool.not_true, Bool.not_false, eq_self, reduceCtorEq]
    have hentL : ((List.range k).map fun y => entT ((N.getD i []).getD y 0) ((O.getD i []).getD y 0)) = entL (N.getD i []) (O.getD i []) := by unfold entL; rw [hn1]
    refine ⟨fun hxk => ?_, fun hxk => ?_⟩
    · obtain ⟨⟨a1, a2⟩, b1, b2⟩ := hV.ent hlt hxk
      refine ⟨by omega, by omega, by omega, ?_⟩
      have la := (numT_ok a1 a2).1.2.1
      have lb := (numT_ok b1 b2).1.2.1
      refine callW_eq _ _ (f40 _ a1 a2) ?_
      simp (config := {implicitDefEqProofs := false, maxSteps := 4000000}) (disch := omega) only [push_cast, c21, Nat.reduceAdd, Nat.reduceSub, Nat.reduceMul, Nat.reduceBEq, Int.reduceToNat, Int.reduceNeg, Int.reduceLE, Int.reduceLT, Int.reduceBEq, Int.reduceBNe, Int.reduceEq, Bool.not_true, Bool.not_false, eq_self, reduceCtorEq]
      refine ⟨by omega, ?_⟩
      refine callW_eq _ _ (f40 _ b1 b2) ?_
      simp (config := {implicitDefEqProofs := false, maxSteps := 4000000}) (disch := omega) only [push_cast, c21, Nat.reduceAdd, Nat.reduceSub, Nat.reduceMul, Nat.reduceBEq, Int.reduceToNat, Int.reduceNeg, Int.reduceLE, Int.reduceLT, Int.reduceBEq, Int.reduceBNe, Int.reduceEq, Bool.not_true, Bool.not_false, eq_self, reduceCtorEq]
      have e1 : numT ((N.getD i []).getD x 0) ++ [47] ++ numT ((O.getD i []).getD x 0) = entT ((N.getD i []).getD x 0) ((O.getD i []).getD x 0) := by simp [entT]
      rw [e1, range_map_succ, List.map_append]
      exact ⟨by rw [List.length_append, List.length_singleton]; omega, by rw [List.length_range]; omega, hxk, rfl⟩
    · have hxe : x = k := by omega
      subst hxe
      have hrl := rowM_len hV hlt
      rw [hentL]
      refine callW_eq _ _ (f41 (entL (N.getD i []) (O.getD i [])) true 46 (entL_ne hV hlt) (by rw [entL_len]; omega) (by show (rowM _ _).length ≤ _; omega)) ?_
      simp (config := {implicitDefEqProofs := false, maxSteps := 4000000}) (disch := omega) only [push_cast, c21, Nat.reduceAdd, Nat.reduceSub, Nat.reduceMul, Nat.reduceBEq, Int.reduceToNat, Int.reduceNeg, Int.reduceLE, Int.reduceLT, Int.reduceBEq, Int.reduceBNe, Int.reduceEq, Bool.not_true, Bool.not_false, eq_self, reduceCtorEq]
      rw [range_map_succ, List.map_append]
      exact ⟨by simp; omega, hlt, rfl⟩
  · have hie : i = N.length := by omega
    subst hie
    have htl := textM_len hV
    refine callW_eq _ _ (f41 (rowsM N O) true 32 (rowsM_ne hV) (by rw [rowsM_len]; omega) (by show (textM N O).length ≤ _; omega)) ?_
    simp (config := {implicitDefEqProofs := false, maxSteps := 4000000}) (disch := omega) only [push_cast, c21, Nat.reduceAdd, Nat.reduceSub, Nat.reduceMul, Nat.reduceBEq, Int.reduceToNat, Int.reduceNeg, Int.reduceLE, Int.reduceLT, Int.reduceBEq, Int.reduceBNe, Int.reduceEq, Bool.not_true, Bool.not_false, eq_self, reduceCtorEq]
    exact ⟨_, _, ⟨rfl, rfl⟩, .inl ⟨hv, rfl, rfl⟩⟩
/-- the text ahead of row i -/
def preM (N O : List (List Int)) (i : Nat) : List UInt8 := if i = 0 then [] else joinT 32 ((List.range i).map fun i => rowM (N.getD i []) (O.getD i [])) ++ [32]
def upM (N O : List (List Int)) (i : Nat) : List UInt8 := joinT 32 ((List.range i).map fun i => rowM (N.getD i []) (O.getD i []))
def upR (r o : List Int) (x : Nat) : List UInt8 := joinT 46 ((List.range x).map fun y => entT (r.getD y 0) (o.getD y 0))
theorem joinT_up {c : UInt8} {f : Nat → List UInt8} {i : Nat} : joinT c ((List.range (i + 1)).map f) = (if i = 0 then [] else joinT c ((List.range i).map f) ++ [c]) ++ f i := by
  rw [range_map_succ]
  by_cases h0 : i = 0
  · subst h0; rfl
  · rw [if_neg h0, joinT_snoc (fun e => by simp at e; exact h0 e), List.append_assoc]; rfl
theorem upM_succ (N O : List (List Int)) (i : Nat) : upM N O (i + 1) = preM N O i ++ rowM (N.getD i []) (O.getD i []) := joinT_up
theorem upR_succ (r o : List Int) (x : Nat) : upR r o (x + 1) = (if x = 0 then [] else upR r o x ++ [46]) ++ entT (r.getD x 0) (o.getD x 0) := joinT_up
theorem upM_all (N O : List (List Int)) : upM N O N.length = textM N O := rfl
theorem upR_all (r o : List Int) : upR r o r.length = rowM r o := rfl
theorem upR_len {r o : List Int} {k : Nat} (h : ∀ y, y < k → (entT (r.getD y 0) (o.getD y 0)).length ≤ 5) : ∀ x, x ≤ k → (upR r o x).length ≤ 6 * x
  | 0, _ => Nat.le_refl _
  | x + 1, hx => by
    have ih := upR_len h x (by omega)
    have h1 := h x (by omega)
    rw [upR_succ]
    split
    · simp only [List.nil_append]; omega
    · simp only [List.length_append, List.length_singleton]; omega
theorem upM_len {N O : List (List Int)} {k : Nat} (hV : VM N O k) : ∀ i, i ≤ N.length → (upM N O i).length ≤ 36 * i
  | 0, _ => Nat.le_refl _
  | i + 1, hi => by
    have ih := upM_len hV i (by omega)
    have h1 := rowM_len hV (show i < N.length by omega)
    rw [upM_succ]
    unfold preM
    split
    · simp only [List.nil_append]; omega
    · have e : (joinT 32 ((List.range i).map fun i => rowM (N.getD i []) (O.getD i []))) = upM N O i := rfl
      rw [e]
      simp only [List.length_append, List.length_singleton]; omega
end Go.AM
end
