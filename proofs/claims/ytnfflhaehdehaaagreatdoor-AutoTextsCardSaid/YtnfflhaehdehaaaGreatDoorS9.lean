/-
  Contracts of Text, of the reference's Parse and of AutoTexts; conditions in each statement.
-/
import Derived.Test.YtnfflhaehdehaaaGreatDoorS2
import Derived.Test.YtnfflhaehdehaaaGreatDoorP1
import Derived.Test.YtnfflhaehdehaaaGreatDoorF5
import Derived.Test.YtnfflhaehdehaaaGreatDoorS6
set_option linter.unusedVariables false
set_option linter.unusedSimpArgs false
set_option linter.unusedSectionVars false

/-! text Ua15 -/
section
namespace Go.AM
open Go Go.Proofs
theorem f53 (t : Int) (h0 : 0 ≤ t) (h1 : t < 100) : ACall Tryz.prog 53 [.int .i64 t] (fun r objs => r = .str (bs (numT t)) ∧ objs = []) := by
  refine acall_scal (vs := [.int .i64 t]) Tryz.func53 rfl rfl rfl (fun w => ?_) (fun w S => .str _)
  have := Tryz.strconv_Itoa_small t.toNat (by omega) w
  rw [show ((t.toNat : Nat) : Int) = t by omega] at this
  refine this.mono ?_
  rintro e w' ⟨rfl, rfl⟩
  exact ⟨rfl, KeepL.refl _ _⟩
theorem f54 (L : List (List UInt8)) (z : Bool) (c : UInt8) (h0 : L ≠ []) (hN : L.length ≤ 140737488355328) (hl : (joinT c L).length ≤ 140737488355328) :
    ACall Tryz.prog 54 [.pay (.strs (L.map bs)) z, .str (bs [c])] (fun r objs => r = .str (bs (joinT c L)) ∧ objs = []) := by
  refine acall_of Tryz.func54 rfl rfl fun S0 w vsA hS0 hlen ha => ?_
  have a0 := ha 0 (by simp)
  have a1 := ha 1 (by simp)
  simp only [List.getElem_cons_zero, List.getElem_cons_succ] at a0 a1
  obtain ⟨l⟩ := vsA
  match l, hlen with
  | [u, v], _ =>
    have e0 : (#[u, v] : Array Value)[0]! = u := rfl
    have e1 : (#[u, v] : Array Value)[1]! = v := rfl
    rw [e0] at a0
    rw [e1] at a1
    cases a1
    cases a0 with
    | @pay _ _ a len cap ad vs hlen hcap hwf hnz had hsp hc hS hr =>
      simp only [Pay.len, List.length_map] at hlen
      subst hlen
      have hp : L.length ≠ 0 := fun e => h0 (List.length_eq_zero_iff.1 e)
      obtain rfl := had hp
      obtain ⟨b, o, sp⟩ := ad
      simp only at hsp
      subst hsp
      have hcell : ∀ j, j < L.length → w.cell? ⟨b, o + j, none⟩ = some (.string (bs (L.getD j []))) := fun j hj => by
        have h1 := hc j 0 hj (by simp [Pay.sz])
        simp only [Pay.sz, Nat.mul_one, Nat.add_zero] at h1
        rw [h1]
        have h2 := hr j 0 (by simp [Pay.at]) hj
        simp only [Pay.at, List.getElem_cons_zero, bs_getD] at h2
        generalize vs j 0 = x at h2
        cases h2
        rfl
      have hj := Tryz.strings_Join b o cap (L.map bs) (bs [c]) w (fun j x hx => by
          simp only [List.getElem?_map, Option.map_eq_some_iff] at hx
          obtain ⟨y, hy, rfl⟩ := hx
          obtain ⟨hj, hy2⟩ := List.getElem?_eq_some_iff.1 hy
          rw [hcell j hj]
          simp [List.getD, hj, hy2]) (lt_of_cell? (hcell 0 (by omega))) (by simpa using hN) (by simpa using hcap) (by
          simp only [List.map_map]
          have : (L.map ((fun x => x.data.toList) ∘ bs)) = L := by
            conv => rhs; rw [← List.map_id L]
            exact List.map_congr_left fun x _ => by simp [bs]
          rw [this, show (bs [c]).data.toList = [c] by simp [bs], joinT_lib]; exact hl)
      simp only [List.length_map] at hj
      refine Calls.mono' hj ?_
      rintro e w' ⟨rfl, hB⟩
      refine ACallR.pure hS0 ⟨hB.os, hB.tape, hB.output, hB.size, fun k hk _ => hB.block k hk⟩ (v := .string _) ?_ ⟨rfl, rfl⟩
      have : (L.map bs).map (fun x => x.data.toList) = L := by
        rw [List.map_map]
        conv => rhs; rw [← List.map_id L]
        exact List.map_congr_left fun x _ => by simp [bs]
      rw [this, show (bs [c]).data.toList = [c] by simp [bs], joinT_lib]
      exact .str _
theorem dig1 : ∀ i : Fin 10, bs [UInt8.ofNat (IntKind.u8.wrap (48 + ((i : Nat) : Int))).toNat] = bs (numT ((i : Nat) : Int)) := by
  have : ∀ i : Fin 10, [UInt8.ofNat (IntKind.u8.wrap (48 + ((i : Nat) : Int))).toNat] = numT ((i : Nat) : Int) := by decide +kernel
  exact fun i => congrArg bs (this i)
theorem dig3 : ∀ i : Fin 100, IntKind.i64.wrap (((i : Nat) : Int).tdiv 10) = (((i : Nat) / 10 : Nat) : Int) := by decide +kernel
theorem dig4 : ∀ i : Fin 100, 10 ≤ (i : Nat) → numT (((i : Nat) / 10 : Nat) : Int) ++ [UInt8.ofNat (IntKind.u8.wrap (IntKind.i64.wrap (48 + ((i : Nat) : Int).tmod 10))).toNat] = numT ((i : Nat) : Int) ∧ (numT (((i : Nat) / 10 : Nat) : Int)).length ≤ 2 := by decide +kernel
/- mizmaze/mizmazeref01.Digits -/
def c57 : VCfg := ⟨⟨[], [], [], [0, 2, 4]⟩, [(3, (.op 0 .loose (.op 1 .loose (.op 3 .loose (.op 4 .loose (.op 5 .loose (.op 6 .loose (.alt (.op 2 .eff (.op 7 .eff (.op 8 .loose (.op 9 .loose (.op 10 .loose .nil))))) (.op 7 .eff (.op 8 .loose (.op 2 .eff (.op 9 .loose (.op 10 .loose .nil)))))))))))))], [], []⟩
theorem f57 (t : Int) (h0 : 0 ≤ t) (h1 : t < 100) : ACall Tryz.prog 57 [.int .i64 t] (fun r objs => r = .str (bs (numT t)) ∧ objs = []) := by
  have core : ∀ t : Int, 0 ≤ t → t < 10 → ACall Tryz.prog 57 [.int .i64 t] (fun r objs => r = .str (bs (numT t)) ∧ objs = []) := fun t h0 h1 => by
    obtain ⟨i, rfl⟩ : ∃ i : Fin 10, t = ((i : Nat) : Int) := ⟨⟨t.toNat, by omega⟩, by simp; omega⟩
    refine acall_intro (tyP_ok _) c57 2000 [.tmp 2] Tryz.func57 rfl (by rfl) rfl (by kernel_rfl) ?_
    unfold Tryz.f57
    simp (config := {implicitDefEqProofs := false, maxSteps := 4000000}) (disch := omega) only [push_cast, c57, Nat.reduceAdd, Nat.reduceSub, Nat.reduceMul, Nat.reduceBEq, Int.reduceToNat, Int.reduceNeg, Int.reduceLE, Int.reduceLT, Int.reduceBEq, Int.reduceBNe, Int.reduceEq, Bool.not_true, Bool.not_false, eq_self, reduceCtorEq]
    refine ⟨fun _ => ?_, fun h => absurd h (by omega)⟩
    rw [dig1 i]
  by_cases h10 : t < 10
  · exact core t h0 h10
  obtain ⟨i, rfl⟩ : ∃ i : Fin 100, t = ((i : Nat) : Int) := ⟨⟨t.toNat, by omega⟩, by simp; omega⟩
  refine acall_intro (tyP_ok _) c57 2000 [.tmp 2] Tryz.func57 rfl (by rfl) rfl (by kernel_rfl) ?_
  unfold Tryz.f57
  simp (config := {implicitDefEqProofs := false, maxSteps := 4000000}) (disch := omega) only [push_cast, c57, Nat.reduceAdd, Nat.reduceSub, Nat.reduceMul, Nat.reduceBEq, Int.reduceToNat, Int.reduceNeg, Int.reduceLE, Int.reduceLT, Int.reduceBEq, Int.reduceBNe, Int.reduceEq, Bool.not_true, Bool.not_false, eq_self, reduceCtorEq]
  refine ⟨fun h => absurd h (by omega), fun _ => ?_⟩
  rw [dig3 i]
  have h4 := dig4 i (by omega)
  have h5 : ((i : Nat) / 10) < 10 := by omega
  generalize hj : ((i : Nat) / 10) = j at *
  repeat' apply And.intro
  all_goals
    refine callW_eq _ _ (core j (by omega) (by omega)) ?_
    simp (config := {implicitDefEqProofs := false, maxSteps := 4000000}) (disch := omega) only [push_cast, c57, Nat.reduceAdd, Nat.reduceSub, Nat.reduceMul, Nat.reduceBEq, Int.reduceToNat, Int.reduceNeg, Int.reduceLE, Int.reduceLT, Int.reduceBEq, Int.reduceBNe, Int.reduceEq, Bool.not_true, Bool.not_false, eq_self, reduceCtorEq]
    exact ⟨by omega, congrArg bs h4.1⟩
theorem map_take_succL {α : Type} {f : List Int → α} {l : List (List Int)} {k : Nat} (h : k < l.length) : (l.take (k + 1)).map f = (l.take k).map f ++ [f (l.getD k [])] := by
  rw [List.take_succ_eq_append_getElem h, List.map_append]
  simp [List.getD, h]
theorem map_take_succI {α : Type} {f : Int → α} {l : List Int} {k : Nat} (h : k < l.length) : (l.take (k + 1)).map f = (l.take k).map f ++ [f (l.getD k 0)] := by
  rw [List.take_succ_eq_append_getElem h, List.map_append]
  simp [List.getD, h]
theorem rowT_len {row : List Int} (h0 : row ≠ []) (h6 : row.length ≤ 6) (h : ∀ t ∈ row, 0 ≤ t ∧ t < 100) : (rowT row).length ≤ 17 := by
  have h1 : (rowT row).length + 1 ≤ (row.map numT).length * (2 + 1) := joinT_len (by simpa using h0) fun y hy => by
    obtain ⟨t, ht, rfl⟩ := List.mem_map.1 hy
    exact (numT_ok (h t ht).1 (h t ht).2).1.2.1
  simp only [List.length_map] at h1
  omega
theorem Vld.rows {a : List (List Int)} {k : Nat} (hV : Vld a k) {r : List Int} (hr : r ∈ a) : r ≠ [] ∧ r.length ≤ 6 ∧ (∀ t ∈ r, 0 ≤ t ∧ t < 100) ∧ (rowT r).length ≤ 17 := by
  have h1 := (hV.row r hr).1
  have h2 := (hV.row r hr).2
  have := hV.n2
  have := hV.k1
  have := hV.k2
  have h0 : r ≠ [] := fun e => by rw [e] at h1; simp at h1; omega
  have h3 : ∀ t ∈ r, 0 ≤ t ∧ t < 100 := fun t ht => by have := h2 t ht; omega
  exact ⟨h0, by omega, h3, rowT_len h0 (by omega) h3⟩
theorem textB_len {a : List (List Int)} {k : Nat} (hV : Vld a k) : (textB a).length ≤ 1079 := by
  have hn := hV.n1
  have hn2 := hV.n2
  have h1 : (textB a).length + 1 ≤ (a.map rowT).length * (17 + 1) := joinT_len (fun e => by simp at e; rw [e] at hn; simp at hn) fun y hy => by
    obtain ⟨r, hr, rfl⟩ := List.mem_map.1 hy
    exact (hV.rows hr).2.2.2
  simp only [List.length_map] at h1
  omega
/- mizmaze/auto.Text -/
def c34 : VCfg := ⟨⟨[], [], [4, 7], [0, 1, 2, 3, 4, 6, 7, 9, 12, 14, 15, 16, 17, 20, 21, 22, 23]⟩, [], [], []⟩
set_option maxHeartbeats 4000000 in
theorem f34 (a : List (List Int)) (z : Bool) (hl : a.length ≤ 4611686018427387904) (hl2 : ∀ r ∈ a, r.length ≤ 4611686018427387904) :
    ACall Tryz.prog 34 [.agg [.pay (.rows a) z]] (fun r objs => ((vldB a = true ∧ r = .tup [.str (bs (textB a)), .int .i64 0]) ∨ (vldB a = false ∧ r = .tup [.str (bs []), .int .i64 1])) ∧ objs = []) := by
  refine acall_intro (tyP_ok _) c34 2000 [.tmp 2, .tmp 3] Tryz.func34 rfl (by rfl) rfl (by kernel_rfl) ?_
  unfold Tryz.f34
  simp (config := {implicitDefEqProofs := false, maxSteps := 4000000}) (disch := omega) only [push_cast, c34, Nat.reduceAdd, Nat.reduceSub, Nat.reduceMul, Nat.reduceBEq, Int.reduceToNat, Int.reduceNeg, Int.reduceLE, Int.reduceLT, Int.reduceBEq, Int.reduceBNe, Int.reduceEq, Bool.not_true, Bool.not_false, eq_self, reduceCtorEq]
  refine callW_eq _ _ (f11 a z hl hl2) ?_
  simp (config := {implicitDefEqProofs := false, maxSteps := 4000000}) (disch := omega) only [push_cast, c34, Nat.reduceAdd, Nat.reduceSub, Nat.reduceMul, Nat.reduceBEq, Int.reduceToNat, Int.reduceNeg, Int.reduceLE, Int.reduceLT, Int.reduceBEq, Int.reduceBNe, Int.reduceEq, Bool.not_true, Bool.not_false, eq_self, reduceCtorEq]
  refine ⟨fun hv => .inr hv, fun hv => ?_⟩
  have hV := vldB_iff.1 hv
  have hn := hV.n2
  have hn0 := hV.n1
  refine awp_upto (tyP_ok _) c34 2000 [3, 4, 14, 15, 16] (a.length) (fun _ => True) (fun i => ⟨40, [(3, .int .i64 0), (4, .own 0), (14, .pay (.rows a) z), (15, .int .i64 a.length), (16, .int .i64 i)], [.arr (.strs (((a.take i).map rowT).map bs)) ⟨9, true⟩]⟩) (by kernel_rfl) ?_ ?_ ?_
  · rw [List.take_zero, List.map_nil, List.map_nil]; simp (config := {implicitDefEqProofs := false, maxSteps := 4000000}) (disch := omega) only [push_cast, c34, Nat.reduceAdd, Nat.reduceSub, Nat.reduceMul, Nat.reduceBEq, Int.reduceToNat, Int.reduceNeg, Int.reduceLE, Int.reduceLT, Int.reduceBEq, Int.reduceBNe, Int.reduceEq, Bool.not_true, Bool.not_false, eq_self, reduceCtorEq]
  · trivial
  intro i hi _
  simp (config := {implicitDefEqProofs := false, maxSteps := 4000000}) (disch := omega) only [push_cast, c34, Nat.reduceAdd, Nat.reduceSub, Nat.reduceMul, Nat.reduceBEq, Int.reduceToNat, Int.reduceNeg, Int.reduceLE, Int.reduceLT, Int.reduceBEq, Int.reduceBNe, Int.reduceEq, Bool.not_true, Bool.not_false, eq_self, reduceCtorEq]
  refine ⟨fun hlt => ⟨hlt, ?_⟩, fun hge => ?_⟩
  · obtain ⟨hr0, hr6, hrt, hrl⟩ := hV.rows (getD_mem' hlt)
    refine awp_upto (tyP_ok _) c34 2000 [3, 4, 7, 14, 15, 16, 20, 21, 22] ((a.getD i []).length) (fun _ => True) (fun k => ⟨40, [(3, .int .i64 0), (4, .own 0), (7, .own 1), (14, .pay (.rows a) z), (15, .int .i64 a.length), (16, .int .i64 i), (20, .pay (.ints .i64 (a.getD i [])) false), (21, .int .i64 (a.getD i []).length), (22, .int .i64 k)], [.arr (.strs (((a.take i).map rowT).map bs)) ⟨9, true⟩, .arr (.strs ((((a.getD i []).take k).map numT).map bs)) ⟨9, true⟩]⟩) (by kernel_rfl) ?_ ?_ ?_
    · rw [List.take_zero, List.map_nil, List.map_nil]; simp (config := {implicitDefEqProofs := false, maxSteps := 4000000}) (disch := omega) only [push_cast, c34, Nat.reduceAdd, Nat.reduceSub, Nat.reduceMul, Nat.reduceBEq, Int.reduceToNat, Int.reduceNeg, Int.reduceLE, Int.reduceLT, Int.reduceBEq, Int.reduceBNe, Int.reduceEq, Bool.not_true, Bool.not_false, eq_self, reduceCtorEq]
    · trivial
    intro k hk _
    simp (config := {implicitDefEqProofs := false, maxSteps := 4000000}) (disch := omega) only [push_cast, c34, Nat.reduceAdd, Nat.reduceSub, Nat.reduceMul, Nat.reduceBEq, Int.reduceToNat, Int.reduceNeg, Int.reduceLE, Int.reduceLT, Int.reduceBEq, Int.reduceBNe, Int.reduceEq, Bool.not_true, Bool.not_false, eq_self, reduceCtorEq]
    refine ⟨fun hlk => ⟨hlk, ?_⟩, fun hge => ?_⟩
    · have hx := hrt _ (getD_mem hlk)
      refine callW_eq _ _ (f53 _ hx.1 hx.2) ?_
      simp (config := {implicitDefEqProofs := false, maxSteps := 4000000}) (disch := omega) only [push_cast, c34, Nat.reduceAdd, Nat.reduceSub, Nat.reduceMul, Nat.reduceBEq, Int.reduceToNat, Int.reduceNeg, Int.reduceLE, Int.reduceLT, Int.reduceBEq, Int.reduceBNe, Int.reduceEq, Bool.not_true, Bool.not_false, eq_self, reduceCtorEq]
      rw [map_take_succI hlk, List.map_append, List.length_take]
      exact ⟨by omega, hlk, rfl⟩
    · rw [List.take_of_length_le hge]
      refine callW_eq _ _ (f54 ((a.getD i []).map numT) true 46 (by simpa using hr0) (by rw [List.length_map]; omega) (by show (rowT (a.getD i [])).length ≤ _; omega)) ?_
      simp (config := {implicitDefEqProofs := false, maxSteps := 4000000}) (disch := omega) only [push_cast, c34, Nat.reduceAdd, Nat.reduceSub, Nat.reduceMul, Nat.reduceBEq, Int.reduceToNat, Int.reduceNeg, Int.reduceLE, Int.reduceLT, Int.reduceBEq, Int.reduceBNe, Int.reduceEq, Bool.not_true, Bool.not_false, eq_self, reduceCtorEq]
      rw [map_take_succL hlt, List.map_append, List.length_take]
      exact ⟨by omega, hlt, rfl⟩
  · rw [List.take_of_length_le hge]
    have hbl := textB_len hV
    refine callW_eq _ _ (f54 (a.map rowT) true 32 (fun e => by simp at e; rw [e] at hn0; simp at hn0) (by rw [List.length_map]; omega) (by show (textB a).length ≤ _; omega)) ?_
    simp (config := {implicitDefEqProofs := false, maxSteps := 4000000}) (disch := omega) only [push_cast, c34, Nat.reduceAdd, Nat.reduceSub, Nat.reduceMul, Nat.reduceBEq, Int.reduceToNat, Int.reduceNeg, Int.reduceLE, Int.reduceLT, Int.reduceBEq, Int.reduceBNe, Int.reduceEq, Bool.not_true, Bool.not_false, eq_self, reduceCtorEq]
    exact .inl ⟨hv, rfl⟩
def preT (a : List (List Int)) (i : Nat) : List UInt8 := if i = 0 then [] else textB (a.take i) ++ [32]
theorem preT_row {a : List (List Int)} {i : Nat} (h : i < a.length) : textB (a.take (i + 1)) = preT a i ++ rowT (a.getD i []) := by
  unfold textB preT
  rw [map_take_succL h]
  by_cases h0 : i = 0
  · subst h0; rfl
  · rw [if_neg h0, joinT_snoc (fun e => by simp at e; rcases e with e | e; exact h0 e; rw [e] at h; simp at h)]
    unfold textB
    rw [List.append_assoc]; rfl
theorem rowT_snoc {row : List Int} {k : Nat} (h : k < row.length) : rowT (row.take (k + 1)) = (if k = 0 then [] else rowT (row.take k) ++ [46]) ++ numT (row.getD k 0) := by
  unfold rowT
  rw [map_take_succI h]
  by_cases h0 : k = 0
  · subst h0; rfl
  · rw [if_neg h0, joinT_snoc (fun e => by simp at e; rcases e with e | e; exact h0 e; rw [e] at h; simp at h), List.append_assoc]; rfl
/- mizmaze/mizmazeref01.Text -/
def c36 : VCfg := ⟨⟨[], [], [], [0, 1, 2, 3, 4, 5, 10, 14, 24, 28]⟩, [], [], []⟩
set_option maxHeartbeats 4000000 in
theorem f36 (a : List (List Int)) (z : Bool) (k : Nat) (hV : Vld a k) : ACall Tryz.prog 36 [.agg [.pay (.rows a) z]] (fun r objs => r = .str (bs (textB a)) ∧ objs = []) := by
  have hn := hV.n2
  have hn0 := hV.n1
  refine acall_intro (tyP_ok _) c36 2000 [.tmp 2] Tryz.func36 rfl (by rfl) rfl (by kernel_rfl) ?_
  unfold Tryz.f36
  simp (config := {implicitDefEqProofs := false, maxSteps := 4000000}) (disch := omega) only [push_cast, c36, Nat.reduceAdd, Nat.reduceSub, Nat.reduceMul, Nat.reduceBEq, Int.reduceToNat, Int.reduceNeg, Int.reduceLE, Int.reduceLT, Int.reduceBEq, Int.reduceBNe, Int.reduceEq, Bool.not_true, Bool.not_false, eq_self, reduceCtorEq]
  refine awp_upto (tyP_ok _) c36 2000 [1, 2, 3, 4] (a.length) (fun i => (textB (a.take i)).length ≤ 18 * i) (fun i => ⟨43, [(1, .fref [.pay (.rows a) z]), (2, .str (bs [])), (3, .str (bs (textB (a.take i)))), (4, .int .i64 i)], []⟩) (by kernel_rfl) rfl ?_ ?_
  · exact Nat.le_refl _
  intro i hi hr
  simp (config := {implicitDefEqProofs := false, maxSteps := 4000000}) (disch := omega) only [push_cast, c36, Nat.reduceAdd, Nat.reduceSub, Nat.reduceMul, Nat.reduceBEq, Int.reduceToNat, Int.reduceNeg, Int.reduceLE, Int.reduceLT, Int.reduceBEq, Int.reduceBNe, Int.reduceEq, Bool.not_true, Bool.not_false, eq_self, reduceCtorEq]
  refine ⟨fun hlt => ?_, fun hge => by rw [List.take_of_length_le hge]⟩
  obtain ⟨hr0, hr6, hrt, hrl⟩ := hV.rows (getD_mem' hlt)
  have hpl : (preT a i).length ≤ 1080 := by
    unfold preT
    split
    · simp
    · rw [List.length_append, List.length_singleton]; omega
  refine ⟨fun hp => ⟨by omega, ?_⟩, fun hp => ?_⟩
  · rw [show textB (a.take i) ++ [32] = preT a i by rw [preT, if_neg (by omega)]]
    refine awp_upto (tyP_ok _) c36 2000 [1, 2, 3, 4, 5] ((a.getD i []).length) (fun k => (preT a i).length ≤ 1080 ∧ (rowT ((a.getD i []).take k)).length ≤ 3 * k) (fun k => ⟨43, [(1, .fref [.pay (.rows a) z]), (2, .str (bs [])), (3, .str (bs (preT a i ++ rowT ((a.getD i []).take k)))), (4, .int .i64 i), (5, .int .i64 k)], []⟩) (by kernel_rfl) ?_ ?_ ?_
    · rw [List.take_zero, show rowT [] = [] from rfl, List.append_nil]; simp (config := {implicitDefEqProofs := false, maxSteps := 4000000}) (disch := omega) only [push_cast, c36, Nat.reduceAdd, Nat.reduceSub, Nat.reduceMul, Nat.reduceBEq, Int.reduceToNat, Int.reduceNeg, Int.reduceLE, Int.reduceLT, Int.reduceBEq, Int.reduceBNe, Int.reduceEq, Bool.not_true, Bool.not_false, eq_self, reduceCtorEq]
    · exact ⟨hpl, Nat.zero_le _⟩
    intro k hk hr2
    simp (config := {implicitDefEqProofs := false, maxSteps := 4000000}) (disch := omega) only [push_cast, c36, Nat.reduceAdd, Nat.reduceSub, Nat.reduceMul, Nat.reduceBEq, Int.reduceToNat, Int.reduceNeg, Int.reduceLE, Int.reduceLT, Int.reduceBEq, Int.reduceBNe, Int.reduceEq, Bool.not_true, Bool.not_false, eq_self, reduceCtorEq]
    refine ⟨hlt, fun hlk => ?_, fun hge => ?_⟩
    · have hx := hrt _ (getD_mem hlk)
      have hx2 := (numT_ok hx.1 hx.2).1.2.1
      have hsn := rowT_snoc hlk
      refine ⟨fun hk0 => ⟨by rw [List.length_append]; omega, hlt, hlk, ?_⟩, fun hk0 => ⟨hlt, hlk, ?_⟩⟩
      · rw [if_neg (by omega)] at hsn
        refine callW_eq _ _ (f57 _ hx.1 hx.2) ?_
        simp (config := {implicitDefEqProofs := false, maxSteps := 4000000}) (disch := omega) only [push_cast, c36, Nat.reduceAdd, Nat.reduceSub, Nat.reduceMul, Nat.reduceBEq, Int.reduceToNat, Int.reduceNeg, Int.reduceLE, Int.reduceLT, Int.reduceBEq, Int.reduceBNe, Int.reduceEq, Bool.not_true, Bool.not_false, eq_self, reduceCtorEq]
        rw [hsn]
        refine ⟨by simp only [List.length_append, List.length_singleton]; omega, hlk, ⟨hpl, by simp only [List.length_append, List.length_singleton]; omega⟩, ?_⟩
        simp only [List.append_assoc]
      · rw [if_pos (by omega)] at hsn
        refine callW_eq _ _ (f57 _ hx.1 hx.2) ?_
        simp (config := {implicitDefEqProofs := false, maxSteps := 4000000}) (disch := omega) only [push_cast, c36, Nat.reduceAdd, Nat.reduceSub, Nat.reduceMul, Nat.reduceBEq, Int.reduceToNat, Int.reduceNeg, Int.reduceLE, Int.reduceLT, Int.reduceBEq, Int.reduceBNe, Int.reduceEq, Bool.not_true, Bool.not_false, eq_self, reduceCtorEq]
        rw [hsn]
        have hk1 : k = 0 := by omega
        subst hk1
        refine ⟨by simp only [List.length_append]; omega, hlk, ⟨hpl, by simp only [List.nil_append]; omega⟩, ?_⟩
        simp only [List.take_zero, show rowT [] = [] from rfl, List.append_nil, List.nil_append]
    · rw [preT_row hlt, List.take_of_length_le hge]
      refine ⟨hlt, ?_, rfl⟩
      have : (preT a i).length ≤ 18 * i + 1 := by
        unfold preT
        split
        · simp
        · rw [List.length_append, List.length_singleton]; omega
      rw [List.length_append]; omega
  · rw [show textB (a.take i) = preT a i by rw [preT, if_pos (by omega), show i = 0 by omega]; rfl]
    refine awp_upto (tyP_ok _) c36 2000 [1, 2, 3, 4, 5] ((a.getD i []).length) (fun k => (preT a i).length ≤ 1080 ∧ (rowT ((a.getD i []).take k)).length ≤ 3 * k) (fun k => ⟨43, [(1, .fref [.pay (.rows a) z]), (2, .str (bs [])), (3, .str (bs (preT a i ++ rowT ((a.getD i []).take k)))), (4, .int .i64 i), (5, .int .i64 k)], []⟩) (by kernel_rfl) ?_ ?_ ?_
    · rw [List.take_zero, show rowT [] = [] from rfl, List.append_nil]; simp (config := {implicitDefEqProofs := false, maxSteps := 4000000}) (disch := omega) only [push_cast, c36, Nat.reduceAdd, Nat.reduceSub, Nat.reduceMul, Nat.reduceBEq, Int.reduceToNat, Int.reduceNeg, Int.reduceLE, Int.reduceLT, Int.reduceBEq, Int.reduceBNe, Int.reduceEq, Bool.not_true, Bool.not_false, eq_self, reduceCtorEq]
    · exact ⟨hpl, Nat.zero_le _⟩
    intro k hk hr2
    simp (config := {implicitDefEqProofs := false, maxSteps := 4000000}) (disch := omega) only [push_cast, c36, Nat.reduceAdd, Nat.reduceSub, Nat.reduceMul, Nat.reduceBEq, Int.reduceToNat, Int.reduceNeg, Int.reduceLE, Int.reduceLT, Int.reduceBEq, Int.reduceBNe, Int.reduceEq, Bool.not_true, Bool.not_false, eq_self, reduceCtorEq]
    refine ⟨hlt, fun hlk => ?_, fun hge => ?_⟩
    · have hx := hrt _ (getD_mem hlk)
      have hx2 := (numT_ok hx.1 hx.2).1.2.1
      have hsn := rowT_snoc hlk
      refine ⟨fun hk0 => ⟨by rw [List.length_append]; omega, hlt, hlk, ?_⟩, fun hk0 => ⟨hlt, hlk, ?_⟩⟩
      · rw [if_neg (by omega)] at hsn
        refine callW_eq _ _ (f57 _ hx.1 hx.2) ?_
        simp (config := {implicitDefEqProofs := false, maxSteps := 4000000}) (disch := omega) only [push_cast, c36, Nat.reduceAdd, Nat.reduceSub, Nat.reduceMul, Nat.reduceBEq, Int.reduceToNat, Int.reduceNeg, Int.reduceLE, Int.reduceLT, Int.reduceBEq, Int.reduceBNe, Int.reduceEq, Bool.not_true, Bool.not_false, eq_self, reduceCtorEq]
        rw [hsn]
        refine ⟨by simp only [List.length_append, List.length_singleton]; omega, hlk, ⟨hpl, by simp only [List.length_append, List.length_singleton]; omega⟩, ?_⟩
        simp only [List.append_assoc]
      · rw [if_pos (by omega)] at hsn
        refine callW_eq _ _ (f57 _ hx.1 hx.2) ?_
        simp (config := {implicitDefEqProofs := false, maxSteps := 4000000}) (disch := omega) only [push_cast, c36, Nat.reduceAdd, Nat.reduceSub, Nat.reduceMul, Nat.reduceBEq, Int.reduceToNat, Int.reduceNeg, Int.reduceLE, Int.reduceLT, Int.reduceBEq, Int.reduceBNe, Int.reduceEq, Bool.not_true, Bool.not_false, eq_self, reduceCtorEq]
        rw [hsn]
        have hk1 : k = 0 := by omega
        subst hk1
        refine ⟨by simp only [List.length_append]; omega, hlk, ⟨hpl, by simp only [List.nil_append]; omega⟩, ?_⟩
        simp only [List.take_zero, show rowT [] = [] from rfl, List.append_nil, List.nil_append]
    · rw [preT_row hlt, List.take_of_length_le hge]
      refine ⟨hlt, ?_, rfl⟩
      have : (preT a i).length ≤ 18 * i + 1 := by
        unfold preT
        split
        · simp
        · rw [List.length_append, List.length_singleton]; omega
      rw [List.length_append]; omega
end Go.AM
end

/-! text Ua16 -/
section
namespace Go.AM
open Go Go.Proofs
/-- where the reference's way stands -/
def scn (l : List UInt8) (i : Nat) : Sc := if i ≤ l.length then scan (l.take i) else ⟨scanEnd l, 0, 0⟩
theorem scn_zero (l : List UInt8) : scn l 0 = ⟨[[]], 0, 0⟩ := by simp [scn, scan]
theorem scn_step {l : List UInt8} {i : Nat} (h : i < l.length) : scn l (i + 1) = scStep (scn l i) (l.getD i 0) := by
  unfold scn scan
  rw [if_pos (by omega), if_pos (by omega), List.take_succ_eq_append_getElem h, List.foldl_append]
  simp [List.getD, h]
theorem scn_last {l : List UInt8} {i : Nat} (h : i = l.length) : scn l (i + 1) = ⟨appLast (scn l i).R (scn l i).n, 0, 0⟩ := by
  subst h
  unfold scn scanEnd
  rw [if_neg (by omega), if_pos (Nat.le_refl _), List.take_length]
theorem appLast_row {R : List (List Int)} {n : Int} {c : Nat} (h : ∀ r ∈ R, r.length ≤ c) : ∀ r ∈ appLast R n, r.length ≤ c + 1 := fun r hr => by
  unfold appLast at hr
  rcases List.mem_or_eq_of_mem_set hr with hr | rfl
  · have := h r hr; omega
  · rw [List.length_append, List.length_singleton]
    by_cases h1 : R.length - 1 < R.length
    · have := h _ (getD_mem' h1); omega
    · rw [List.getD_eq_getElem?_getD, List.getElem?_eq_none (by omega)]; simp
structure ScOk (s : Sc) (i : Nat) : Prop where
  pos : 1 ≤ s.R.length
  len : s.R.length ≤ i + 1
  row : ∀ r ∈ s.R, r.length ≤ i
  n0 : 0 ≤ s.n
  n1 : s.n < 10 ^ s.m
  m1 : s.m ≤ 3
theorem scStep_ok {s : Sc} {i : Nat} (h : ScOk s i) (c : UInt8) : ScOk (scStep s c) (i + 1) := by
  obtain ⟨h1, h2, h3, h4, h5, h6⟩ := h
  have hr : ∀ r ∈ s.R, r.length ≤ i + 1 := fun r hr => by have := h3 r hr; omega
  unfold scStep
  split
  · rename_i hc
    refine ⟨h1, by show s.R.length ≤ _; omega, hr, ?_, ?_, ?_⟩
    · show 0 ≤ 10 * s.n + ((c.toNat : Int) - 48); omega
    · show 10 * s.n + ((c.toNat : Int) - 48) < 10 ^ (s.m + 1)
      rw [Int.pow_succ]; omega
    · show s.m + 1 ≤ 3; omega
  · split
    · refine ⟨by simp, by simp [appLast_len]; omega, fun r hr => ?_, by simp, by simp, by simp⟩
      simp only [List.mem_append, List.mem_singleton] at hr
      rcases hr with hr | rfl
      · exact appLast_row h3 r hr
      · simp
    · exact ⟨by simp [appLast_len]; omega, by simp [appLast_len]; omega, appLast_row h3, by simp, by simp, by simp⟩
theorem scn_ok (l : List UInt8) : ∀ i, i ≤ l.length + 1 → ScOk (scn l i) i
  | 0, _ => by rw [scn_zero]; exact ⟨by simp, by simp, by simp, by simp, by simp, by simp⟩
  | i + 1, hi => by
    have h := scn_ok l i (by omega)
    by_cases hl : i < l.length
    · rw [scn_step hl]; exact scStep_ok h _
    · rw [scn_last (by omega)]
      obtain ⟨h1, h2, h3, h4, h5, h6⟩ := h
      exact ⟨by simp [appLast_len]; omega, by simp [appLast_len]; omega, appLast_row h3, by simp, by simp, by simp⟩
theorem u8sub {c : UInt8} (h1 : 48 ≤ c.toNat) (h2 : c.toNat ≤ 57) : IntKind.u8.wrap ((c.toNat : Int) - 48) = (c.toNat : Int) - 48 := by
  simp only [IntKind.wrap, IntKind.signed, IntKind.bits]
  simp
  omega
theorem scn_dig {l : List UInt8} {i : Nat} (h : i < l.length) (h1 : 48 ≤ (l.getD i 0).toNat) (h2 : (l.getD i 0).toNat ≤ 57) (h3 : (scn l i).m < 3) : scn l (i + 1) = ⟨(scn l i).R, 10 * (scn l i).n + (((l.getD i 0).toNat : Int) - 48), (scn l i).m + 1⟩ := by
  rw [scn_step h, scStep, if_pos ⟨h1, h2, h3⟩]
theorem scn_sp {l : List UInt8} {i : Nat} (h : i < l.length) (h1 : ¬ (48 ≤ (l.getD i 0).toNat ∧ (l.getD i 0).toNat ≤ 57 ∧ (scn l i).m < 3)) (h2 : ((l.getD i 0).toNat : Int) = 32) : scn l (i + 1) = ⟨appLast (scn l i).R (scn l i).n ++ [[]], 0, 0⟩ := by
  have h3 : (l.getD i 0) = 32 := UInt8.toNat_inj.1 (by rw [show (32 : UInt8).toNat = 32 from rfl]; omega)
  rw [scn_step h, scStep, if_neg h1, if_pos h3]
theorem scn_sep {l : List UInt8} {i : Nat} (h : i < l.length) (h1 : ¬ (48 ≤ (l.getD i 0).toNat ∧ (l.getD i 0).toNat ≤ 57 ∧ (scn l i).m < 3)) (h2 : ¬ ((l.getD i 0).toNat : Int) = 32) : scn l (i + 1) = ⟨appLast (scn l i).R (scn l i).n, 0, 0⟩ := by
  have h3 : ¬ (l.getD i 0) = 32 := fun e => h2 (by rw [e]; rfl)
  rw [scn_step h, scStep, if_neg h1, if_neg h3]
/- mizmaze/mizmazeref01.Parse -/
def c37 : VCfg := ⟨⟨[13], [79], [], [0, 2, 3, 4, 5, 6, 7, 8, 11, 18, 40, 76, 90]⟩, [(11, (.op 0 .strict (.op 2 .strict (.op 3 .strict (.op 5 .strict (.op 8 .strict (.alt (.op 1 .eff (.alt (.op 4 .eff (.op 6 .strict (.op 7 .loose (.op 9 .eff (.op 10 .eff (.op 11 .loose (.op 12 .eff .nil))))))) (.op 9 .eff (.op 4 .eff (.op 6 .strict (.op 7 .loose (.op 10 .eff (.op 11 .loose (.op 12 .eff .nil))))))))) (.alt (.op 4 .eff (.op 6 .strict (.op 7 .loose (.alt (.op 1 .eff (.op 9 .eff (.op 10 .eff (.op 11 .loose (.op 12 .eff .nil))))) (.op 9 .eff (.alt (.op 1 .eff (.op 10 .eff (.op 11 .loose (.op 12 .eff .nil)))) (.op 10 .eff (.op 1 .eff (.op 11 .loose (.op 12 .eff .nil)))))))))) (.op 9 .eff (.alt (.op 1 .eff (.op 4 .eff (.op 6 .strict (.op 7 .loose (.op 10 .eff (.op 11 .loose (.op 12 .eff .nil))))))) (.op 4 .eff (.op 6 .strict (.op 7 .loose (.alt (.op 1 .eff (.op 10 .eff (.op 11 .loose (.op 12 .eff .nil)))) (.op 10 .eff (.op 1 .eff (.op 11 .loose (.op 12 .eff .nil))))))))))))))))))], [], []⟩
set_option maxHeartbeats 4000000 in
theorem f37 (l : List UInt8) (hl : l.length ≤ 4611686018427387904) : ACall Tryz.prog 37 [.str (bs l)] (fun r objs => ((parseB l = true ∧ r = .tup [.agg [.pay (.rows (matV l)) false], .bool true]) ∨ (parseB l = false ∧ r = .tup [.agg [.lit (.slice none 0 0)], .bool false])) ∧ objs = []) := by
  suffices h : ACall Tryz.prog 37 [.str (bs l)] (fun r objs => ((parseB l = true ∧ r = .tup [.agg [.mh 0 .own], .bool true] ∧ objs = [.nest (matV l) none 0 ⟨25, false⟩ 3 false]) ∨ (parseB l = false ∧ r = .tup [.agg [.lit (.slice none 0 0)], .bool false] ∧ objs = []))) by
    refine h.frz ?_
    rintro r objs (⟨h1, rfl, rfl⟩ | ⟨h1, rfl, rfl⟩)
    · exact ⟨[0], _, 1, rfl, .inl ⟨h1, rfl⟩, rfl⟩
    · exact ⟨[], _, 0, rfl, .inr ⟨h1, rfl⟩, rfl⟩
  refine acall_intro (tyP_ok _) c37 2000 [.cell 2 24, .tmp 3] Tryz.func37 rfl (by rfl) rfl (by kernel_rfl) ?_
  unfold Tryz.f37
  simp (config := {implicitDefEqProofs := false, maxSteps := 4000000}) (disch := omega) only [push_cast, c37, Nat.reduceAdd, Nat.reduceSub, Nat.reduceMul, Nat.reduceBEq, Int.reduceToNat, Int.reduceNeg, Int.reduceLE, Int.reduceLT, Int.reduceBEq, Int.reduceBNe, Int.reduceEq, Bool.not_true, Bool.not_false, eq_self, reduceCtorEq]
  refine ⟨fun hgt => .inr (by rw [parseB_len (by omega)]), fun hle => ?_⟩
  refine awp_upto (tyP_ok _) c37 2000 [0, 2, 4, 5, 6, 7] (l.length + 1) (fun _ => True) (fun i => ⟨93, [(0, .str (bs l)), (2, .ref 0 0), (4, .ref 1 0), (5, .int .i64 (scn l i).n), (6, .int .i64 (scn l i).m), (7, .int .i64 i)], [.box [.lit (.slice none 0 0)], .box [.mh 2 .own], .nest (scn l i).R none 0 ⟨25, false⟩ 3 false]⟩) (by kernel_rfl) ?_ ?_ ?_
  · rw [scn_zero]; simp (config := {implicitDefEqProofs := false, maxSteps := 4000000}) (disch := omega) only [push_cast, c37, Nat.reduceAdd, Nat.reduceSub, Nat.reduceMul, Nat.reduceBEq, Int.reduceToNat, Int.reduceNeg, Int.reduceLE, Int.reduceLT, Int.reduceBEq, Int.reduceBNe, Int.reduceEq, Bool.not_true, Bool.not_false, eq_self, reduceCtorEq]
  · trivial
  intro i hi _
  have hs := scn_ok l i hi
  have hs1 := hs.pos
  have hs2 := hs.len
  have hs4 := hs.n0
  have hs5 := hs.n1
  have hs6 := hs.m1
  have hs7 : (scn l i).n < 1000 := Int.lt_of_lt_of_le hs5 (by
    have : ∀ m : Fin 4, (10 : Int) ^ (m : Nat) ≤ 1000 := by decide
    exact this ⟨(scn l i).m, by omega⟩)
  have hs8 : ((scn l i).R.getD ((scn l i).R.length - 1) []).length ≤ i := hs.row _ (getD_mem' (by omega))
  have ec : (((scn l i).R.length : Int) - 1).toNat = (scn l i).R.length - 1 := by omega
  have hb : (l.getD i 0).toNat < 256 := (l.getD i 0).toNat_lt
  simp (config := {implicitDefEqProofs := false, maxSteps := 4000000}) (disch := omega) only [push_cast, c37, ec, Nat.reduceAdd, Nat.reduceSub, Nat.reduceMul, Nat.reduceBEq, Int.reduceToNat, Int.reduceNeg, Int.reduceLE, Int.reduceLT, Int.reduceBEq, Int.reduceBNe, Int.reduceEq, Bool.not_true, Bool.not_false, eq_self, reduceCtorEq]
  refine ⟨fun hil => ⟨fun hl => ⟨hl, fun h48 => ⟨hl, fun h57 => ⟨fun hm => ?_, fun hm => ?_⟩, fun h57 => ?_⟩, fun h48 => ?_⟩, fun hl => ?_⟩, fun hg => ?_⟩
  · have hd := scn_dig hl (by omega) (by omega) (by omega)
    rw [u8sub (by omega) (by omega), hd, wrap_in (n := (((l.getD i 0).toNat : Int) - 48)) (by omega), wrap_in (by omega)]
    refine ⟨hl, by omega, ⟨rfl, by simp⟩, rfl⟩
  iterate 4
    refine ⟨⟨by omega, by omega⟩, by omega, ⟨by omega, by omega⟩, fun hl2 => ⟨hl2, fun h32 => ⟨by rw [List.length_set]; omega, by omega, ?_⟩, fun h32 => ⟨by omega, ?_⟩⟩, fun hl2 => ⟨by omega, ?_⟩⟩
    · rw [scn_sp hl2 (by omega) h32]; exact ⟨⟨rfl, rfl⟩, rfl⟩
    · rw [scn_sep hl2 (by omega) h32]; exact ⟨⟨rfl, rfl⟩, rfl⟩
    · rw [scn_last (by omega)]; exact ⟨⟨rfl, rfl⟩, rfl⟩
  have hend : (scn l i).R = scanEnd l := by
    unfold scn; rw [if_neg (by omega)]
  have hrl := hs.row
  rw [hend] at hrl hs2 ⊢
  refine callW_eq _ _ (f12 (scanEnd l) false (by omega) (fun r hr => by have := hrl r hr; omega)) ?_
  simp (config := {implicitDefEqProofs := false, maxSteps := 4000000}) (disch := omega) only [push_cast, c37, Nat.reduceAdd, Nat.reduceSub, Nat.reduceMul, Nat.reduceBEq, Int.reduceToNat, Int.reduceNeg, Int.reduceLE, Int.reduceLT, Int.reduceBEq, Int.reduceBNe, Int.reduceEq, Bool.not_true, Bool.not_false, eq_self, reduceCtorEq]
  have hpf : ∀ b : Bool, (b = true ↔ (vldB (scanEnd l) = true ∧ textB (scanEnd l) = l)) → parseB l = b := fun b hb => by
    rw [Bool.eq_iff_iff, ref_parse_iff, hb]
  refine ⟨fun hv => .inr (hpf false (by simp [hv])), fun hv => ?_⟩
  refine callW_eq _ _ (f36 (scanEnd l) false _ (vldB_iff.1 hv)) ?_
  simp (config := {implicitDefEqProofs := false, maxSteps := 4000000}) (disch := omega) only [push_cast, c37, Nat.reduceAdd, Nat.reduceSub, Nat.reduceMul, Nat.reduceBEq, Int.reduceToNat, Int.reduceNeg, Int.reduceLE, Int.reduceLT, Int.reduceBEq, Int.reduceBNe, Int.reduceEq, Bool.not_true, Bool.not_false, eq_self, reduceCtorEq]
  refine ⟨fun ht => .inr (hpf false (by simp [ht])), fun ht => ?_⟩
  have hp := hpf true (by simp [hv, ht])
  exact .inl ⟨hp, (ref_parse_val hp).symm⟩
theorem ParseT {l : List UInt8} (hp : parseB l = true) : ACall Tryz.prog 35 [.str (bs l)] (fun r objs => ∃ nz, r = .tup [.agg [.pay (.rows (matV l)) nz], .int .i64 0] ∧ objs = []) := by
  refine (f35 l).mono ?_
  rintro r objs ⟨A, e2, nz, ⟨_, rfl, rfl⟩ | ⟨h1, _⟩, rfl, rfl⟩
  · exact ⟨nz, rfl, rfl⟩
  · rw [hp] at h1; cases h1
theorem ParseF {l : List UInt8} (hp : parseB l = false) : ACall Tryz.prog 35 [.str (bs l)] (fun r objs => ∃ nz, r = .tup [.agg [.pay (.rows []) nz], .int .i64 5] ∧ objs = []) := by
  refine (f35 l).mono ?_
  rintro r objs ⟨A, e2, nz, ⟨h1, _⟩ | ⟨_, rfl, rfl⟩, rfl, rfl⟩
  · rw [hp] at h1; cases h1
  · exact ⟨nz, rfl, rfl⟩
theorem ParseB {a : List (List Int)} (hV : Vld a (a.getD 0 []).length) : ACall Tryz.prog 35 [.str (bs (textB a))] (fun r objs => ∃ nz, r = .tup [.agg [.pay (.rows a) nz], .int .i64 0] ∧ objs = []) := by
  obtain ⟨hb1, hb2⟩ := text_back hV
  have := ParseT hb2
  rwa [hb1] at this
/- mizmaze/mizmazelaw01.AutoTexts -/
def c9 : VCfg := ⟨⟨[], [], [], [0, 1, 2, 4, 5, 6, 7, 8, 9, 10, 11, 12, 20, 26, 51, 63]⟩, [], [], []⟩
set_option maxHeartbeats 8000000 in
theorem lawAutoTexts (a : List (List Int)) (l : List UInt8) (hl : a.length ≤ 4611686018427387904) (hl2 : ∀ r ∈ a, r.length ≤ 4611686018427387904) (hs : l.length ≤ 4611686018427387904) :
    ACall Tryz.prog 9 [.agg [.pay (.rows a) false], .str (bs l)] (fun r objs => r = .bool true ∧ objs = []) := by
  refine acall_intro (tyP_ok _) c9 2000 [.tmp 4] Tryz.func9 rfl (by rfl) rfl (by kernel_rfl) ?_
  unfold Tryz.f9
  simp (config := {implicitDefEqProofs := false, maxSteps := 4000000}) (disch := omega) only [push_cast, c9, Nat.reduceAdd, Nat.reduceSub, Nat.reduceMul, Nat.reduceBEq, Int.reduceToNat, Int.reduceNeg, Int.reduceLE, Int.reduceLT, Int.reduceBEq, Int.reduceBNe, Int.reduceEq, Bool.not_true, Bool.not_false, eq_self, reduceCtorEq]
  refine callW_rel (f34 a false hl hl2) ?_
  rintro R O ⟨hT, rfl⟩
  have hT2 : ∃ t e, R = .tup [.str (bs t), .int .i64 e] ∧ ((vldB a = true ∧ t = textB a ∧ e = 0) ∨ (vldB a = false ∧ t = [] ∧ e = 1)) := by
    rcases hT with ⟨h1, h2⟩ | ⟨h1, h2⟩
    · exact ⟨_, _, h2, .inl ⟨h1, rfl, rfl⟩⟩
    · exact ⟨_, _, h2, .inr ⟨h1, rfl, rfl⟩⟩
  obtain ⟨t, e, rfl, hT3⟩ := hT2
  simp (config := {implicitDefEqProofs := false, maxSteps := 4000000}) (disch := omega) only [push_cast, c9, Nat.reduceAdd, Nat.reduceSub, Nat.reduceMul, Nat.reduceBEq, Int.reduceToNat, Int.reduceNeg, Int.reduceLE, Int.reduceLT, Int.reduceBEq, Int.reduceBNe, Int.reduceEq, Bool.not_true, Bool.not_false, eq_self, reduceCtorEq]
  refine callW_eq _ _ (f12 a false hl hl2) ?_
  simp (config := {implicitDefEqProofs := false, maxSteps := 4000000}) (disch := omega) only [push_cast, c9, Nat.reduceAdd, Nat.reduceSub, Nat.reduceMul, Nat.reduceBEq, Int.reduceToNat, Int.reduceNeg, Int.reduceLE, Int.reduceLT, Int.reduceBEq, Int.reduceBNe, Int.reduceEq, Bool.not_true, Bool.not_false, eq_self, reduceCtorEq]
  refine ⟨fun hv => ?_, fun hv => ?_⟩
  · obtain ⟨rfl, rfl⟩ : t = [] ∧ e = 1 := by
      rcases hT3 with ⟨h1, _⟩ | ⟨_, h1⟩
      · rw [hv] at h1; cases h1
      · exact h1
    refine ⟨fun h => h rfl, fun _ => ⟨fun h => h rfl, fun _ => ?_⟩⟩
    refine callW_rel (f37 l hs) ?_
    rintro R O ⟨⟨hp, rfl⟩ | ⟨hp, rfl⟩, rfl⟩
    · simp (config := {implicitDefEqProofs := false, maxSteps := 4000000}) (disch := omega) only [push_cast, c9, Nat.reduceAdd, Nat.reduceSub, Nat.reduceMul, Nat.reduceBEq, Int.reduceToNat, Int.reduceNeg, Int.reduceLE, Int.reduceLT, Int.reduceBEq, Int.reduceBNe, Int.reduceEq, Bool.not_true, Bool.not_false, eq_self, reduceCtorEq]
      refine callW_rel (ParseT hp) ?_
      rintro R O ⟨nz, rfl, rfl⟩
      simp (config := {implicitDefEqProofs := false, maxSteps := 4000000}) (disch := omega) only [push_cast, c9, Nat.reduceAdd, Nat.reduceSub, Nat.reduceMul, Nat.reduceBEq, Int.reduceToNat, Int.reduceNeg, Int.reduceLE, Int.reduceLT, Int.reduceBEq, Int.reduceBNe, Int.reduceEq, Bool.not_true, Bool.not_false, eq_self, reduceCtorEq]
      have hVm := vldB_iff.1 (parse_text hp).1
      have hVn := hVm.n2
      refine callW_eq _ _ (f32 (matV l) (matV l) _ _ (by omega) (fun r hr => by have := (hVm.rows hr).2.1; omega)) ?_
      simp (config := {implicitDefEqProofs := false, maxSteps := 4000000}) (disch := omega) only [push_cast, c9, Nat.reduceAdd, Nat.reduceSub, Nat.reduceMul, Nat.reduceBEq, Int.reduceToNat, Int.reduceNeg, Int.reduceLE, Int.reduceLT, Int.reduceBEq, Int.reduceBNe, Int.reduceEq, Bool.not_true, Bool.not_false, eq_self, reduceCtorEq]
      refine callW_eq _ _ (f16) ?_
      simp (config := {implicitDefEqProofs := false, maxSteps := 4000000}) (disch := omega) only [push_cast, c9, Nat.reduceAdd, Nat.reduceSub, Nat.reduceMul, Nat.reduceBEq, Int.reduceToNat, Int.reduceNeg, Int.reduceLE, Int.reduceLT, Int.reduceBEq, Int.reduceBNe, Int.reduceEq, Bool.not_true, Bool.not_false, eq_self, reduceCtorEq]
    · simp (config := {implicitDefEqProofs := false, maxSteps := 4000000}) (disch := omega) only [push_cast, c9, Nat.reduceAdd, Nat.reduceSub, Nat.reduceMul, Nat.reduceBEq, Int.reduceToNat, Int.reduceNeg, Int.reduceLE, Int.reduceLT, Int.reduceBEq, Int.reduceBNe, Int.reduceEq, Bool.not_true, Bool.not_false, eq_self, reduceCtorEq]
      refine callW_rel (ParseF hp) ?_
      rintro R O ⟨nz, rfl, rfl⟩
      simp (config := {implicitDefEqProofs := false, maxSteps := 4000000}) (disch := omega) only [push_cast, c9, Nat.reduceAdd, Nat.reduceSub, Nat.reduceMul, Nat.reduceBEq, Int.reduceToNat, Int.reduceNeg, Int.reduceLE, Int.reduceLT, Int.reduceBEq, Int.reduceBNe, Int.reduceEq, Bool.not_true, Bool.not_false, eq_self, reduceCtorEq]
      refine callW_eq _ _ (f16) ?_
      simp (config := {implicitDefEqProofs := false, maxSteps := 4000000}) (disch := omega) only [push_cast, c9, Nat.reduceAdd, Nat.reduceSub, Nat.reduceMul, Nat.reduceBEq, Int.reduceToNat, Int.reduceNeg, Int.reduceLE, Int.reduceLT, Int.reduceBEq, Int.reduceBNe, Int.reduceEq, Bool.not_true, Bool.not_false, eq_self, reduceCtorEq]
  · obtain ⟨rfl, rfl⟩ : t = textB a ∧ e = 0 := by
      rcases hT3 with ⟨_, h1⟩ | ⟨h1, _⟩
      · exact h1
      · rw [hv] at h1; cases h1
    have hV := vldB_iff.1 hv
    have hn := hV.n2
    refine callW_rel (ParseB hV) ?_
    rintro R O ⟨nz, rfl, rfl⟩
    simp (config := {implicitDefEqProofs := false, maxSteps := 4000000}) (disch := omega) only [push_cast, c9, Nat.reduceAdd, Nat.reduceSub, Nat.reduceMul, Nat.reduceBEq, Int.reduceToNat, Int.reduceNeg, Int.reduceLE, Int.reduceLT, Int.reduceBEq, Int.reduceBNe, Int.reduceEq, Bool.not_true, Bool.not_false, eq_self, reduceCtorEq]
    refine callW_eq _ _ (f36 a false _ hV) ?_
    simp (config := {implicitDefEqProofs := false, maxSteps := 4000000}) (disch := omega) only [push_cast, c9, Nat.reduceAdd, Nat.reduceSub, Nat.reduceMul, Nat.reduceBEq, Int.reduceToNat, Int.reduceNeg, Int.reduceLE, Int.reduceLT, Int.reduceBEq, Int.reduceBNe, Int.reduceEq, Bool.not_true, Bool.not_false, eq_self, reduceCtorEq]
    refine callW_eq _ _ (f32 a a _ _ (by omega) (fun r hr => by have := (hV.rows hr).2.1; omega)) ?_
    simp (config := {implicitDefEqProofs := false, maxSteps := 4000000}) (disch := omega) only [push_cast, c9, Nat.reduceAdd, Nat.reduceSub, Nat.reduceMul, Nat.reduceBEq, Int.reduceToNat, Int.reduceNeg, Int.reduceLE, Int.reduceLT, Int.reduceBEq, Int.reduceBNe, Int.reduceEq, Bool.not_true, Bool.not_false, eq_self, reduceCtorEq]
    refine callW_rel (f37 l hs) ?_
    rintro R O ⟨⟨hp, rfl⟩ | ⟨hp, rfl⟩, rfl⟩
    · simp (config := {implicitDefEqProofs := false, maxSteps := 4000000}) (disch := omega) only [push_cast, c9, Nat.reduceAdd, Nat.reduceSub, Nat.reduceMul, Nat.reduceBEq, Int.reduceToNat, Int.reduceNeg, Int.reduceLE, Int.reduceLT, Int.reduceBEq, Int.reduceBNe, Int.reduceEq, Bool.not_true, Bool.not_false, eq_self, reduceCtorEq]
      refine callW_rel (ParseT hp) ?_
      rintro R O ⟨nz, rfl, rfl⟩
      simp (config := {implicitDefEqProofs := false, maxSteps := 4000000}) (disch := omega) only [push_cast, c9, Nat.reduceAdd, Nat.reduceSub, Nat.reduceMul, Nat.reduceBEq, Int.reduceToNat, Int.reduceNeg, Int.reduceLE, Int.reduceLT, Int.reduceBEq, Int.reduceBNe, Int.reduceEq, Bool.not_true, Bool.not_false, eq_self, reduceCtorEq]
      have hVm := vldB_iff.1 (parse_text hp).1
      have hVn := hVm.n2
      refine callW_eq _ _ (f32 (matV l) (matV l) _ _ (by omega) (fun r hr => by have := (hVm.rows hr).2.1; omega)) ?_
      simp (config := {implicitDefEqProofs := false, maxSteps := 4000000}) (disch := omega) only [push_cast, c9, Nat.reduceAdd, Nat.reduceSub, Nat.reduceMul, Nat.reduceBEq, Int.reduceToNat, Int.reduceNeg, Int.reduceLE, Int.reduceLT, Int.reduceBEq, Int.reduceBNe, Int.reduceEq, Bool.not_true, Bool.not_false, eq_self, reduceCtorEq]
      refine callW_eq _ _ (f16) ?_
      simp (config := {implicitDefEqProofs := false, maxSteps := 4000000}) (disch := omega) only [push_cast, c9, Nat.reduceAdd, Nat.reduceSub, Nat.reduceMul, Nat.reduceBEq, Int.reduceToNat, Int.reduceNeg, Int.reduceLE, Int.reduceLT, Int.reduceBEq, Int.reduceBNe, Int.reduceEq, Bool.not_true, Bool.not_false, eq_self, reduceCtorEq]
    · simp (config := {implicitDefEqProofs := false, maxSteps := 4000000}) (disch := omega) only [push_cast, c9, Nat.reduceAdd, Nat.reduceSub, Nat.reduceMul, Nat.reduceBEq, Int.reduceToNat, Int.reduceNeg, Int.reduceLE, Int.reduceLT, Int.reduceBEq, Int.reduceBNe, Int.reduceEq, Bool.not_true, Bool.not_false, eq_self, reduceCtorEq]
      refine callW_rel (ParseF hp) ?_
      rintro R O ⟨nz, rfl, rfl⟩
      simp (config := {implicitDefEqProofs := false, maxSteps := 4000000}) (disch := omega) only [push_cast, c9, Nat.reduceAdd, Nat.reduceSub, Nat.reduceMul, Nat.reduceBEq, Int.reduceToNat, Int.reduceNeg, Int.reduceLE, Int.reduceLT, Int.reduceBEq, Int.reduceBNe, Int.reduceEq, Bool.not_true, Bool.not_false, eq_self, reduceCtorEq]
      refine callW_eq _ _ (f16) ?_
      simp (config := {implicitDefEqProofs := false, maxSteps := 4000000}) (disch := omega) only [push_cast, c9, Nat.reduceAdd, Nat.reduceSub, Nat.reduceMul, Nat.reduceBEq, Int.reduceToNat, Int.reduceNeg, Int.reduceLE, Int.reduceLT, Int.reduceBEq, Int.reduceBNe, Int.reduceEq, Bool.not_true, Bool.not_false, eq_self, reduceCtorEq]
end Go.AM
end
