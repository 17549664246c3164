/-
  Contract of HomeResets; conditions in each statement.
-/
import Derived.Test.YtkpoffjimfiabaaS7
import Derived.Test.YtkpoffjimfiabaaS8b
set_option linter.unusedVariables false
set_option linter.unusedSimpArgs false
set_option linter.unusedSectionVars false
set_option linter.unnecessarySimpa false

section
namespace Go.AM
open Go Go.Proofs Go.Sort
def conR (a : List (List Int)) (c : Int) (s : Nat) : List Int := List.replicate (min (a.getD s []).length 100) c
def conO (a : List (List Int)) (c : Int) (n : Nat) : List (List Int) := (List.range n).map (conR a c)
def fillC (c : Int) (L x : Nat) : List Int := List.replicate x c ++ List.replicate (L - x) 0
theorem fillC_len {c : Int} {L x : Nat} (h : x ≤ L) : (fillC c L x).length = L := by simp [fillC]; omega
theorem rep_cons {c : Int} {R : List Int} : ∀ x : Nat, List.replicate x c ++ c :: R = c :: (List.replicate x c ++ R)
 | 0 => rfl
 | x + 1 => by rw [List.replicate_succ, List.cons_append, rep_cons x, List.cons_append]
theorem fillC_set {c : Int} {L x : Nat} (h : x < L) : (fillC c L x).set x c = fillC c L (x + 1) := by
 obtain ⟨d, rfl⟩ : ∃ d, L = x + (d + 1) := ⟨L - x - 1, by omega⟩
 unfold fillC
 rw [show x + (d + 1) - x = d + 1 by omega, show x + (d + 1) - (x + 1) = d by omega, List.set_append_right _ _ (by simp)]
 simp [List.replicate_succ, rep_cons]
theorem fillC_end {c : Int} {L : Nat} : fillC c L L = List.replicate L c := by simp [fillC]
theorem allS_len (n : Nat) : (allS n).length = n := by simp [allS]
theorem con_vm {a : List (List Int)} {k : Nat} {c : Int} (hV : Vld a k) (hc : 0 ≤ c ∧ c < 16) : VM a (conO a c a.length) k := by
 have hk2 := hV.k2
 refine ⟨hV, by simp [conO], fun r hr => ?_⟩
 obtain ⟨s, hs, rfl⟩ := List.mem_map.1 hr
 have hs := List.mem_range.1 hs
 have hrl := (hV.row _ (getD_mem' hs)).1
 refine ⟨by unfold conR; rw [List.length_replicate, hrl]; omega, fun y hy => ?_⟩
 rw [List.eq_of_mem_replicate hy]
 exact hc
theorem con_out {a : List (List Int)} {k : Nat} {c : Int} (hV : Vld a k) {s x : Int} (hs : 0 ≤ s ∧ s < a.length) (hx : 0 ≤ x ∧ x < (k : Int)) : outG (conO a c a.length) s x = c := by
 have hk2 := hV.k2
 have hrl := (hV.row _ (getD_mem' (show s.toNat < a.length by omega))).1
 have e : (conO a c a.length).getD s.toNat [] = List.replicate k c := by
  have h1 : s.toNat < a.length := by omega
  simp [conO, conR, List.getD, h1]
  simp [List.getD, h1] at hrl
  omega
 unfold outG
 rw [e]
 have h2 : x.toNat < k := by omega
 simp [List.getD, h2]
theorem con_outs {a : List (List Int)} {k : Nat} {c : Int} (hV : Vld a k) {s : Int} (hs : 0 ≤ s ∧ s < a.length) : ∀ w : List Int, (∀ x ∈ w, 0 ≤ x ∧ x < (k : Int)) → outsG a (conO a c a.length) s w = List.replicate w.length c := by
 refine snocRec (fun _ => rfl) fun w x ih h => ?_
 have hw : ∀ x ∈ w, 0 ≤ x ∧ x < (k : Int) := fun y hy => h y (by simp [hy])
 rw [outs_snoc, ih hw, con_out hV (hV.lead w hs.1 hs.2 hw) (h x (by simp))]
 simp [List.replicate_succ']
theorem len_one {l : List Int} (hlt : l.Pairwise (· < ·)) (hne : l ≠ []) : l.length = 1 ↔ ∀ x ∈ l, ∀ y ∈ l, x = y := by
 match l, hlt, hne with
 | [x], _, _ => simp
 | x :: y :: l, hlt, _ =>
  have := (List.pairwise_cons.1 hlt).1 y (by simp)
  constructor
  ·intro h; simp at h
  ·intro h; have := h x (by simp) y (by simp); omega
theorem con_hom {a : List (List Int)} {k : Nat} {c : Int} (hV : Vld a k) (hM : VM a (conO a c a.length) k) {w : List Int} (hw : ∀ x ∈ w, 0 ≤ x ∧ x < (k : Int)) : homB a (conO a c a.length) w = decide ((imageL a (allS a.length) w).length = 1) := by
 have hset : setOk a.length (allS a.length) := ⟨fun x hx => mem_allS.1 hx, allS_lt _⟩
 have hn1 := hV.n1
 have e := imageL_eq hV hset hw
 have hmem : ∀ t, t ∈ imageL a (allS a.length) w ↔ ∃ s, (0 ≤ s ∧ s < (a.length : Int)) ∧ leadG a s w = t := fun t => by
  rw [← e, mem_setL, List.mem_map]
  constructor
  ·rintro ⟨s, hs, h⟩; exact ⟨s, mem_allS.1 hs, h⟩
  ·rintro ⟨s, hs, h⟩; exact ⟨s, mem_allS.2 hs, h⟩
 have hlt : (imageL a (allS a.length) w).Pairwise (· < ·) := by rw [← e]; exact setL_lt _
 have hne : imageL a (allS a.length) w ≠ [] := fun h0 => by
  have := (hmem (leadG a 0 w)).2 ⟨0, ⟨by omega, by omega⟩, rfl⟩
  rw [h0] at this; cases this
 rw [Bool.eq_iff_iff, homB_iff hM hw, decide_eq_true_eq, len_one hlt hne]
 constructor
 ·intro h x hx y hy
  obtain ⟨s, hs, rfl⟩ := (hmem x).1 hx
  obtain ⟨t, ht, rfl⟩ := (hmem y).1 hy
  exact h s t hs ht (by rw [con_outs hV hs w hw, con_outs hV ht w hw])
 ·intro h s t hs ht _
  exact h _ ((hmem _).2 ⟨s, hs, rfl⟩) _ ((hmem _).2 ⟨t, ht, rfl⟩)
theorem con_tel {a : List (List Int)} {k : Nat} {c : Int} (hV : Vld a k) (hM : VM a (conO a c a.length) k) {w : List Int} (hw : ∀ x ∈ w, 0 ≤ x ∧ x < (k : Int)) : telB a (conO a c a.length) w = (homB a (conO a c a.length) w && decide (a.length = 1)) := by
 have hn1 := hV.n1
 rw [Bool.eq_iff_iff, telB_iff hM hw, Bool.and_eq_true, homB_iff hM hw, decide_eq_true_eq]
 constructor
 ·intro h
  refine ⟨telW_hom h, ?_⟩
  by_cases h2 : a.length = 1
  ·exact h2
  ·have := h 0 1 (by omega) (by omega) (by rw [con_outs hV (by omega) w hw, con_outs hV (by omega) w hw])
   omega
 ·rintro ⟨_, h1⟩ s t hs ht _
  omega
def c9 : VCfg := ⟨⟨[], [], [11], [0, 1, 2, 3, 6, 7, 8, 9, 10, 11, 12, 13, 14, 15, 16, 17, 18, 30, 44, 70, 76]⟩, [], [], []⟩
set_option maxHeartbeats 8000000 in
set_option maxRecDepth 100000 in
theorem f9 (a : List (List Int)) (v : Int) (w : List Int) (hl : a.length ≤ 4611686018427387904) (hl2 : ∀ r ∈ a, r.length ≤ 4611686018427387904) (hv : 0 ≤ v ∧ v < 256) (hw : w.length ≤ 17592186044416) :
  ACall Try.prog 9 [.agg [.pay (.rows a) false], .int .u8 v, .pay (.ints .i64 w) false] (fun r objs => r = .bool true ∧ objs = []) := by
 refine acall_intro (tyP_ok _) c9 2000 [.tmp 6] Try.func9 rfl (by rfl) rfl (by kernel_rfl) ?_
 unfold Try.f9
 simp -implicitDefEqProofs (maxSteps := 4000000) (disch := omega) only [push_cast, c9, Nat.reduceAdd, Nat.reduceSub, Nat.reduceMul, Nat.reduceBEq, Int.reduceToNat, Int.reduceNeg, Int.reduceLE, Int.reduceLT, Int.reduceBEq, Int.reduceBNe, Int.reduceEq, eq_self, reduceCtorEq]
 refine awp_virt (i := 0) (c := 1) (p := .rows []) 25 rfl rfl rfl ?_
 refine awp_upto (tyP_ok _) c9 2000 [1, 2, 3, 6, 7, 8] (min a.length 100) (fun _ => True) (fun s => ⟨130, [(1, .int .u8 v), (2, .pay (.ints .i64 w) false), (3, .fref [.pay (.rows a) false]), (6, .bool false), (7, .ref 0 0), (8, .int .i64 s)], [.box [.pay (.rows a) false, .own 1], .arr (.rows (conO a (v % 16) s)) ⟨25, true⟩]⟩) (by kernel_rfl) ?_ ?_ ?_
 ·simp -implicitDefEqProofs (maxSteps := 4000000) (disch := omega) only [push_cast, c9, Nat.reduceAdd, Nat.reduceSub, Nat.reduceMul, Nat.reduceBEq, Int.reduceToNat, Int.reduceNeg, Int.reduceLE, Int.reduceLT, Int.reduceBEq, Int.reduceBNe, Int.reduceEq, eq_self, reduceCtorEq]
  rfl
 ·trivial
 intro s hs _
 have hml : (conO a (v % 16) s).length = s := by simp [conO]
 simp -implicitDefEqProofs (maxSteps := 4000000) (disch := omega) only [push_cast, c9, Nat.reduceAdd, Nat.reduceSub, Nat.reduceMul, Nat.reduceBEq, Int.reduceToNat, Int.reduceNeg, Int.reduceLE, Int.reduceLT, Int.reduceBEq, Int.reduceBNe, Int.reduceEq, eq_self, reduceCtorEq]
 refine ⟨fun hlt => ⟨fun h100 => ⟨hlt, ⟨by omega, by omega, by omega⟩, ?_⟩, fun h100 => ?_⟩, fun hge => ?_⟩
 ·have eL : (min ((a.getD s []).length : Int) 100).toNat = min (a.getD s []).length 100 := by omega
  rw [eL]
  generalize hL : min (a.getD s []).length 100 = L at *
  have hf0 : List.replicate L (0 : Int) = fillC (v % 16) L 0 := by simp [fillC]
  rw [hf0]
  refine awp_upto (tyP_ok _) c9 2000 [1, 2, 3, 6, 7, 8, 9, 10] (L) (fun _ => True) (fun x => ⟨130, [(1, .int .u8 v), (2, .pay (.ints .i64 w) false), (3, .fref [.pay (.rows a) false]), (6, .bool false), (7, .ref 0 0), (8, .int .i64 s), (9, .own 1), (10, .int .i64 x)], [.box [.pay (.rows a) false, .own 2], .arr (.ints .i64 (fillC (v % 16) L x)) ⟨3, false⟩, .arr (.rows (conO a (v % 16) s)) ⟨25, true⟩]⟩) (by kernel_rfl) ?_ ?_ ?_
  ·simp -implicitDefEqProofs (maxSteps := 4000000) (disch := omega) only [push_cast, c9, Nat.reduceAdd, Nat.reduceSub, Nat.reduceMul, Nat.reduceBEq, Int.reduceToNat, Int.reduceNeg, Int.reduceLE, Int.reduceLT, Int.reduceBEq, Int.reduceBNe, Int.reduceEq, eq_self, reduceCtorEq]
  ·trivial
  intro x hx _
  have hfl := fillC_len (c := v % 16) hx
  have e1 : IntKind.i64.wrap v = v := wrap_nat (by omega) (by omega)
  have e2 : v.tmod 16 = v % 16 := Int.tmod_eq_emod_of_nonneg hv.1
  simp -implicitDefEqProofs (maxSteps := 4000000) (disch := omega) only [push_cast, c9, Nat.reduceAdd, Nat.reduceSub, Nat.reduceMul, Nat.reduceBEq, Int.reduceToNat, Int.reduceNeg, Int.reduceLE, Int.reduceLT, Int.reduceBEq, Int.reduceBNe, Int.reduceEq, eq_self, reduceCtorEq]
  rw [e2, hfl]
  refine ⟨fun hxl => ⟨hxl, hxl, fillC_set hxl⟩, fun hge => ⟨by omega, by omega, ?_⟩⟩
  obtain rfl : x = L := by omega
  have e3 : conR a (v % 16) s = List.replicate x (v % 16) := by unfold conR; rw [hL]
  rw [fillC_end, ← e3]
  simp [conO, List.range_succ]
 ·refine callW_rel (f12 a _ false _ hl (by rw [hml]; omega)) ?_
  rintro R O' ⟨b, rfl, hb, rfl⟩
  simp -implicitDefEqProofs (maxSteps := 4000000) (disch := omega) only [push_cast, c9, Nat.reduceAdd, Nat.reduceSub, Nat.reduceMul, Nat.reduceBEq, Int.reduceToNat, Int.reduceNeg, Int.reduceLE, Int.reduceLT, Int.reduceBEq, Int.reduceBNe, Int.reduceEq, eq_self, reduceCtorEq]
  refine ⟨fun h => ?_, fun h => ⟨fun h1 => ?_, fun h1 => ?_⟩⟩
  ·refine callW_eq _ _ (f13) ?_
   simp -implicitDefEqProofs (maxSteps := 4000000) (disch := omega) only [push_cast, c9, Nat.reduceAdd, Nat.reduceSub, Nat.reduceMul, Nat.reduceBEq, Int.reduceToNat, Int.reduceNeg, Int.reduceLE, Int.reduceLT, Int.reduceBEq, Int.reduceBNe, Int.reduceEq, eq_self, reduceCtorEq]
  ·refine callW_eq _ _ (f13) ?_
   simp -implicitDefEqProofs (maxSteps := 4000000) (disch := omega) only [push_cast, c9, Nat.reduceAdd, Nat.reduceSub, Nat.reduceMul, Nat.reduceBEq, Int.reduceToNat, Int.reduceNeg, Int.reduceLE, Int.reduceLT, Int.reduceBEq, Int.reduceBNe, Int.reduceEq, eq_self, reduceCtorEq]
  refine callW_eq _ _ (f30 a false hl hl2) ?_
  simp -implicitDefEqProofs (maxSteps := 4000000) (disch := omega) only [push_cast, c9, Nat.reduceAdd, Nat.reduceSub, Nat.reduceMul, Nat.reduceBEq, Int.reduceToNat, Int.reduceNeg, Int.reduceLE, Int.reduceLT, Int.reduceBEq, Int.reduceBNe, Int.reduceEq, eq_self, reduceCtorEq]
  refine ⟨fun hvf => ?_, fun hvt => ?_⟩
  ·refine callW_eq _ _ (f13) ?_
   simp -implicitDefEqProofs (maxSteps := 4000000) (disch := omega) only [push_cast, c9, Nat.reduceAdd, Nat.reduceSub, Nat.reduceMul, Nat.reduceBEq, Int.reduceToNat, Int.reduceNeg, Int.reduceLE, Int.reduceLT, Int.reduceBEq, Int.reduceBNe, Int.reduceEq, eq_self, reduceCtorEq]
  ·exfalso
   have := (vldB_iff.1 hvt).n2
   omega
 ·obtain rfl : s = a.length := by omega
  refine callW_rel (f12 a _ false _ hl (by rw [hml]; omega)) ?_
  rintro R O' ⟨b, rfl, hb, rfl⟩
  simp -implicitDefEqProofs (maxSteps := 4000000) (disch := omega) only [push_cast, c9, Nat.reduceAdd, Nat.reduceSub, Nat.reduceMul, Nat.reduceBEq, Int.reduceToNat, Int.reduceNeg, Int.reduceLE, Int.reduceLT, Int.reduceBEq, Int.reduceBNe, Int.reduceEq, eq_self, reduceCtorEq]
  refine ⟨fun h => ?_, fun h => ⟨fun h1 => ?_, fun h1 => ?_⟩⟩
  ·refine callW_eq _ _ (f13) ?_
   simp -implicitDefEqProofs (maxSteps := 4000000) (disch := omega) only [push_cast, c9, Nat.reduceAdd, Nat.reduceSub, Nat.reduceMul, Nat.reduceBEq, Int.reduceToNat, Int.reduceNeg, Int.reduceLE, Int.reduceLT, Int.reduceBEq, Int.reduceBNe, Int.reduceEq, eq_self, reduceCtorEq]
  ·refine callW_eq _ _ (f13) ?_
   simp -implicitDefEqProofs (maxSteps := 4000000) (disch := omega) only [push_cast, c9, Nat.reduceAdd, Nat.reduceSub, Nat.reduceMul, Nat.reduceBEq, Int.reduceToNat, Int.reduceNeg, Int.reduceLE, Int.reduceLT, Int.reduceBEq, Int.reduceBNe, Int.reduceEq, eq_self, reduceCtorEq]
  refine callW_eq _ _ (f30 a false hl hl2) ?_
  simp -implicitDefEqProofs (maxSteps := 4000000) (disch := omega) only [push_cast, c9, Nat.reduceAdd, Nat.reduceSub, Nat.reduceMul, Nat.reduceBEq, Int.reduceToNat, Int.reduceNeg, Int.reduceLE, Int.reduceLT, Int.reduceBEq, Int.reduceBNe, Int.reduceEq, eq_self, reduceCtorEq]
  refine ⟨fun hvf => ?_, fun hvt => ?_⟩
  ·refine callW_eq _ _ (f13) ?_
   simp -implicitDefEqProofs (maxSteps := 4000000) (disch := omega) only [push_cast, c9, Nat.reduceAdd, Nat.reduceSub, Nat.reduceMul, Nat.reduceBEq, Int.reduceToNat, Int.reduceNeg, Int.reduceLE, Int.reduceLT, Int.reduceBEq, Int.reduceBNe, Int.reduceEq, eq_self, reduceCtorEq]
  have hV := vldB_iff.1 hvt
  have hn1 := hV.n1
  have hn2 := hV.n2
  have hb2 := hb h
  have hc : 0 ≤ v % 16 ∧ v % 16 < 16 := ⟨Int.emod_nonneg _ (by omega), Int.emod_lt_of_pos _ (by omega)⟩
  have hM := con_vm hV hc
  have hvm : vmB a (conO a (v % 16) a.length) = true := hM.ok
  have hk0 := hM.k0
  refine awp_upto (tyP_ok _) c9 2000 [2, 3, 6, 7, 11, 12] (a.length) (fun _ => True) (fun i => ⟨130, [(2, .pay (.ints .i64 w) false), (3, .fref [.pay (.rows a) false]), (6, .bool false), (7, .ref 0 0), (11, .own 1), (12, .int .i64 i)], [.box [.pay (.rows a) false, .own 2], .arr (.ints .i64 (allS i)) ⟨3, true⟩, .arr (.rows (conO a (v % 16) a.length)) ⟨25, true⟩]⟩) (by kernel_rfl) ?_ ?_ ?_
  ·simp -implicitDefEqProofs (maxSteps := 4000000) (disch := omega) only [push_cast, c9, Nat.reduceAdd, Nat.reduceSub, Nat.reduceMul, Nat.reduceBEq, Int.reduceToNat, Int.reduceNeg, Int.reduceLE, Int.reduceLT, Int.reduceBEq, Int.reduceBNe, Int.reduceEq, eq_self, reduceCtorEq]
   rfl
  ·trivial
  intro i hi _
  have hal := allS_len i
  simp -implicitDefEqProofs (maxSteps := 4000000) (disch := omega) only [push_cast, c9, Nat.reduceAdd, Nat.reduceSub, Nat.reduceMul, Nat.reduceBEq, Int.reduceToNat, Int.reduceNeg, Int.reduceLE, Int.reduceLT, Int.reduceBEq, Int.reduceBNe, Int.reduceEq, eq_self, reduceCtorEq]
  refine ⟨fun hlt => ⟨by omega, hlt, ?_⟩, fun hge => ?_⟩
  ·simp [allS, List.range_succ]
  obtain rfl : i = a.length := by omega
  cases hW : wordB (a.getD 0 []).length w with
  | false =>
   refine callW_eq _ _ (Homes_b2 a _ false _ false w hb2 (by omega) hvm hW) ?_
   simp -implicitDefEqProofs (maxSteps := 4000000) (disch := omega) only [push_cast, c9, Nat.reduceAdd, Nat.reduceSub, Nat.reduceMul, Nat.reduceBEq, Int.reduceToNat, Int.reduceNeg, Int.reduceLE, Int.reduceLT, Int.reduceBEq, Int.reduceBNe, Int.reduceEq, eq_self, reduceCtorEq]
   refine callW_eq _ _ (Tells_b2 a _ false _ false w hb2 (by omega) hvm hW) ?_
   simp -implicitDefEqProofs (maxSteps := 4000000) (disch := omega) only [push_cast, c9, Nat.reduceAdd, Nat.reduceSub, Nat.reduceMul, Nat.reduceBEq, Int.reduceToNat, Int.reduceNeg, Int.reduceLE, Int.reduceLT, Int.reduceBEq, Int.reduceBNe, Int.reduceEq, eq_self, reduceCtorEq]
   refine callW_rel (f31 a false _ false (allS a.length) w hl hl2 (by omega) (by omega)) ?_
   rintro R O' ⟨l, e, nz, hI, rfl, rfl⟩
   simp -implicitDefEqProofs (maxSteps := 4000000) (disch := omega) only [push_cast, c9, Nat.reduceAdd, Nat.reduceSub, Nat.reduceMul, Nat.reduceBEq, Int.reduceToNat, Int.reduceNeg, Int.reduceLE, Int.reduceLT, Int.reduceBEq, Int.reduceBNe, Int.reduceEq, eq_self, reduceCtorEq]
   have hI2 : e = 2 ∧ l = [] := by
    rcases hI with ⟨h1, _⟩ | ⟨_, _, h1, h2⟩ | ⟨_, _, h1, _⟩
    ·rw [hvt] at h1; cases h1
    ·exact ⟨h1, h2⟩
    ·rw [hW] at h1; cases h1
   have q1 := hI2.1
   have q2 := hI2.2
   subst q1
   subst q2
   refine ⟨fun _ => ⟨fun _ => ⟨fun _ => ?_, fun h => absurd rfl h⟩, fun h => absurd rfl h⟩, fun h => absurd rfl h⟩
   refine callW_eq _ _ (f13) ?_
   simp -implicitDefEqProofs (maxSteps := 4000000) (disch := omega) only [push_cast, c9, Nat.reduceAdd, Nat.reduceSub, Nat.reduceMul, Nat.reduceBEq, Int.reduceToNat, Int.reduceNeg, Int.reduceLE, Int.reduceLT, Int.reduceBEq, Int.reduceBNe, Int.reduceEq, eq_self, reduceCtorEq]
  | true =>
   refine callW_eq _ _ (Homes_ok a _ false _ false w hb2 (by omega) hvm hW) ?_
   simp -implicitDefEqProofs (maxSteps := 4000000) (disch := omega) only [push_cast, c9, Nat.reduceAdd, Nat.reduceSub, Nat.reduceMul, Nat.reduceBEq, Int.reduceToNat, Int.reduceNeg, Int.reduceLE, Int.reduceLT, Int.reduceBEq, Int.reduceBNe, Int.reduceEq, eq_self, reduceCtorEq]
   refine callW_eq _ _ (Tells_ok a _ false _ false w hb2 (by omega) hvm hW) ?_
   simp -implicitDefEqProofs (maxSteps := 4000000) (disch := omega) only [push_cast, c9, Nat.reduceAdd, Nat.reduceSub, Nat.reduceMul, Nat.reduceBEq, Int.reduceToNat, Int.reduceNeg, Int.reduceLE, Int.reduceLT, Int.reduceBEq, Int.reduceBNe, Int.reduceEq, eq_self, reduceCtorEq]
   refine callW_rel (f31 a false _ false (allS a.length) w hl hl2 (by omega) (by omega)) ?_
   rintro R O' ⟨l, e, nz, hI, rfl, rfl⟩
   simp -implicitDefEqProofs (maxSteps := 4000000) (disch := omega) only [push_cast, c9, Nat.reduceAdd, Nat.reduceSub, Nat.reduceMul, Nat.reduceBEq, Int.reduceToNat, Int.reduceNeg, Int.reduceLE, Int.reduceLT, Int.reduceBEq, Int.reduceBNe, Int.reduceEq, eq_self, reduceCtorEq]
   have hw2 := (wordB_iff.1 hW).2
   have hI2 : e = 0 ∧ l = imageL a (allS a.length) w := by
    rcases hI with ⟨h1, _⟩ | ⟨_, h1, _⟩ | ⟨_, _, _, h1, h2⟩
    ·rw [hvt] at h1; cases h1
    ·rcases h1 with h1 | h1
     ·have : setB a.length (allS a.length) = true := decide_eq_true (⟨fun x hx => mem_allS.1 hx, allS_lt _⟩ : setOk a.length (allS a.length))
      rw [this] at h1; cases h1
     ·rw [hW] at h1; cases h1
    ·exact ⟨h1, h2⟩
   have q1 := hI2.1
   have q2 := hI2.2
   subst q1
   subst q2
   have q3 : homB a (conO a (v % 16) a.length) w = (((imageL a (allS a.length) w).length : Int) == 1) := by
    rw [con_hom hV hM hw2, Bool.eq_iff_iff]
    simp
    omega
   have q4 := con_tel hV hM hw2
   have q5 : ((((allS a.length).length : Nat) : Int) == 1) = decide (a.length = 1) := by
    rw [hal, Bool.eq_iff_iff]
    simp
    omega
   refine ⟨fun _ => ⟨fun _ => ⟨fun _ => ⟨fun ht => ⟨fun _ => ?_, fun h => absurd (by rw [q4, ht, q5, Bool.true_and]) h⟩, fun hf => ⟨fun _ => ?_, fun h => absurd (by rw [q4, hf, Bool.false_and]) h⟩⟩, fun h => absurd q3 h⟩, fun h => absurd rfl h⟩, fun h => absurd rfl h⟩
   ·refine callW_eq _ _ (f13) ?_
    simp -implicitDefEqProofs (maxSteps := 4000000) (disch := omega) only [push_cast, c9, Nat.reduceAdd, Nat.reduceSub, Nat.reduceMul, Nat.reduceBEq, Int.reduceToNat, Int.reduceNeg, Int.reduceLE, Int.reduceLT, Int.reduceBEq, Int.reduceBNe, Int.reduceEq, eq_self, reduceCtorEq]
   ·refine callW_eq _ _ (f13) ?_
    simp -implicitDefEqProofs (maxSteps := 4000000) (disch := omega) only [push_cast, c9, Nat.reduceAdd, Nat.reduceSub, Nat.reduceMul, Nat.reduceBEq, Int.reduceToNat, Int.reduceNeg, Int.reduceLE, Int.reduceLT, Int.reduceBEq, Int.reduceBNe, Int.reduceEq, eq_self, reduceCtorEq]
theorem lawHomeResets (a : List (List Int)) (v : Int) (wx : (Lit.int .u8 v).wf = true) (w : List Int) (hl : a.length ≤ 4611686018427387904) (hl2 : ∀ r ∈ a, r.length ≤ 4611686018427387904) (hw : w.length ≤ 17592186044416) :
  ACall Try.prog 9 [.agg [.pay (.rows a) false], .int .u8 v, .pay (.ints .i64 w) false] (fun r objs => r = .bool true ∧ objs = []) := by
 have hx : 0 ≤ v ∧ v < 256 := by
  simp only [Lit.wf, Bool.and_eq_true, decide_eq_true_eq] at wx
  have h1 : IntKind.u8.min = 0 := by decide
  have h2 : IntKind.u8.max = 255 := by decide
  omega
 exact f9 a v w hl hl2 hx hw
end Go.AM
end
