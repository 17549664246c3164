/-
  Contracts of the table of pairs, its words, and the best word; conditions in each statement.
-/
import Derived.Test.YtkpoffjimfiabaaGreatS4
import Derived.Test.YtkpoffjimfiabaaGreatP4
set_option linter.unusedVariables false
set_option linter.unusedSimpArgs false
set_option linter.unusedSectionVars false
set_option linter.unnecessarySimpa false

section
namespace Go.AM
open Go Go.Proofs Go.Sort
def tabL (D : Nat → Nat → Nat) : List AV := (List.range 3600).map fun i => AV.int .i64 ((D (i / 60) (i % 60) : Nat) : Int)
def tabO (N O : List (List Int)) (z z' mg : Bool) (D : Nat → Nat → Nat) : AObj := .box (.pay (.rows N) z :: .pay (.rows O) z' :: .bool mg :: tabL D)
theorem tabL_hs (D : Nat → Nat → Nat) (n : Nat) : (tabL D).flatMap (AV.hs n) = [] := by
 rw [List.flatMap_eq_nil_iff]
 intro a h
 obtain ⟨i, _, rfl⟩ := List.mem_map.1 h
 cases n <;> rfl
theorem tabL_mapH (D : Nat → Nat → Nat) (f : AV → AV) (hf : ∀ k n, f (.int k n) = .int k n) (n : Nat) : (tabL D).map (AV.mapH f n) = tabL D := by
 refine (List.map_congr_left fun a h => ?_).trans (List.map_id _)
 obtain ⟨i, _, rfl⟩ := List.mem_map.1 h
 cases n <;> simp [AV.mapH, hf]
theorem tabL_renL (D : Nat → Nat → Nat) (f : Nat → Option Nat) (n : Nat) : (tabL D).map (AV.mapH (renL f) n) = tabL D := tabL_mapH D _ (fun _ _ => rfl) n
theorem tabL_shift (D : Nat → Nat → Nat) (m n : Nat) : (tabL D).map (AV.mapH (shiftL m) n) = tabL D := tabL_mapH D _ (fun _ _ => rfl) n
theorem tabL_renJ (D : Nat → Nat → Nat) (o : List AObj) (s : List Nat) (ps : List (Bool × Nat × Nat)) (m n : Nat) : (tabL D).map (AV.mapH (renJ o s ps m) n) = tabL D := tabL_mapH D _ (fun _ _ => rfl) n
theorem tabL_len (D : Nat → Nat → Nat) : (tabL D).length = 3600 := by simp [tabL]
theorem tabL_kill (D : Nat → Nat → Nat) (i n : Nat) : (tabL D).map (AV.mapH (killL i) n) = tabL D := tabL_mapH D _ (fun _ _ => rfl) n
attribute [push_cast] tabL_kill tabO tabL_hs tabL_renL tabL_shift tabL_renJ tabL_len
theorem tab_drop (D : Nat → Nat → Nat) {a b : Nat} (ha : a < 60) (hb : b < 60) (u v w : AV) : List.drop (3 + a * 60 + b * 1) (u :: v :: w :: tabL D) = AV.int .i64 ((D a b : Nat) : Int) :: (tabL D).drop (a * 60 + b + 1) := by
 have h1 : a * 60 + b < (tabL D).length := by rw [tabL_len]; omega
 have hv : (tabL D)[a * 60 + b] = AV.int .i64 ((D a b : Nat) : Int) := by
  simp only [tabL, List.getElem_map, List.getElem_range]
  rw [show (a * 60 + b) / 60 = a by omega, show (a * 60 + b) % 60 = b by omega]
 generalize tabL D = L at *
 have e : 3 + a * 60 + b * 1 = (a * 60 + b) + 1 + 1 + 1 := by omega
 rw [e, List.drop_succ_cons, List.drop_succ_cons, List.drop_succ_cons, List.drop_eq_getElem_cons h1, hv]
theorem letL_found {N O : List (List Int)} {mg : Bool} {k : Nat} {D : Nat → Nat → Nat} {p q n x : Nat} (hx : x < k) (h : begL N O mg D p q n x = true) (hr : ∀ x', x' < x → begL N O mg D p q n x' = false) : letL N O mg k D p q n = some x := by
 unfold letL
 rw [List.find?_range_eq_some]
 exact ⟨h, by simpa using hx, fun y hy => by simpa using hr y hy⟩
theorem dec_in {n m : Int} (h : 0 ≤ n ∧ n < m) : decide (0 ≤ n ∧ n < m) = true := decide_eq_true h
def c69 : VCfg := ⟨⟨[], [], [], [0, 1, 2, 3, 8]⟩, [(1, (.op 0 .loose (.op 1 .loose (.op 2 .loose (.op 3 .loose (.op 4 .loose (.op 5 .loose (.op 6 .loose (.op 7 .loose (.op 8 .loose (.op 9 .loose (.op 10 .loose (.op 11 .loose (.op 12 .loose (.op 13 .loose (.op 14 .loose (.op 15 .loose (.op 16 .loose (.op 17 .loose (.op 18 .loose (.op 19 .loose (.op 20 .loose (.op 21 .loose (.op 22 .loose (.op 23 .loose (.op 24 .loose (.op 25 .loose (.op 26 .loose (.op 27 .loose (.op 28 .loose (.op 29 .loose (.op 30 .loose (.op 31 .loose (.op 32 .loose (.op 33 .loose (.op 34 .loose (.op 35 .loose (.op 36 .loose (.op 37 .loose (.op 38 .loose (.op 39 .loose (.op 40 .loose (.op 41 .loose (.op 42 .loose (.op 43 .loose (.op 44 .loose (.op 45 .loose (.op 46 .loose (.op 47 .loose (.op 48 .loose (.op 49 .loose (.op 50 .loose (.op 51 .loose (.op 52 .loose (.op 53 .loose (.op 54 .loose .nil))))))))))))))))))))))))))))))))))))))))))))))))))))))))], [], []⟩
set_option maxHeartbeats 4000000 in
set_option maxRecDepth 100000 in
theorem f69 (y : Yc) (g : Gh) (N O : List (List Int)) (z z' mg : Bool) (D : Nat → Nat → Nat) (p q x k : Nat) (hV : VM N O k) (hp : p < N.length) (hq : q < N.length) (hx : x < k) :
  GCall Tryz.prog y 69 g [.ref 0 0, .int .i64 p, .int .i64 q, .int .i64 x] [tabO N O z z' mg D] (fun g' r A O' => g' = g ∧ r = .bool (oneL N O mg p q x) ∧ A = [.ref 0 0, .int .i64 p, .int .i64 q, .int .i64 x] ∧ O' = [tabO N O z z' mg D]) := by
 have hol := hV.ol
 have n1 := (hV.v.row _ (getD_mem' hp)).1
 have n2 := (hV.v.row _ (getD_mem' hq)).1
 have o1 := (hV.orow _ (getD_mem' (show p < O.length by omega))).1
 have o2 := (hV.orow _ (getD_mem' (show q < O.length by omega))).1
 refine gcall_intro (tyP_ok _) c69 2000 [.tmp 8] [0, 1, 2, 3] Tryz.func69 rfl (by rfl) rfl (by rfl) (by kernel_rfl) (by kernel_rfl) ?_
 unfold Tryz.f69
 simp -implicitDefEqProofs (maxSteps := 4000000) (disch := omega) only [push_cast, c69, Nat.reduceAdd, Nat.reduceSub, Nat.reduceMul, Nat.reduceBEq, Int.reduceToNat, Int.reduceNeg, Int.reduceLE, Int.reduceLT, Int.reduceBEq, Int.reduceBNe, Int.reduceEq, eq_self, reduceCtorEq]
 refine ⟨by omega, by omega, by omega, by omega, fun hne => ?_, fun he => ⟨fun hm => ⟨hp, by omega, hq, by omega, ?_⟩, fun hm => ?_⟩⟩
 ·simp only [oneL, outG, Int.toNat_natCast, ne_eq, hne, not_false_eq_true, decide_true, Bool.true_or]
 ·subst hm
  simp only [oneL, outG, nxG, Int.toNat_natCast, he, Bool.true_and, ne_eq, not_true_eq_false, decide_false, Bool.false_or]
  rfl
 ·subst hm
  simp only [oneL, outG, nxG, Int.toNat_natCast, he, Bool.false_and, ne_eq, not_true_eq_false, decide_false, Bool.false_or]
def c47 : VCfg := ⟨⟨[], [], [], [0, 1, 2, 3, 8, 9, 18, 19, 20, 67]⟩, [(4, (.op 0 .strict (.op 1 .strict (.op 2 .loose (.op 3 .loose (.op 4 .loose (.op 5 .loose (.op 6 .loose (.op 7 .eff (.op 8 .loose (.op 9 .loose (.op 10 .loose (.op 11 .loose (.op 12 .loose (.op 13 .loose (.op 14 .loose (.op 15 .loose (.op 16 .loose (.op 17 .loose (.op 18 .loose (.op 19 .loose (.op 20 .loose (.op 21 .loose (.op 22 .loose (.op 23 .loose (.op 24 .loose (.op 25 .loose (.op 26 .loose (.op 27 .loose (.op 28 .loose (.op 29 .loose (.op 30 .loose (.op 31 .loose (.op 32 .loose (.op 33 .loose (.op 34 .loose (.op 35 .loose (.op 36 .loose (.op 37 .loose (.op 38 .loose (.op 39 .loose (.op 40 .loose (.op 41 .loose (.op 42 .loose (.op 43 .loose (.op 44 .loose (.op 45 .loose .nil)))))))))))))))))))))))))))))))))))))))))))))))], [69], [29]⟩
set_option maxHeartbeats 8000000 in
set_option maxRecDepth 100000 in
theorem f47 (y : Yc) (g : Gh) (N O : List (List Int)) (z z' mg : Bool) (D : Nat → Nat → Nat) (p q n k : Nat) (hV : VM N O k) (hp : p < N.length) (hq : q < N.length) (hn : n ≤ 10000) :
  GCall Tryz.prog y 47 g [.ref 0 0, .int .i64 p, .int .i64 q, .int .i64 n] [tabO N O z z' mg D] (fun g' r A O' => g' = g ∧ r = .int .i64 (ltI (letL N O mg k D p q n)) ∧ A = [.ref 0 0, .int .i64 p, .int .i64 q, .int .i64 n] ∧ O' = [tabO N O z z' mg D]) := by
 have hol := hV.ol
 have hn60 := hV.v.n2
 have hk6 := hV.v.k2
 have n1 := (hV.v.row _ (getD_mem' hp)).1
 have n2 := (hV.v.row _ (getD_mem' hq)).1
 have o1 := (hV.orow _ (getD_mem' (show p < O.length by omega))).1
 have o2 := (hV.orow _ (getD_mem' (show q < O.length by omega))).1
 refine gcall_intro (tyP_ok _) c47 2000 [.tmp 8] [0, 1, 2, 3] Tryz.func47 rfl (by rfl) rfl (by rfl) (by kernel_rfl) (by kernel_rfl) ?_
 unfold Tryz.f47
 simp -implicitDefEqProofs (maxSteps := 4000000) (disch := omega) only [push_cast, c47, Nat.reduceAdd, Nat.reduceSub, Nat.reduceMul, Nat.reduceBEq, Int.reduceToNat, Int.reduceNeg, Int.reduceLE, Int.reduceLT, Int.reduceBEq, Int.reduceBNe, Int.reduceEq, eq_self, reduceCtorEq]
 refine ⟨by omega, ?_⟩
 rw [o1]
 refine awp_upd (tyP_ok _) c47 2000 [0, 1, 2, 3, 8, 18, 19] (k) (fun x => ∀ x', x' < x → begL N O mg D p q n x' = false) (fun x => [(19, .int .i64 x)]) (fun x => []) (by kernel_rfl) rfl ?_ ?_
 ·exact fun x' h => by omega
 intro x hx hr
 by_cases hxk : x < k
 ·have m1 := hV.nx (s := (p : Int)) (c := x) (by omega) (by omega) hxk
  have m2 := hV.nx (s := (q : Int)) (c := x) (by omega) (by omega) hxk
  have t1 := ntf_cast hV hp hxk
  have t2 := ntf_cast hV hq hxk
  rw [nxG, Int.toNat_natCast, Int.toNat_natCast] at m1 m2 t1 t2
  have d1 : decide (0 ≤ (N.getD p []).getD x 0 ∧ (N.getD p []).getD x 0 < 60) = true := decide_eq_true (by omega)
  have d2 : decide (0 ≤ (N.getD q []).getD x 0 ∧ (N.getD q []).getD x 0 < 60) = true := decide_eq_true (by omega)
  have e3 := fun u v w => tab_drop D (a := ((N.getD p []).getD x 0).toNat) (b := ((N.getD q []).getD x 0).toNat) (by omega) (by omega) u v w
  simp -implicitDefEqProofs (maxSteps := 4000000) (disch := omega) only [push_cast, c47, d1, d2, e3, Nat.reduceAdd, Nat.reduceSub, Nat.reduceMul, Nat.reduceBEq, Int.reduceToNat, Int.reduceNeg, Int.reduceLE, Int.reduceLT, Int.reduceBEq, Int.reduceBNe, Int.reduceEq, eq_self, reduceCtorEq]
  have u1 : ((N.getD p []).getD x 0).toNat = ntf N p x := by omega
  have u2 : ((N.getD q []).getD x 0).toNat = ntf N q x := by omega
  rw [u1, u2]
  refine ⟨fun _ => ⟨fun h1 => ?_, fun h1 => ⟨fun h2 => ⟨hp, by omega, hq, by omega, fun he => ?_, fun hne => ⟨hxk, upto_succ hr ?_⟩⟩, fun h2 => ⟨hxk, upto_succ hr ?_⟩⟩⟩, fun h => by omega⟩
  ·obtain rfl : n = 1 := by omega
   refine lcallW_eq _ _ _ (f69 _ _ N O z z' mg D p q x k hV hp hq hxk) ?_
   simp -implicitDefEqProofs (maxSteps := 4000000) (disch := omega) only [push_cast, c47, Nat.reduceAdd, Nat.reduceSub, Nat.reduceMul, Nat.reduceBEq, Int.reduceToNat, Int.reduceNeg, Int.reduceLE, Int.reduceLT, Int.reduceBEq, Int.reduceBNe, Int.reduceEq, eq_self, reduceCtorEq]
   refine ⟨fun ho => ?_, fun ho => ?_⟩
   ·rw [letL_found hxk (by simp [begL, ho]) hr]; rfl
   ·exact ⟨hxk, upto_succ hr (by simp [begL, ho])⟩
  ·have hD : D (ntf N p x) (ntf N q x) = n - 1 := by omega
   have h1n : 1 < n := by omega
   rw [letL_found hxk (by simp [begL, hD, h1n]) hr]; rfl
  ·have hD : ¬ D (ntf N p x) (ntf N q x) = n - 1 := by omega
   have h1n : ¬ n = 1 := by omega
   simp [begL, hD, h1n]
  ·have h1n : ¬ n = 1 := by omega
   have h2n : ¬ 1 < n := by omega
   simp [begL, h1n, h2n]
 ·have hxe : x = k := by omega
  subst hxe
  simp -implicitDefEqProofs (maxSteps := 4000000) (disch := omega) only [push_cast, c47, Nat.reduceAdd, Nat.reduceSub, Nat.reduceMul, Nat.reduceBEq, Int.reduceToNat, Int.reduceNeg, Int.reduceLE, Int.reduceLT, Int.reduceBEq, Int.reduceBNe, Int.reduceEq, eq_self, reduceCtorEq]
  refine ⟨fun h => absurd h hxk, fun _ => ?_⟩
  rw [letL_none.2 hr]
  rfl
end Go.AM
end

section
namespace Go.AM
open Go Go.Proofs Go.Sort
theorem tabL_get (D : Nat → Nat → Nat) {i : Nat} (h : i < 3600) : (tabL D)[i]? = some (AV.int .i64 ((D (i / 60) (i % 60) : Nat) : Int)) := by
 simp only [tabL, List.getElem?_map, List.getElem?_range h, Option.map_some]
theorem tabL_congr {D D' : Nat → Nat → Nat} (h : ∀ a b, D a b = D' a b) : tabL D = tabL D' := by
 rw [show D = D' from funext fun a => funext fun b => h a b]
theorem tabL_zero : List.replicate 3600 (AV.int .i64 0) = tabL (fun _ _ => 0) := by
 simp only [tabL]
 rw [List.map_const', List.length_range]
 rfl
theorem tabL_set (D : Nat → Nat → Nat) {a b n : Nat} (ha : a < 60) (hb : b < 60) : (tabL D).set (a * 60 + b) (AV.int .i64 ((n : Nat) : Int)) = tabL (updD D a b n) := by
 have hl1 := tabL_len D
 have hl2 := tabL_len (updD D a b n)
 refine List.ext_getElem? fun i => ?_
 by_cases hi : i < 3600
 ·rw [tabL_get _ hi]
  by_cases e : a * 60 + b = i
  ·subst e
   rw [List.getElem?_set_self (by omega)]
   rw [show (a * 60 + b) / 60 = a by omega, show (a * 60 + b) % 60 = b by omega]
   simp [updD]
  ·rw [List.getElem?_set_ne e, tabL_get _ hi]
   unfold updD
   rw [if_neg (by omega)]
 ·rw [List.getElem?_eq_none (by rw [List.length_set]; omega), List.getElem?_eq_none (by omega)]
theorem take_set_drop {α : Type} {L : List α} {i : Nat} (h : i < L.length) (v : α) : List.take i L ++ v :: List.drop (i + 1) L = L.set i v := by
 rw [List.set_eq_take_append_cons_drop, if_pos h]
theorem tab_take (D : Nat → Nat → Nat) {a b n : Nat} (ha : a < 60) (hb : b < 60) (u v w : AV) : List.take (3 + a * 60 + b * 1) (u :: v :: w :: tabL D) ++ AV.int .i64 ((n : Nat) : Int) :: List.drop (3 + a * 60 + b * 1 + 1) (u :: v :: w :: tabL D) = u :: v :: w :: tabL (updD D a b n) := by
 have h1 : a * 60 + b < (tabL D).length := by rw [tabL_len]; omega
 rw [← tabL_set D ha hb, ← take_set_drop h1]
 generalize tabL D = L
 rw [show 3 + a * 60 + b * 1 = (a * 60 + b) + 1 + 1 + 1 by omega]
 simp only [List.take_succ_cons, List.drop_succ_cons, List.cons_append]
theorem ltI_some {o : Option Nat} : 0 ≤ ltI o ↔ o.isSome = true := by
 cases o with
 | none => simp [ltI]
 | some x => simp [ltI]
theorem zrep_tab (N O : List (List Int)) (mg : Bool) (k : Nat) : zrep 3600 = tabL (dst N O mg k 0) := tabL_zero
def mcur (N O : List (List Int)) (mg : Bool) (k r p : Nat) : Nat → Bool
 | 0 => mall N O mg k r p
 | q + 1 => mcur N O mg k r p q || chg N O mg k r p q
theorem mcur_eq {N O : List (List Int)} {mg : Bool} {k r p : Nat} : ∀ q, mcur N O mg k r p q = (mall N O mg k r p || mrow N O mg k r p q)
 | 0 => by simp [mcur, mrow]
 | q + 1 => by rw [mcur, mcur_eq q, mrow, Bool.or_assoc]
def c21 : VCfg := ⟨⟨[13], [], [], [0, 1, 2, 4, 5, 6, 7, 8, 9, 14, 19, 20, 21, 23, 24, 25, 43]⟩, [(13, (.op 0 .loose (.op 1 .loose (.op 2 .loose (.op 3 .strict (.op 4 .strict (.op 5 .strict (.op 6 .loose (.op 7 .strict (.op 8 .strict (.op 9 .strict (.op 10 .strict (.op 11 .loose (.op 13 .strict (.op 14 .strict (.op 15 .strict (.op 12 .eff (.op 16 .loose (.op 17 .eff (.op 18 .loose .nil))))))))))))))))))))], [47], [41]⟩
set_option maxHeartbeats 16000000 in
set_option maxRecDepth 100000 in
theorem f21 (N O : List (List Int)) (z z' mg : Bool) (k : Nat) (hV : VM N O k) :
  ACall Tryz.prog 21 [.agg [.pay (.rows (N)) (z), .pay (.rows (O)) (z')], .bool mg] (fun r objs => ∃ D, TabOk N O mg k D ∧ r = .ref 0 0 ∧ objs = [tabO N O z z' mg D]) := by
 have hn60 := hV.v.n2
 have hn1 := hV.v.n1
 refine acall_intro (tyP_ok _) c21 2000 [.tmp 4] Tryz.func21 rfl (by rfl) rfl (by kernel_rfl) ?_
 unfold Tryz.f21
 simp -implicitDefEqProofs (maxSteps := 4000000) (disch := omega) only [push_cast, c21, Nat.reduceAdd, Nat.reduceSub, Nat.reduceMul, Nat.reduceBEq, Int.reduceToNat, Int.reduceNeg, Int.reduceLE, Int.reduceLT, Int.reduceBEq, Int.reduceBNe, Int.reduceEq, eq_self, reduceCtorEq]
 rw [zrep_tab N O mg k]
 refine awp_loop (tyP_ok _) c21 2000 [2, 4, 5, 6, 7] (fun n g st => ∃ (r : Nat) (more : Bool), g = (false, 0) ∧ (more = false → TabOk N O mg k (dst N O mg k r)) ∧ n = (if more = true then 3601 - cz N O mg k r else 0) ∧ r ≤ cz N O mg k r + (if more = true then 0 else 1) ∧ st = ⟨63, [(2, .fref [.pay (.rows N) z, .pay (.rows O) z']), (4, .lit (.pointer none)), (5, .ref 0 0), (6, .int .i64 ((r + 1 : Nat) : Int)), (7, .bool more)], [tabO N O z z' mg (dst N O mg k r)]⟩) (3601 - cz N O mg k 0) (by kernel_rfl) ?_ ?_
 ·simp -implicitDefEqProofs (maxSteps := 4000000) (disch := omega) only [push_cast, c21, Nat.reduceAdd, Nat.reduceSub, Nat.reduceMul, Nat.reduceBEq, Int.reduceToNat, Int.reduceNeg, Int.reduceLE, Int.reduceLT, Int.reduceBEq, Int.reduceBNe, Int.reduceEq, eq_self, reduceCtorEq]
  exact ⟨0, true, fun h => (by cases h), by rw [if_pos rfl], by omega, ⟨rfl, rfl⟩, rfl⟩
 rintro n g st ⟨r, more, rfl, hok, rfl, hrc, rfl⟩
 have hcl := cz_le (N := N) (O := O) (mg := mg) (k := k) r
 have hr3 : r ≤ 3601 := by
  split at hrc <;> omega
 simp -implicitDefEqProofs (maxSteps := 4000000) (disch := omega) only [push_cast, c21, Nat.reduceAdd, Nat.reduceSub, Nat.reduceMul, Nat.reduceBEq, Int.reduceToNat, Int.reduceNeg, Int.reduceLE, Int.reduceLT, Int.reduceBEq, Int.reduceBNe, Int.reduceEq, eq_self, reduceCtorEq]
 refine ⟨fun hm => ?_, fun hm => ⟨_, hok hm, rfl⟩⟩
 subst hm
 rw [if_pos rfl] at hrc ⊢
 rw [tabL_congr (D := dst N O mg k r) (D' := tin N O mg k r 0 0) fun a b => tin_zero.symm]
 refine awp_upd (tyP_ok _) c21 2000 [2, 4, 5, 6, 7, 19, 20] (N.length) (fun _ => True) (fun p => [(7, .bool (mall N O mg k r p)), (20, .int .i64 p)]) (fun p => [(0, tabO N O z z' mg (tin N O mg k r p 0))]) (by kernel_rfl) rfl ?_ ?_
 ·trivial
 intro p hp _
 simp -implicitDefEqProofs (maxSteps := 4000000) (disch := omega) only [push_cast, c21, Nat.reduceAdd, Nat.reduceSub, Nat.reduceMul, Nat.reduceBEq, Int.reduceToNat, Int.reduceNeg, Int.reduceLE, Int.reduceLT, Int.reduceBEq, Int.reduceBNe, Int.reduceEq, eq_self, reduceCtorEq]
 refine ⟨fun hpn => ?_, fun hge => ?_⟩
 ·refine awp_upd (tyP_ok _) c21 2000 [2, 4, 5, 6, 7, 19, 20, 8, 23, 24] (p) (fun _ => True) (fun q => [(7, .bool (mcur N O mg k r p q)), (24, .int .i64 q)]) (fun q => [(0, tabO N O z z' mg (tin N O mg k r p q))]) (by kernel_rfl) rfl ?_ ?_
  ·trivial
  intro q hq _
  by_cases hqp : q < p
  ·have d1 : decide ((p : Int) < 60) = true := decide_eq_true (by omega)
   have d2 : decide ((q : Int) < 60) = true := decide_eq_true (by omega)
   have e3 := fun u v w => tab_drop (tin N O mg k r p q) (a := p) (b := q) (by omega) (by omega) u v w
   simp -implicitDefEqProofs (maxSteps := 4000000) (disch := omega) only [push_cast, c21, d1, d2, e3, tin_at, Nat.reduceAdd, Nat.reduceSub, Nat.reduceMul, Nat.reduceBEq, Int.reduceToNat, Int.reduceNeg, Int.reduceLE, Int.reduceLT, Int.reduceBEq, Int.reduceBNe, Int.reduceEq, eq_self, reduceCtorEq]
   have hL := f47 noY (false, 0) N O z z' mg (tin N O mg k r p q) p q (r + 1) k hV hpn (by omega) (by omega)
   rw [tin_let, show ((r + 1 : Nat) : Int) = (r : Int) + 1 by push_cast; rfl] at hL
   have hs0 : mcur N O mg k r p (q + 1) = (mcur N O mg k r p q || chg N O mg k r p q) := rfl
   have hchg : dst N O mg k r p q = 0 → (letL N O mg k (dst N O mg k r) p q (r + 1)).isSome = true → dst N O mg k (r + 1) p q = r + 1 ∧ chg N O mg k r p q = true := fun h0 h1 => by
    have : dst N O mg k (r + 1) p q = r + 1 := by
     conv => lhs; unfold dst
     rw [if_pos ⟨h0, ⟨hpn, by omega, by omega⟩, h1⟩]
    exact ⟨this, decide_eq_true (by rw [this, h0]; omega)⟩
   have hno : ¬ (dst N O mg k r p q = 0 ∧ (letL N O mg k (dst N O mg k r) p q (r + 1)).isSome = true) → chg N O mg k r p q = false := fun h => by
    refine decide_eq_false fun g => g ?_
    conv => lhs; unfold dst
    rw [if_neg fun g => h ⟨g.1, g.2.2⟩]
   have e4 : ∀ u v w : AV, List.take (3 + p * 60 + q * 1) (u :: v :: w :: tabL (tin N O mg k r p q)) ++ AV.int .i64 ((r : Int) + 1) :: List.drop (3 + p * 60 + q * 1) (v :: w :: tabL (tin N O mg k r p q)) = u :: v :: w :: tabL (updD (tin N O mg k r p q) p q (r + 1)) := fun u v w => tab_take _ (n := r + 1) (by omega) (by omega) u v w
   have e5 : ∀ u v w : AV, List.take (3 + q * 60 + p * 1) (u :: v :: w :: tabL (updD (tin N O mg k r p q) p q (r + 1))) ++ AV.int .i64 ((r : Int) + 1) :: List.drop (3 + q * 60 + p * 1) (v :: w :: tabL (updD (tin N O mg k r p q) p q (r + 1))) = u :: v :: w :: tabL (updD (updD (tin N O mg k r p q) p q (r + 1)) q p (r + 1)) := fun u v w => tab_take _ (n := r + 1) (by omega) (by omega) u v w
   refine ⟨fun _ => ⟨fun h0 => ?_, fun h0 => ?_⟩, fun h => by omega⟩
   ·refine lcallW_eq _ _ _ hL ?_
    have b1 : (3 + p * 60 + q * 1 + 1).ble 3603 = true := Nat.ble_eq_true_of_le (by omega)
    have b2 : (3 + q * 60 + p * 1 + 1).ble 3603 = true := Nat.ble_eq_true_of_le (by omega)
    simp -implicitDefEqProofs (maxSteps := 4000000) (disch := omega) only [push_cast, c21, d1, d2, e4, e5, b1, b2, Nat.reduceAdd, Nat.reduceSub, Nat.reduceMul, Nat.reduceBEq, Int.reduceToNat, Int.reduceNeg, Int.reduceLE, Int.reduceLT, Int.reduceBEq, Int.reduceBNe, Int.reduceEq, eq_self, reduceCtorEq]
    refine ⟨fun h1 => ?_, fun h1 => ?_⟩
    ·obtain ⟨g1, g2⟩ := hchg (by omega) (ltI_some.1 h1)
     exact ⟨hqp, by rw [hs0, g2, Bool.or_true], tabL_congr fun a b => tin_set g1 hqp a b⟩
    ·have g := hno fun h => by have := ltI_some.2 h.2; omega
     exact ⟨hqp, by rw [hs0, g, Bool.or_false], (tabL_congr fun a b => tin_keep g hqp a b).symm⟩
   ·have g := hno fun h => by omega
    exact ⟨hqp, by rw [hs0, g, Bool.or_false], (tabL_congr fun a b => tin_keep g hqp a b).symm⟩
  ·obtain rfl : q = p := by omega
   simp -implicitDefEqProofs (maxSteps := 4000000) (disch := omega) only [push_cast, c21, Nat.reduceAdd, Nat.reduceSub, Nat.reduceMul, Nat.reduceBEq, Int.reduceToNat, Int.reduceNeg, Int.reduceLE, Int.reduceLT, Int.reduceBEq, Int.reduceBNe, Int.reduceEq, eq_self, reduceCtorEq]
   refine ⟨fun h => absurd h hqp, fun _ => ⟨hpn, ?_, ?_⟩⟩
   ·rw [mcur_eq, mall]
   ·rw [tabL_congr fun a b => tin_row]
 ·obtain rfl : p = N.length := by omega
  refine ⟨if mall N O mg k r N.length = true then 3601 - cz N O mg k (r + 1) else 0, ?_, r + 1, mall N O mg k r N.length, fun h => mall_ok h, rfl, ?_, ⟨by push_cast; rfl, rfl⟩, tabL_congr fun a b => tin_end trivial⟩
  ·split
   ·rename_i h
    have := cz_lt hn60 h
    omega
   ·omega
  ·split
   ·rename_i h
    have := cz_lt hn60 h
    omega
   ·have := List.countP_mono_left (p := fun i => decide (dst N O mg k r (i / 60) (i % 60) ≠ 0)) (q := fun i => decide (dst N O mg k (r + 1) (i / 60) (i % 60) ≠ 0)) (l := List.range 3600) fun x _ hx => by
     have hx := of_decide_eq_true hx
     have := dst_keep hx 1
     exact decide_eq_true (by rw [this]; exact hx)
    have : cz N O mg k r ≤ cz N O mg k (r + 1) := this
    omega
end Go.AM
end

section
namespace Go.AM
open Go Go.Proofs Go.Sort
def c48 : VCfg := ⟨⟨[], [], [7], [0, 1, 2, 6, 7, 8, 9, 19]⟩, [(7, (.op 0 .loose (.op 1 .loose (.op 2 .loose (.op 3 .loose (.op 4 .loose (.op 5 .loose (.op 6 .loose (.op 7 .loose (.op 8 .loose (.op 9 .loose (.op 10 .loose (.op 11 .loose (.op 12 .loose (.op 13 .loose (.op 14 .loose (.op 15 .loose (.op 16 .loose (.op 17 .loose (.op 18 .loose (.op 19 .loose (.op 20 .loose (.op 21 .loose (.op 22 .loose (.op 23 .loose .nil)))))))))))))))))))))))))], [47], [26]⟩
set_option maxHeartbeats 8000000 in
set_option maxRecDepth 100000 in
theorem g48 (y : Yc) (g : Gh) (N O : List (List Int)) (z z' mg : Bool) (D : Nat → Nat → Nat) (p q k : Nat) (hV : VM N O k) (hD : TabOk N O mg k D) (hp : p < N.length) (hq : q < N.length) :
  GCall Tryz.prog y 48 g [.ref 0 0, .int .i64 p, .int .i64 q] [tabO N O z z' mg D] (fun g' r A O' => g' = g ∧ r = .own 0 ∧ A = [.ref 1 0, .junk, .junk] ∧ O' = [.arr (.ints .i64 (wrdL N O mg k D (D p q) p q)) ⟨3, true⟩, tabO N O z z' mg D]) := by
 have hn60 := hV.v.n2
 have hol := hV.ol
 have d1 : decide ((p : Int) < 60) = true := decide_eq_true (by omega)
 have d2 : decide ((q : Int) < 60) = true := decide_eq_true (by omega)
 have e3 := fun u v w => tab_drop D (a := p) (b := q) (by omega) (by omega) u v w
 refine gcall_intro (tyP_ok _) c48 2000 [.tmp 6] [0] Tryz.func48 rfl (by rfl) rfl (by rfl) (by kernel_rfl) (by kernel_rfl) ?_
 unfold Tryz.f48
 simp -implicitDefEqProofs (maxSteps := 4000000) (disch := omega) only [push_cast, c48, Nat.reduceAdd, Nat.reduceSub, Nat.reduceMul, Nat.reduceBEq, Int.reduceToNat, Int.reduceNeg, Int.reduceLE, Int.reduceLT, Int.reduceBEq, Int.reduceBNe, Int.reduceEq, eq_self, reduceCtorEq]
 simp -implicitDefEqProofs (maxSteps := 4000000) (disch := omega) only [push_cast, c48, d1, d2, e3, Nat.reduceAdd, Nat.reduceSub, Nat.reduceMul, Nat.reduceBEq, Int.reduceToNat, Int.reduceNeg, Int.reduceLE, Int.reduceLT, Int.reduceBEq, Int.reduceBNe, Int.reduceEq, eq_self, reduceCtorEq]
 have hDs : D p q ≤ 1770 := by
  have h1 := tab_pairs hV hD (p := p) (q := q)
  have h2 : N.length * (N.length - 1) ≤ 60 * 59 := Nat.mul_le_mul hn60 (by omega)
  have h3 : N.length * (N.length - 1) / 2 ≤ 60 * 59 / 2 := Nat.div_le_div_right h2
  omega
 generalize hdm : D p q = M at *
 refine awp_loop (tyP_ok _) c48 2000 [0, 1, 2, 6, 7, 8] (fun n g' st => ∃ (p' q' m : Nat) (acc : List Int), g' = g ∧ n = m ∧ acc ++ wrdL N O mg k D m p' q' = wrdL N O mg k D M p q ∧ acc.length + m = M ∧ p' < N.length ∧ q' < N.length ∧ (m ≠ 0 → D p' q' = m) ∧ st = ⟨54, [(0, .ref 0 0), (1, .int .i64 p'), (2, .int .i64 q'), (6, .pay (.ints .i64 []) true), (7, .own 1), (8, .int .i64 m)], [tabO N O z z' mg D, .arr (.ints .i64 acc) ⟨3, true⟩]⟩) M (by kernel_rfl) ?_ ?_
 ·refine ⟨p, q, M, [], rfl, rfl, rfl, by simp, hp, hq, fun _ => hdm, ?_⟩
  simp -implicitDefEqProofs (maxSteps := 4000000) (disch := omega) only [push_cast, c48, Nat.reduceAdd, Nat.reduceSub, Nat.reduceMul, Nat.reduceBEq, Int.reduceToNat, Int.reduceNeg, Int.reduceLE, Int.reduceLT, Int.reduceBEq, Int.reduceBNe, Int.reduceEq, eq_self, reduceCtorEq]
 rintro n g' st ⟨p', q', m, acc, rfl, rfl, hacc, hlen, hp', hq', hm, rfl⟩
 have hL := f47 y g' N O z z' mg D p' q' n k hV hp' hq' (by omega)
 simp -implicitDefEqProofs (maxSteps := 4000000) (disch := omega) only [push_cast, c48, Nat.reduceAdd, Nat.reduceSub, Nat.reduceMul, Nat.reduceBEq, Int.reduceToNat, Int.reduceNeg, Int.reduceLE, Int.reduceLT, Int.reduceBEq, Int.reduceBNe, Int.reduceEq, eq_self, reduceCtorEq]
 refine ⟨fun hn => ?_, fun hn => ?_⟩
 ·obtain ⟨j, rfl⟩ : ∃ j, n = j + 1 := ⟨n - 1, by omega⟩
  obtain ⟨x, hx⟩ := Option.isSome_iff_exists.1 (hD.some p' q' j (hm (by omega)))
  obtain ⟨hxk, hxb, _⟩ := letL_some hx
  have n1 := (hV.v.row _ (getD_mem' hp')).1
  have n2 := (hV.v.row _ (getD_mem' hq')).1
  have t1 := ntf_cast hV hp' hxk
  have t2 := ntf_cast hV hq' hxk
  rw [nxG, Int.toNat_natCast, Int.toNat_natCast] at t1 t2
  have hlx : ltI (letL N O mg k D p' q' (j + 1)) = (x : Int) := by rw [hx]; rfl
  have hw : wrdL N O mg k D (j + 1) p' q' = (x : Int) :: wrdL N O mg k D j (ntf N p' x) (ntf N q' x) := by
   conv => lhs; unfold wrdL
   rw [hx]
  refine lcallW_eq _ _ _ hL ?_
  simp -implicitDefEqProofs (maxSteps := 4000000) (disch := omega) only [push_cast, c48, hlx, Nat.reduceAdd, Nat.reduceSub, Nat.reduceMul, Nat.reduceBEq, Int.reduceToNat, Int.reduceNeg, Int.reduceLE, Int.reduceLT, Int.reduceBEq, Int.reduceBNe, Int.reduceEq, eq_self, reduceCtorEq]
  refine ⟨by omega, hp', by omega, hq', by omega, ?_⟩
  refine ⟨j, by omega, ntf N p' x, ntf N q' x, j, acc ++ [(x : Int)], rfl, by rw [← hacc, hw]; simp, by simp; omega, ntf_lt hV hp' hxk, ntf_lt hV hq' hxk, fun hj => ?_, ⟨t1.symm, t2.symm, by omega⟩, rfl⟩
  simp [begL] at hxb
  omega
 ·obtain rfl : n = 0 := by omega
  simpa [wrdL] using hacc
end Go.AM
end

section
namespace Go.AM
open Go Go.Proofs Go.Sort
def c49 : VCfg := ⟨⟨[], [], [], [0, 2, 3, 5, 6, 7, 8, 9, 14]⟩, [], [], []⟩
theorem f49 (a b : Int) (z : Bool) : ACall Tryz.prog 49 [.pay (.ints .i64 [a, b]) z] (fun r objs => r = .int .i64 (if a = 0 then b else a) ∧ objs = []) := by
 refine acall_intro (tyP_ok _) c49 2000 [.tmp 2] Tryz.func49 rfl (by rfl) rfl (by kernel_rfl) ?_
 unfold Tryz.f49
 simp -implicitDefEqProofs (maxSteps := 4000000) (disch := omega) only [push_cast, c49, Nat.reduceAdd, Nat.reduceSub, Nat.reduceMul, Nat.reduceBEq, Int.reduceToNat, Int.reduceNeg, Int.reduceLE, Int.reduceLT, Int.reduceBEq, Int.reduceBNe, Int.reduceEq, eq_self, reduceCtorEq]
 refine awp_upd (tyP_ok _) c49 2000 [2, 3, 6, 7, 8] (2) (fun i => ∀ j, j < i → [a, b].getD j 0 = 0) (fun i => [(8, .int .i64 i)]) (fun i => []) (by kernel_rfl) rfl ?_ ?_
 ·exact fun j h => by omega
 intro i hi hr
 obtain rfl | rfl | rfl : i = 0 ∨ i = 1 ∨ i = 2 := by omega
 ·simp -implicitDefEqProofs (maxSteps := 4000000) (disch := omega) only [push_cast, c49, Nat.reduceAdd, Nat.reduceSub, Nat.reduceMul, Nat.reduceBEq, Int.reduceToNat, Int.reduceNeg, Int.reduceLE, Int.reduceLT, Int.reduceBEq, Int.reduceBNe, Int.reduceEq, eq_self, reduceCtorEq]
  exact ⟨fun _ => ⟨by omega, fun h => by rw [if_neg h], fun h => ⟨by omega, fun j hj => by
   obtain rfl : j = 0 := by omega
   exact h⟩⟩, fun h => by omega⟩
 ·have ha : a = 0 := hr 0 (by omega)
  simp -implicitDefEqProofs (maxSteps := 4000000) (disch := omega) only [push_cast, c49, Nat.reduceAdd, Nat.reduceSub, Nat.reduceMul, Nat.reduceBEq, Int.reduceToNat, Int.reduceNeg, Int.reduceLE, Int.reduceLT, Int.reduceBEq, Int.reduceBNe, Int.reduceEq, eq_self, reduceCtorEq]
  exact ⟨fun _ => ⟨by omega, fun h => by rw [if_pos ha], fun h => ⟨by omega, fun j hj => by
   rcases (show j = 0 ∨ j = 1 by omega) with rfl | rfl
   ·exact ha
   ·exact h⟩⟩, fun h => by omega⟩
 ·have ha : a = 0 := hr 0 (by omega)
  have hb : b = 0 := hr 1 (by omega)
  simp -implicitDefEqProofs (maxSteps := 4000000) (disch := omega) only [push_cast, c49, Nat.reduceAdd, Nat.reduceSub, Nat.reduceMul, Nat.reduceBEq, Int.reduceToNat, Int.reduceNeg, Int.reduceLE, Int.reduceLT, Int.reduceBEq, Int.reduceBNe, Int.reduceEq, eq_self, reduceCtorEq]
  exact ⟨fun h => by omega, fun _ => by rw [if_pos ha, hb]⟩
theorem tabL_frz (D : Nat → Nat → Nat) (i : Nat) (ob : AObj) (n : Nat) : (tabL D).map (AV.mapH (frzL i ob) n) = tabL D := tabL_mapH D _ (fun _ _ => rfl) n
attribute [push_cast] tabL_frz
def bN (b : List Int) (i : Nat) : Nat := (b.getD i 0).toNat
def bW (N O : List (List Int)) (mg : Bool) (k : Nat) (D : Nat → Nat → Nat) (b : List Int) (i j : Nat) : List Int := wrdL N O mg k D (D (bN b i) (bN b j)) (bN b i) (bN b j)
def ahead (b : List Int) (i j i' j' : Nat) : Prop := j' < i' ∧ i' < b.length ∧ (i' < i ∨ (i' = i ∧ j' < j))
structure BI (N O : List (List Int)) (mg : Bool) (k : Nat) (D : Nat → Nat → Nat) (b : List Int) (i j : Nat) (w : List Int) : Prop where
 all : ∀ i' j', ahead b i j i' j' → D (bN b i') (bN b j') ≠ 0 ∧ leB w (bW N O mg k D b i' j')
 one : (w = [] ∧ ∀ i' j', ¬ ahead b i j i' j') ∨ ∃ i' j', ahead b i j i' j' ∧ w = bW N O mg k D b i' j'
section
variable {N O : List (List Int)} {mg : Bool} {k : Nat} {D : Nat → Nat → Nat} {b w : List Int} {i j : Nat}
theorem ahead_succ {i' j' : Nat} (hj : j < i) (hi : i < b.length) : ahead b i (j + 1) i' j' ↔ ahead b i j i' j' ∨ (i' = i ∧ j' = j) := by
 unfold ahead
 constructor
 ·rintro ⟨h1, h2, h3⟩
  by_cases e : i' = i ∧ j' = j
  ·exact .inr e
  ·exact .inl ⟨h1, h2, by omega⟩
 ·rintro (⟨h1, h2, h3⟩ | ⟨rfl, rfl⟩)
  ·exact ⟨h1, h2, by omega⟩
  ·exact ⟨hj, hi, by omega⟩
theorem ahead_row {i' j' : Nat} : ahead b (i + 1) 0 i' j' ↔ ahead b i i i' j' := by
 unfold ahead
 constructor
 ·rintro ⟨h1, h2, h3⟩; exact ⟨h1, h2, by omega⟩
 ·rintro ⟨h1, h2, h3⟩; exact ⟨h1, h2, by omega⟩
theorem BI.row (h : BI N O mg k D b i i w) : BI N O mg k D b (i + 1) 0 w := by
 refine ⟨fun i' j' ha => h.all i' j' (ahead_row.1 ha), ?_⟩
 rcases h.one with ⟨h1, h2⟩ | ⟨i', j', h1, h2⟩
 ·exact .inl ⟨h1, fun i' j' ha => h2 i' j' (ahead_row.1 ha)⟩
 ·exact .inr ⟨i', j', ahead_row.2 h1, h2⟩
theorem BI.keep (h : BI N O mg k D b i j w) (hj : j < i) (hi : i < b.length) (hw : w ≠ []) (hd : D (bN b i) (bN b j) ≠ 0) (hle : leB w (bW N O mg k D b i j)) : BI N O mg k D b i (j + 1) w := by
 refine ⟨fun i' j' ha => ?_, ?_⟩
 ·rcases (ahead_succ hj hi).1 ha with ha | ⟨rfl, rfl⟩
  ·exact h.all i' j' ha
  ·exact ⟨hd, hle⟩
 ·rcases h.one with ⟨h1, _⟩ | ⟨i', j', h1, h2⟩
  ·exact absurd h1 hw
  ·exact .inr ⟨i', j', (ahead_succ hj hi).2 (.inl h1), h2⟩
theorem BI.new (h : BI N O mg k D b i j w) (hj : j < i) (hi : i < b.length) (hd : D (bN b i) (bN b j) ≠ 0) (hle : (∀ i' j', ¬ ahead b i j i' j') ∨ leB (bW N O mg k D b i j) w) : BI N O mg k D b i (j + 1) (bW N O mg k D b i j) := by
 refine ⟨fun i' j' ha => ?_, .inr ⟨i, j, (ahead_succ hj hi).2 (.inr ⟨rfl, rfl⟩), rfl⟩⟩
 rcases (ahead_succ hj hi).1 ha with ha | ⟨rfl, rfl⟩
 ·rcases hle with hle | hle
  ·exact absurd ha (hle i' j')
  ·exact ⟨(h.all i' j' ha).1, leB_trans hle (h.all i' j' ha).2⟩
 ·exact ⟨hd, leB_refl _⟩
theorem cmp_le {u v : List Int} (h : (if (if u.length < v.length then (-1 : Int) else if u.length = v.length then 0 else 1) = 0 then cmpL u v else (if u.length < v.length then (-1 : Int) else if u.length = v.length then 0 else 1)) < 0) : leB u v := by
 refine leB_of ?_
 unfold comesB
 rcases Nat.lt_trichotomy u.length v.length with hl | e | hl
 ·rw [if_neg (by omega)]; exact decide_eq_true hl
 ·have c1 : ¬ u.length < v.length := by omega
  have c2 : u.length = v.length := by omega
  rw [if_neg c1, if_pos c2, if_pos rfl, cmpL_lt] at h
  rw [if_pos e, ← befB_lex e]; exact h
 ·have c1 : ¬ u.length < v.length := by omega
  have c2 : ¬ u.length = v.length := by omega
  rw [if_neg c1, if_neg c2, if_neg (by decide)] at h
  omega
theorem cmp_ge {u v : List Int} (h : ¬ (if (if u.length < v.length then (-1 : Int) else if u.length = v.length then 0 else 1) = 0 then cmpL u v else (if u.length < v.length then (-1 : Int) else if u.length = v.length then 0 else 1)) < 0) : leB v u := by
 show comesB u v = false
 unfold comesB
 rcases Nat.lt_trichotomy u.length v.length with hl | e | hl
 ·have c1 : u.length < v.length := by omega
  rw [if_pos c1, if_neg (by decide)] at h
  omega
 ·have c1 : ¬ u.length < v.length := by omega
  have c2 : u.length = v.length := by omega
  rw [if_neg c1, if_pos c2, if_pos rfl, cmpL_lt] at h
  rw [if_pos e, ← befB_lex e]; simpa using h
 ·rw [if_neg (by omega)]; exact decide_eq_false (by omega)
end
def BestR (N O : List (List Int)) (mg : Bool) (k : Nat) (D : Nat → Nat → Nat) (b w : List Int) (ok : Bool) : Prop :=
 (ok = false ∧ w = [] ∧ ∃ i j, j < i ∧ i < b.length ∧ D (bN b i) (bN b j) = 0) ∨ (ok = true ∧ BI N O mg k D b b.length 0 w)
theorem Weak.freeze (st : St) (l : List Nat) : Weak st (st.freezeL l) := fun _ _ _ _ h => FR.freezeL l _ _ h
def c23 : VCfg := ⟨⟨[], [], [], [0, 1, 4, 5, 6, 7, 8, 10, 11, 12, 13, 14, 15, 16, 22, 23, 24, 25, 37, 45, 64]⟩, [], [48], [49]⟩
set_option maxHeartbeats 8000000 in
set_option maxRecDepth 100000 in
theorem f23 (y : Yc) (g : Gh) (N O : List (List Int)) (z z' mg u : Bool) (D : Nat → Nat → Nat) (b : List Int) (k : Nat) (hV : VM N O k) (hD : TabOk N O mg k D) (hb : ∀ s ∈ b, 0 ≤ s ∧ s < N.length) (hlt : b.Pairwise (· < ·)) (hl : b.length ≤ 60) :
  GCall Tryz.prog y 23 g [.ref 0 0, .pay (.ints .i64 b) u] [tabO N O z z' mg D] (fun g' r A O' => g' = g ∧ (∃ w ok nz, BestR N O mg k D b w ok ∧ r = .tup [.pay (.ints .i64 w) nz, .bool ok]) ∧ A = [.ref 0 0, .junk] ∧ O' = [tabO N O z z' mg D]) := by
 have hn60 := hV.v.n2
 refine gcall_intro (tyP_ok _) c23 2000 [.tmp 4, .tmp 5] [0] Tryz.func23 rfl (by rfl) rfl (by rfl) (by kernel_rfl) (by kernel_rfl) ?_
 unfold Tryz.f23
 simp -implicitDefEqProofs (maxSteps := 4000000) (disch := omega) only [push_cast, c23, Nat.reduceAdd, Nat.reduceSub, Nat.reduceMul, Nat.reduceBEq, Int.reduceToNat, Int.reduceNeg, Int.reduceLE, Int.reduceLT, Int.reduceBEq, Int.reduceBNe, Int.reduceEq, eq_self, reduceCtorEq]
 refine awp_loop (tyP_ok _) c23 2000 [0, 1, 4, 5, 6, 13, 14, 15] (fun n g' st => ∃ (i : Nat) (w : List Int), g' = g ∧ i ≤ b.length ∧ n = b.length - i ∧ BI N O mg k D b i 0 w ∧ st = ⟨69, [(0, .ref 0 0), (1, .pay (.ints .i64 b) u), (4, .pay (.ints .i64 []) true), (5, .bool false), (6, .pay (.ints .i64 w) true), (13, .pay (.ints .i64 b) u), (14, .int .i64 b.length), (15, .int .i64 i)], [tabO N O z z' mg D]⟩) b.length (by kernel_rfl) ?_ ?_
 ·refine ⟨0, [], rfl, by omega, by omega, ⟨fun i' j' h => ?_, .inl ⟨rfl, fun i' j' h => ?_⟩⟩, ?_⟩
  ·obtain ⟨_, _, h⟩ := h; omega
  ·obtain ⟨_, _, h⟩ := h; omega
  ·simp -implicitDefEqProofs (maxSteps := 4000000) (disch := omega) only [push_cast, c23, Nat.reduceAdd, Nat.reduceSub, Nat.reduceMul, Nat.reduceBEq, Int.reduceToNat, Int.reduceNeg, Int.reduceLE, Int.reduceLT, Int.reduceBEq, Int.reduceBNe, Int.reduceEq, eq_self, reduceCtorEq]
 rintro n g' st ⟨i, w, rfl, hi, rfl, hB, rfl⟩
 simp -implicitDefEqProofs (maxSteps := 4000000) (disch := omega) only [push_cast, c23, Nat.reduceAdd, Nat.reduceSub, Nat.reduceMul, Nat.reduceBEq, Int.reduceToNat, Int.reduceNeg, Int.reduceLE, Int.reduceLT, Int.reduceBEq, Int.reduceBNe, Int.reduceEq, eq_self, reduceCtorEq]
 refine ⟨fun hlt2 => ?_, fun hge => ?_⟩
 ·have hbi := hb _ (getD_mem hlt2)
  have ei : b.getD i 0 = ((bN b i : Nat) : Int) := by unfold bN; omega
  have e2 : (b.take i).length = i := by rw [List.length_take]; omega
  refine ⟨hlt2, hi, ?_⟩
  rw [show List.take (i - 0) b = b.take i from rfl, e2, ei]
  refine awp_loopW (tyP_ok _) c23 2000 (fun n g'' st => ∃ (j : Nat) (w : List Int), g'' = g' ∧ j ≤ i ∧ n = i - j ∧ BI N O mg k D b i j w ∧ st = ⟨69, [(0, .ref 0 0), (1, .pay (.ints .i64 b) u), (4, .pay (.ints .i64 []) true), (5, .bool false), (6, .pay (.ints .i64 w) true), (13, .pay (.ints .i64 b) u), (14, .int .i64 b.length), (15, .int .i64 i), (8, .int .i64 (bN b i : Nat)), (22, .pay (.ints .i64 (b.take i)) false), (23, .int .i64 i), (24, .int .i64 j)], [tabO N O z z' mg D]⟩) i (by kernel_rfl) (Weak.gc _ [0, 1, 4, 5, 6, 13, 14, 15, 8, 22, 23, 24]) ?_ ?_
  ·refine ⟨0, w, rfl, by omega, by omega, hB, ?_⟩
   simp -implicitDefEqProofs (maxSteps := 4000000) (disch := omega) only [push_cast, c23, Nat.reduceAdd, Nat.reduceSub, Nat.reduceMul, Nat.reduceBEq, Int.reduceToNat, Int.reduceNeg, Int.reduceLE, Int.reduceLT, Int.reduceBEq, Int.reduceBNe, Int.reduceEq, eq_self, reduceCtorEq]
  rintro n g'' st ⟨j, w, rfl, hj, rfl, hB, rfl⟩
  by_cases hji : j < i
  ·have hbj := hb _ (getD_mem (show j < b.length by omega))
   have ej : (b.take i).getD j 0 = ((bN b j : Nat) : Int) := by
    have : (b.take i).getD j 0 = b.getD j 0 := by simp [List.getD, List.getElem?_take, hji]
    rw [this]; unfold bN; omega
   have hp : bN b i < N.length := by unfold bN; omega
   have hq : bN b j < N.length := by unfold bN; omega
   have d1 : decide (((bN b i : Nat) : Int) < 60) = true := decide_eq_true (by omega)
   have d2 : decide (((bN b j : Nat) : Int) < 60) = true := decide_eq_true (by omega)
   have e3 := fun u v w => tab_drop D (a := bN b i) (b := bN b j) (by omega) (by omega) u v w
   have hwd := g48 y g'' N O z z' mg D (bN b i) (bN b j) k hV hD hp hq
   simp -implicitDefEqProofs (maxSteps := 4000000) (disch := omega) only [push_cast, c23, d1, d2, e3, ej, Nat.reduceAdd, Nat.reduceSub, Nat.reduceMul, Nat.reduceBEq, Int.reduceToNat, Int.reduceNeg, Int.reduceLE, Int.reduceLT, Int.reduceBEq, Int.reduceBNe, Int.reduceEq, eq_self, reduceCtorEq]
   have hil : i ≤ b.length := hi
   have hdl : D (bN b i) (bN b j) ≠ 0 → (bW N O mg k D b i j).length = D (bN b i) (bN b j) := fun h => by
    obtain ⟨m, hm⟩ : ∃ m, D (bN b i) (bN b j) = m + 1 := ⟨D (bN b i) (bN b j) - 1, by omega⟩
    rw [bW, hm]
    exact (wrd_ok hV hD m _ _ hm).1
   refine ⟨fun _ => ⟨by rw [e2]; exact hji, fun h0 => ⟨[], false, true, .inl ⟨rfl, rfl, i, j, hji, hlt2, by omega⟩, ⟨rfl, rfl⟩, rfl⟩, fun h0 => ⟨fun hw => ⟨fun hlen => ?_, fun hlen => ?_⟩, fun hw => ?_⟩⟩, fun h => by omega⟩
   ·have hwne : w ≠ [] := fun e => by subst e; simp at hw
    refine ⟨i - (j + 1), _, by omega, Weak.gc _ [0, 1, 4, 5, 6, 13, 14, 15, 8, 22, 23, 24], j + 1, w, by omega, rfl, hB.keep hji hlt2 hwne (by omega) (leB_of (by unfold comesB; rw [if_neg (by rw [hdl (by omega)]; omega), hdl (by omega)]; exact decide_eq_true hlen)), ?_⟩
    simp -implicitDefEqProofs (maxSteps := 4000000) (disch := omega) only [push_cast, c23, Nat.reduceAdd, Nat.reduceSub, Nat.reduceMul, Nat.reduceBEq, Int.reduceToNat, Int.reduceNeg, Int.reduceLE, Int.reduceLT, Int.reduceBEq, Int.reduceBNe, Int.reduceEq, eq_self, reduceCtorEq]
   ·have hwne : w ≠ [] := fun e => by subst e; simp at hw
    refine lcallW_eq _ _ _ hwd ?_
    simp -implicitDefEqProofs (maxSteps := 4000000) (disch := omega) only [push_cast, c23, hw, Nat.reduceAdd, Nat.reduceSub, Nat.reduceMul, Nat.reduceBEq, Int.reduceToNat, Int.reduceNeg, Int.reduceLE, Int.reduceLT, Int.reduceBEq, Int.reduceBNe, Int.reduceEq, eq_self, reduceCtorEq]
    refine callW_eq _ _ (f50 _ _) ?_
    simp -implicitDefEqProofs (maxSteps := 4000000) (disch := omega) only [push_cast, c23, Nat.reduceAdd, Nat.reduceSub, Nat.reduceMul, Nat.reduceBEq, Int.reduceToNat, Int.reduceNeg, Int.reduceLE, Int.reduceLT, Int.reduceBEq, Int.reduceBNe, Int.reduceEq, eq_self, reduceCtorEq]
    have hwl : (wrdL N O mg k D (D (bN b i) (bN b j)) (bN b i) (bN b j)).length ≤ 4611686018427387904 := by
     have h1 := hdl (by omega)
     have h2 := tab_pairs hV hD (p := bN b i) (q := bN b j)
     have h3 : N.length * (N.length - 1) ≤ 60 * 59 := Nat.mul_le_mul hn60 (by omega)
     have h4 : N.length * (N.length - 1) / 2 ≤ 60 * 59 / 2 := Nat.div_le_div_right h3
     unfold bW at h1
     omega
    refine callW_eq _ _ (f51 _ w true true hwl) ?_
    simp -implicitDefEqProofs (maxSteps := 4000000) (disch := omega) only [push_cast, c23, Nat.reduceAdd, Nat.reduceSub, Nat.reduceMul, Nat.reduceBEq, Int.reduceToNat, Int.reduceNeg, Int.reduceLE, Int.reduceLT, Int.reduceBEq, Int.reduceBNe, Int.reduceEq, eq_self, reduceCtorEq]
    refine callW_eq _ _ (f49 _ _ _) ?_
    simp -implicitDefEqProofs (maxSteps := 4000000) (disch := omega) only [push_cast, c23, Nat.reduceAdd, Nat.reduceSub, Nat.reduceMul, Nat.reduceBEq, Int.reduceToNat, Int.reduceNeg, Int.reduceLE, Int.reduceLT, Int.reduceBEq, Int.reduceBNe, Int.reduceEq, eq_self, reduceCtorEq]
    refine ⟨fun hc => ?_, fun hc => ?_⟩
    ·refine ⟨i - (j + 1), _, by omega, (Weak.freeze _ [1]).trans (Weak.gc _ [0, 1, 4, 5, 6, 13, 14, 15, 8, 22, 23, 24]), j + 1, bW N O mg k D b i j, by omega, rfl, hB.new hji hlt2 (by omega) (.inr (cmp_le hc)), ?_⟩
     simp -implicitDefEqProofs (maxSteps := 4000000) (disch := omega) only [push_cast, c23, Nat.reduceAdd, Nat.reduceSub, Nat.reduceMul, Nat.reduceBEq, Int.reduceToNat, Int.reduceNeg, Int.reduceLE, Int.reduceLT, Int.reduceBEq, Int.reduceBNe, Int.reduceEq, eq_self, reduceCtorEq]
     try rfl
    ·refine ⟨i - (j + 1), _, by omega, Weak.gc _ [0, 1, 4, 5, 6, 13, 14, 15, 8, 22, 23, 24], j + 1, w, by omega, rfl, hB.keep hji hlt2 hwne (by omega) (cmp_ge (show ¬ _ < (0 : Int) from Int.not_lt.2 hc)), ?_⟩
     simp -implicitDefEqProofs (maxSteps := 4000000) (disch := omega) only [push_cast, c23, Nat.reduceAdd, Nat.reduceSub, Nat.reduceMul, Nat.reduceBEq, Int.reduceToNat, Int.reduceNeg, Int.reduceLE, Int.reduceLT, Int.reduceBEq, Int.reduceBNe, Int.reduceEq, eq_self, reduceCtorEq]
     try rfl
   ·have hw0 : w = [] := List.length_eq_zero_iff.1 (of_decide_eq_true hw)
    refine lcallW_eq _ _ _ hwd ?_
    simp -implicitDefEqProofs (maxSteps := 4000000) (disch := omega) only [push_cast, c23, hw, Nat.reduceAdd, Nat.reduceSub, Nat.reduceMul, Nat.reduceBEq, Int.reduceToNat, Int.reduceNeg, Int.reduceLE, Int.reduceLT, Int.reduceBEq, Int.reduceBNe, Int.reduceEq, eq_self, reduceCtorEq]
    have hno : ∀ i' j', ¬ ahead b i j i' j' := fun i' j' ha => by
     have h1 := (hB.all i' j' ha).1
     rcases hB.one with ⟨_, h2⟩ | ⟨i2, j2, h2, h3⟩
     ·exact h2 i' j' ha
     ·obtain ⟨m, hm⟩ : ∃ m, D (bN b i2) (bN b j2) = m + 1 := ⟨D (bN b i2) (bN b j2) - 1, by have := (hB.all i2 j2 h2).1; omega⟩
      have := (wrd_ok hV hD m _ _ hm).1
      rw [hw0] at h3
      unfold bW at h3
      rw [hm] at h3
      rw [← h3] at this
      simp at this
    refine ⟨i - (j + 1), _, by omega, (Weak.freeze _ [1]).trans (Weak.gc _ [0, 1, 4, 5, 6, 13, 14, 15, 8, 22, 23, 24]), j + 1, bW N O mg k D b i j, by omega, rfl, hB.new hji hlt2 (by omega) (.inl hno), ?_⟩
    simp -implicitDefEqProofs (maxSteps := 4000000) (disch := omega) only [push_cast, c23, Nat.reduceAdd, Nat.reduceSub, Nat.reduceMul, Nat.reduceBEq, Int.reduceToNat, Int.reduceNeg, Int.reduceLE, Int.reduceLT, Int.reduceBEq, Int.reduceBNe, Int.reduceEq, eq_self, reduceCtorEq]
    try rfl
  ·have hje : j = i := by omega
   subst hje
   simp -implicitDefEqProofs (maxSteps := 4000000) (disch := omega) only [push_cast, c23, Nat.reduceAdd, Nat.reduceSub, Nat.reduceMul, Nat.reduceBEq, Int.reduceToNat, Int.reduceNeg, Int.reduceLE, Int.reduceLT, Int.reduceBEq, Int.reduceBNe, Int.reduceEq, eq_self, reduceCtorEq]
   refine ⟨fun h => absurd h hji, fun _ => ⟨b.length - (j + 1), by omega, j + 1, w, by omega, rfl, hB.row, rfl, by push_cast; rfl⟩⟩
 ·obtain rfl : i = b.length := by omega
  exact ⟨w, true, true, .inr ⟨rfl, hB⟩, ⟨rfl, rfl⟩, rfl⟩
end Go.AM
end
