/-
  Contracts of Home, of keys of blocks and of small functions; conditions in each statement.
-/
import Derived.Test.YtkpoffjimfiabaaGreatS5
import Derived.Test.YtkpoffjimfiabaaGreatP4
import Derived.Test.YtkpoffjimfiabaaGreatP5
set_option linter.unusedVariables false
set_option linter.unusedSimpArgs false
set_option linter.unusedSectionVars false
set_option linter.unnecessarySimpa false

section
namespace Go.AM
open Go Go.Proofs Go.Sort
def c38 : VCfg := ⟨⟨[], [], [], [0, 1, 4]⟩, [], [], []⟩
theorem f38 (a b : List Int) (z z' : Bool) (ha : a.length ≤ 4611686018427387904) (hb : b.length ≤ 4611686018427387904) : ACall Tryz.prog 38 [.pay (.ints .i64 a) z, .pay (.ints .i64 b) z'] (fun r objs => r = .int .i64 ((a.length : Int) - b.length) ∧ objs = []) := by
 refine acall_intro (tyP_ok _) c38 2000 [.tmp 4] Tryz.func38 rfl (by rfl) rfl (by kernel_rfl) ?_
 unfold Tryz.f38
 simp -implicitDefEqProofs (maxSteps := 4000000) (disch := omega) only [push_cast, c38, Nat.reduceAdd, Nat.reduceSub, Nat.reduceMul, Nat.reduceBEq, Int.reduceToNat, Int.reduceNeg, Int.reduceLE, Int.reduceLT, Int.reduceBEq, Int.reduceBNe, Int.reduceEq, eq_self, reduceCtorEq]
 all_goals first | done | exact wrap_nat (by omega) (by omega)
def c37 : VCfg := ⟨⟨[], [], [], [0, 1, 4, 5, 6, 9, 17, 27]⟩, [], [], []⟩
set_option maxHeartbeats 4000000 in
set_option maxRecDepth 100000 in
theorem f37 (L : List (List Int)) (z : Bool) (h0 : 0 < L.length) (hL : L.length ≤ 4611686018427387904) (hb : ∀ r ∈ L, r.length ≤ 4611686018427387904) : ACall Tryz.prog 37 [.pay (.rows L) z, .clo 38 []] (fun r objs => ∃ m, m < L.length ∧ r = .pay (.ints .i64 (L.getD m [])) false ∧ objs = []) := by
 refine acall_intro (tyP_ok _) c37 2000 [.tmp 4] Tryz.func37 rfl (by rfl) rfl (by kernel_rfl) ?_
 unfold Tryz.f37
 simp -implicitDefEqProofs (maxSteps := 4000000) (disch := omega) only [push_cast, c37, Nat.reduceAdd, Nat.reduceSub, Nat.reduceMul, Nat.reduceBEq, Int.reduceToNat, Int.reduceNeg, Int.reduceLE, Int.reduceLT, Int.reduceBEq, Int.reduceBNe, Int.reduceEq, eq_self, reduceCtorEq]
 refine ⟨fun h => by omega, fun _ => ⟨h0, ?_⟩⟩
 refine awp_loop (tyP_ok _) c37 2000 [0, 1, 4, 5, 6] (fun n g st => ∃ (i m : Nat), g = (false, 0) ∧ i ≤ L.length ∧ 1 ≤ i ∧ n = L.length - i ∧ m < L.length ∧ st = ⟨33, [(0, .pay (.rows L) z), (1, .clo 38 []), (4, .pay (.ints .i64 []) true), (5, .pay (.ints .i64 (L.getD m [])) false), (6, .int .i64 i)], []⟩) (L.length - 1) (by kernel_rfl) ?_ ?_
 ·refine ⟨1, 0, rfl, by omega, by omega, rfl, h0, ?_⟩
  simp -implicitDefEqProofs (maxSteps := 4000000) (disch := omega) only [push_cast, c37, Nat.reduceAdd, Nat.reduceSub, Nat.reduceMul, Nat.reduceBEq, Int.reduceToNat, Int.reduceNeg, Int.reduceLE, Int.reduceLT, Int.reduceBEq, Int.reduceBNe, Int.reduceEq, eq_self, reduceCtorEq]
 rintro n g st ⟨i, m, rfl, hi, h1, rfl, hm, rfl⟩
 simp -implicitDefEqProofs (maxSteps := 4000000) (disch := omega) only [push_cast, c37, Nat.reduceAdd, Nat.reduceSub, Nat.reduceMul, Nat.reduceBEq, Int.reduceToNat, Int.reduceNeg, Int.reduceLE, Int.reduceLT, Int.reduceBEq, Int.reduceBNe, Int.reduceEq, eq_self, reduceCtorEq]
 refine ⟨fun hlt => ⟨hlt, ?_⟩, fun hge => ⟨m, hm, rfl⟩⟩
 refine callW_eq _ _ (f38 (L.getD i []) (L.getD m []) false false (hb _ (getD_mem' hlt)) (hb _ (getD_mem' hm))) ?_
 simp -implicitDefEqProofs (maxSteps := 4000000) (disch := omega) only [push_cast, c37, Nat.reduceAdd, Nat.reduceSub, Nat.reduceMul, Nat.reduceBEq, Int.reduceToNat, Int.reduceNeg, Int.reduceLE, Int.reduceLT, Int.reduceBEq, Int.reduceBNe, Int.reduceEq, eq_self, reduceCtorEq]
 exact ⟨fun _ => ⟨hlt, L.length - (i + 1), by omega, i + 1, i, by omega, by omega, rfl, hlt, rfl, by push_cast; rfl⟩, fun _ => ⟨L.length - (i + 1), by omega, i + 1, m, by omega, by omega, rfl, hm, rfl, by push_cast; rfl⟩⟩
end Go.AM
end

section
namespace Go.AM
open Go Go.Proofs Go.Sort
def allD (N O : List (List Int)) (k : Nat) : Prop := ∀ p q : Nat, p < N.length → q < N.length → p ≠ q → ∃ w : List Int, (∀ c ∈ w, 0 ≤ c ∧ c < k) ∧ decW N O true p q w
def HomeR (N O : List (List Int)) (w : List Int) (e : Int) : Prop :=
 (vmB N O = false ∧ e = 1 ∧ w = []) ∨ (vmB N O = true ∧ ¬ allD N O (N.getD 0 []).length ∧ e = 4 ∧ w = []) ∨
 (vmB N O = true ∧ allD N O (N.getD 0 []).length ∧ ∃ w', homW N O w' ∧ (∀ c ∈ w', 0 ≤ c ∧ c < (N.getD 0 []).length) ∧ (∃ D, TabOk N O true (N.getD 0 []).length D ∧ ∀ B, (∀ p q, D p q ≤ B) → w'.length ≤ (N.length - 1) * B) ∧ ((40000 < w'.length ∧ e = 3 ∧ w = []) ∨ (w'.length ≤ 40000 ∧ e = 0 ∧ w = w')))
theorem hom_allD {N O : List (List Int)} {k : Nat} {w : List Int} (h : homW N O w) (hw : ∀ c ∈ w, 0 ≤ c ∧ c < k) : allD N O k := fun p q hp hq _ => by
 refine ⟨w, hw, ?_⟩
 by_cases e : outsG N O p w = outsG N O q w
 ·exact .inr ⟨rfl, h p q ⟨by omega, by omega⟩ ⟨by omega, by omega⟩ e⟩
 ·exact .inl e
theorem bN_ok {b : List Int} {n i j : Nat} (hb : ∀ s ∈ b, 0 ≤ s ∧ s < (n : Int)) (hlt : b.Pairwise (· < ·)) (hj : j < i) (hi : i < b.length) : (bN b i < n ∧ bN b j < n ∧ bN b i ≠ bN b j) ∧ ((bN b i : Nat) : Int) ∈ b ∧ ((bN b j : Nat) : Int) ∈ b := by
 have h1 := hb _ (getD_mem hi)
 have h2 := hb _ (getD_mem (show j < b.length by omega))
 have h3 : b.getD j 0 < b.getD i 0 := by
  have := List.pairwise_iff_getElem.1 hlt j i (by omega) hi hj
  simpa [List.getD, hi, show j < b.length by omega] using this
 have e1 : ((bN b i : Nat) : Int) = b.getD i 0 := by unfold bN; omega
 have e2 : ((bN b j : Nat) : Int) = b.getD j 0 := by unfold bN; omega
 refine ⟨⟨by omega, by omega, by omega⟩, ?_, ?_⟩
 ·rw [e1]; exact getD_mem hi
 ·rw [e2]; exact getD_mem (by omega)
def c15 : VCfg := ⟨⟨[], [], [], [0, 1, 2, 3, 4, 5, 6, 7, 8, 10, 13, 21, 30, 31, 32, 33, 34, 50]⟩, [], [23], [26]⟩
set_option maxHeartbeats 16000000 in
set_option maxRecDepth 100000 in
theorem f15 (N O : List (List Int)) (z z' : Bool) (hl : N.length ≤ 4611686018427387904) (hl2 : ∀ r ∈ N, r.length ≤ 4611686018427387904) (ho : O.length ≤ 4611686018427387904) (ho2 : ∀ r ∈ O, r.length ≤ 4611686018427387904) :
  ACall Tryz.prog 15 [.agg [.pay (.rows (N)) (z), .pay (.rows (O)) (z')]] (fun r objs => ∃ w e nz, HomeR N O w e ∧ r = .tup [.pay (.ints .i64 w) nz, .int .i64 e] ∧ objs = []) := by
 suffices h : ACall Tryz.prog 15 [.agg [.pay (.rows (N)) (z), .pay (.rows (O)) (z')]] (fun r objs => ∃ w e, HomeR N O w e ∧ ((r = .tup [.pay (.ints .i64 w) true, .int .i64 e] ∧ objs = []) ∨ ∃ nz, r = .tup [.own 0, .int .i64 e] ∧ objs = [.arr (.ints .i64 w) ⟨3, nz⟩])) by
  refine h.frz ?_
  rintro r objs ⟨w, e, h1, ⟨rfl, rfl⟩ | ⟨nz, rfl, rfl⟩⟩
  ·exact ⟨[], _, 0, rfl, w, e, true, h1, rfl, rfl⟩
  ·exact ⟨[0], _, 1, rfl, ⟨w, e, _, h1, rfl, rfl⟩⟩
 refine acall_intro (tyP_ok _) c15 2000 [.tmp 2, .tmp 3] Tryz.func15 rfl (by rfl) rfl (by kernel_rfl) ?_
 unfold Tryz.f15
 simp -implicitDefEqProofs (maxSteps := 4000000) (disch := omega) only [push_cast, c15, Nat.reduceAdd, Nat.reduceSub, Nat.reduceMul, Nat.reduceBEq, Int.reduceToNat, Int.reduceNeg, Int.reduceLE, Int.reduceLT, Int.reduceBEq, Int.reduceBNe, Int.reduceEq, eq_self, reduceCtorEq]
 refine callW_eq _ _ (f17 N O z z' hl hl2 ho ho2) ?_
 simp -implicitDefEqProofs (maxSteps := 4000000) (disch := omega) only [push_cast, c15, Nat.reduceAdd, Nat.reduceSub, Nat.reduceMul, Nat.reduceBEq, Int.reduceToNat, Int.reduceNeg, Int.reduceLE, Int.reduceLT, Int.reduceBEq, Int.reduceBNe, Int.reduceEq, eq_self, reduceCtorEq]
 refine ⟨fun hv => ⟨[], 1, .inl ⟨hv, rfl, rfl⟩, .inl ⟨rfl, rfl⟩⟩, fun hv => ?_⟩
 have hV := vmB_iff.1 hv
 generalize hk : (N.getD 0 []).length = k at *
 have hn2 := hV.v.n2
 have hn1 := hV.v.n1
 refine callW_rel (f21 N O z z' true k hV) ?_
 rintro R O' ⟨D, hD, rfl, rfl⟩
 simp -implicitDefEqProofs (maxSteps := 4000000) (disch := omega) only [push_cast, c15, Nat.reduceAdd, Nat.reduceSub, Nat.reduceMul, Nat.reduceBEq, Int.reduceToNat, Int.reduceNeg, Int.reduceLE, Int.reduceLT, Int.reduceBEq, Int.reduceBNe, Int.reduceEq, eq_self, reduceCtorEq]
 refine callW_rel (f36 N O z z' hn2) ?_
 rintro R O' ⟨nz, rfl, rfl⟩
 simp -implicitDefEqProofs (maxSteps := 4000000) (disch := omega) only [push_cast, c15, Nat.reduceAdd, Nat.reduceSub, Nat.reduceMul, Nat.reduceBEq, Int.reduceToNat, Int.reduceNeg, Int.reduceLE, Int.reduceLT, Int.reduceBEq, Int.reduceBNe, Int.reduceEq, eq_self, reduceCtorEq]
 have hD70 : ∀ p q, D p q ≤ 1770 := fun p q => by
  have h1 := tab_pairs hV hD (p := p) (q := q)
  have h2 : N.length * (N.length - 1) ≤ 60 * 59 := Nat.mul_le_mul hn2 (by omega)
  have h3 : N.length * (N.length - 1) / 2 ≤ 60 * 59 / 2 := Nat.div_le_div_right h2
  omega
 refine awp_loop (tyP_ok _) c15 2000 [1, 2, 3, 4, 5, 6] (fun n g st => ∃ (w : List Int) (r : Nat) (nz : Bool), g = (false, 0) ∧ (∀ c ∈ w, 0 ≤ c ∧ c < k) ∧ n = cE N O w - cO N O w ∧ r + (cE N O w - cO N O w) ≤ N.length - 1 ∧ (∀ B, (∀ p q, D p q ≤ B) → w.length ≤ r * B) ∧ st = ⟨52, [(1, .fref [.pay (.rows N) z, .pay (.rows O) z']), (2, .pay (.ints .i64 []) true), (3, .int .i64 0), (4, .ref 0 0), (5, .own 1), (6, .pay (.rows (aftB N O w).1) nz)], [tabO N O z z' true D, .arr (.ints .i64 w) ⟨3, false⟩]⟩) (cE N O [] - cO N O []) (by kernel_rfl) ?_ ?_
 ·refine ⟨[], 0, nz, rfl, fun c h => by simp at h, rfl, ?_, fun B _ => by simp, ?_⟩
  ·have h1 := cE_zero (N := N) (O := O)
   have h2 := cO_zero (N := N) (O := O) hn1
   omega
  ·simp -implicitDefEqProofs (maxSteps := 4000000) (disch := omega) only [push_cast, c15, Nat.reduceAdd, Nat.reduceSub, Nat.reduceMul, Nat.reduceBEq, Int.reduceToNat, Int.reduceNeg, Int.reduceLE, Int.reduceLT, Int.reduceBEq, Int.reduceBNe, Int.reduceEq, eq_self, reduceCtorEq]
   rfl
 rintro n g st ⟨w, r, nz, rfl, hw, rfl, hr, hB, rfl⟩
 have hsp := aft_spec hV w hw
 have hfw := hsp.1.few (tot_aft w)
 have hwl := hB 1770 hD70
 have hr59 : r ≤ 59 := by omega
 generalize hL : (aftB N O w).1 = L at *
 simp -implicitDefEqProofs (maxSteps := 4000000) (disch := omega) only [push_cast, c15, Nat.reduceAdd, Nat.reduceSub, Nat.reduceMul, Nat.reduceBEq, Int.reduceToNat, Int.reduceNeg, Int.reduceLE, Int.reduceLT, Int.reduceBEq, Int.reduceBNe, Int.reduceEq, eq_self, reduceCtorEq]
 refine ⟨fun h0 => ?_, fun h0 => ?_⟩
 ·refine callW_rel (f37 L nz (by omega) (by have := hfw.1; omega) (fun r hr => by have := hfw.2 r hr; omega)) ?_
  rintro R O' ⟨m, hm, rfl, rfl⟩
  simp -implicitDefEqProofs (maxSteps := 4000000) (disch := omega) only [push_cast, c15, Nat.reduceAdd, Nat.reduceSub, Nat.reduceMul, Nat.reduceBEq, Int.reduceToNat, Int.reduceNeg, Int.reduceLE, Int.reduceLT, Int.reduceBEq, Int.reduceBNe, Int.reduceEq, eq_self, reduceCtorEq]
  have hbin : L.getD m [] ∈ L := getD_mem' hm
  have hb2 := hsp.1.two _ hbin
  have hblt := hsp.1.lt _ hbin
  have hbst := hsp.1.st _ hbin
  generalize hb : L.getD m [] = b at *
  refine lcallW_rel (f23 _ _ N O z z' true false D b k hV hD hbst hblt (by have := hfw.2 b hbin; omega)) ?_
  rintro g1 R A O' ⟨rfl, ⟨v, ok, nz2, hbest, rfl⟩, rfl, rfl⟩
  simp -implicitDefEqProofs (maxSteps := 4000000) (disch := omega) only [push_cast, c15, Nat.reduceAdd, Nat.reduceSub, Nat.reduceMul, Nat.reduceBEq, Int.reduceToNat, Int.reduceNeg, Int.reduceLE, Int.reduceLT, Int.reduceBEq, Int.reduceBNe, Int.reduceEq, eq_self, reduceCtorEq]
  refine ⟨fun hok => ?_, fun hok => ?_⟩
  ·refine ⟨[], 4, ?_, .inl ⟨rfl, rfl⟩⟩
   rcases hbest with ⟨_, _, i, j, hj, hi, hd⟩ | ⟨h, _⟩
   ·obtain ⟨⟨q1, q2, q3⟩, _, _⟩ := bN_ok hbst hblt hj hi
    refine .inr (.inl ⟨hv, fun ha => ?_, rfl, rfl⟩)
    rw [hk] at ha
    obtain ⟨w', h1, h2⟩ := ha _ _ q1 q2 q3
    exact (dec_some hV hD w' _ _ q1 q2 q3 h1 h2).1 hd
   ·rw [hok] at h; cases h
  ·rcases hbest with ⟨h, _⟩ | ⟨_, hBI⟩
   ·rw [hok] at h; cases h
   rcases hBI.one with ⟨_, hno⟩ | ⟨i, j, hah, hvw⟩
   ·exact absurd ⟨by omega, by omega, by omega⟩ (hno 1 0)
   have hdn := (hBI.all i j hah).1
   obtain ⟨⟨q1, q2, q3⟩, q4, q5⟩ := bN_ok hbst hblt hah.1 hah.2.1
   obtain ⟨md, hmd⟩ : ∃ md, D (bN b i) (bN b j) = md + 1 := ⟨D (bN b i) (bN b j) - 1, by omega⟩
   obtain ⟨v1, v2, v3⟩ := wrd_ok hV hD md _ _ hmd
   have hvw2 : v = wrdL N O true k D (md + 1) (bN b i) (bN b j) := by rw [hvw, bW, hmd]
   rw [← hvw2] at v1 v2 v3
   have hpot : cE N O (w ++ v) - cO N O (w ++ v) < cE N O w - cO N O w := by
    obtain ⟨s, t, hs, ht, ho', hp', hq'⟩ := hsp.2.1 _ _ ⟨b, hbin, q4, q5⟩
    have es : ((s.toNat : Nat) : Int) = s := by omega
    have et : ((t.toNat : Nat) : Int) = t := by omega
    refine pot_lt (s := s.toNat) (t := t.toNat) (by omega) (by omega) (by rw [es, et]; exact ho') (by rw [es, et, hp', hq']; omega) ?_
    rw [es, et, hp', hq']
    rcases v3 with h | ⟨_, h⟩
    ·exact .inl h
    ·exact .inr h
   have hvB : ∀ B, (∀ p q, D p q ≤ B) → v.length ≤ B := fun B h => by have := h (bN b i) (bN b j); omega
   have hv70 := hvB 1770 hD70
   have hwv : ∀ c ∈ w ++ v, 0 ≤ c ∧ c < (k : Int) := fun c hc => by
    rcases List.mem_append.1 hc with hc | hc
    ·exact hw c hc
    ·exact v2 c hc
   have hwl2 : w.length ≤ 59 * 1770 := Nat.le_trans hwl (Nat.mul_le_mul_right _ hr59)
   refine awp_loop (tyP_ok _) c15 2000 [1, 2, 3, 4, 5, 6, 7, 31, 32, 33] (fun n g st => ∃ (x : Nat) (nz3 : Bool), g = (false, 0) ∧ x ≤ v.length ∧ n = v.length - x ∧ st = ⟨52, [(1, .fref [.pay (.rows N) z, .pay (.rows O) z']), (2, .pay (.ints .i64 []) true), (3, .int .i64 0), (4, .ref 0 0), (5, .own 1), (6, .pay (.rows (aftB N O (w ++ v.take x)).1) nz3), (7, .pay (.ints .i64 v) nz2), (31, .pay (.ints .i64 v) nz2), (32, .int .i64 v.length), (33, .int .i64 x)], [tabO N O z z' true D, .arr (.ints .i64 w) ⟨3, false⟩]⟩) v.length (by kernel_rfl) ?_ ?_
   ·refine ⟨0, nz, rfl, by omega, by omega, ?_⟩
    rw [List.take_zero, List.append_nil, hL]
    simp -implicitDefEqProofs (maxSteps := 4000000) (disch := omega) only [push_cast, c15, Nat.reduceAdd, Nat.reduceSub, Nat.reduceMul, Nat.reduceBEq, Int.reduceToNat, Int.reduceNeg, Int.reduceLE, Int.reduceLT, Int.reduceBEq, Int.reduceBNe, Int.reduceEq, eq_self, reduceCtorEq]
   rintro n g st ⟨x, nz3, rfl, hx, rfl, rfl⟩
   have hwx : ∀ c ∈ w ++ v.take x, 0 ≤ c ∧ c < (k : Int) := fun c hc => by
    rcases List.mem_append.1 hc with hc | hc
    ·exact hw c hc
    ·exact v2 c (List.mem_of_mem_take hc)
   have hspx := aft_spec hV _ hwx
   have hfwx := hspx.1.few (tot_aft (w ++ v.take x))
   simp -implicitDefEqProofs (maxSteps := 4000000) (disch := omega) only [push_cast, c15, Nat.reduceAdd, Nat.reduceSub, Nat.reduceMul, Nat.reduceBEq, Int.reduceToNat, Int.reduceNeg, Int.reduceLE, Int.reduceLT, Int.reduceBEq, Int.reduceBNe, Int.reduceEq, eq_self, reduceCtorEq]
   refine ⟨fun hlt => ⟨hlt, ?_⟩, fun hge => ?_⟩
   ·have hvx := v2 _ (getD_mem hlt)
    have hst : aftB N O (w ++ v.take (x + 1)) = aftP N O (aftB N O (w ++ v.take x)) (v.getD x 0) := by rw [take_snoc hlt, ← List.append_assoc, aftB_snoc]
    generalize hq : aftB N O (w ++ v.take x) = q at *
    refine callW_rel (f39 N O z z' nz3 q.1 (v.getD x 0) k hV hvx (fun b hb => ⟨by have := hfwx.2 b hb; omega, hspx.1.st b hb⟩) (by have := hfwx.1; omega)) ?_
    rintro R O' ⟨nz4, rfl, rfl⟩
    simp -implicitDefEqProofs (maxSteps := 4000000) (disch := omega) only [push_cast, c15, Nat.reduceAdd, Nat.reduceSub, Nat.reduceMul, Nat.reduceBEq, Int.reduceToNat, Int.reduceNeg, Int.reduceLE, Int.reduceLT, Int.reduceBEq, Int.reduceBNe, Int.reduceEq, eq_self, reduceCtorEq]
    refine ⟨v.length - (x + 1), by omega, x + 1, nz4, by omega, rfl, ?_⟩
    rw [hst]
    exact ⟨⟨rfl, rfl⟩, by push_cast; rfl⟩
   ·rw [List.take_of_length_le hge]
    refine ⟨by omega, _, hpot, w ++ v, r + 1, nz3, hwv, rfl, by omega, fun B hBB => ?_, ⟨rfl, rfl⟩, rfl⟩
    have h1 := hB B hBB
    have h2 := hvB B hBB
    rw [List.length_append, Nat.add_mul]
    omega
 ·have hh : homW N O w := (hom_iff hV hw).1 (by rw [hL]; exact List.length_eq_zero_iff.1 (by omega))
  have hbd : ∃ D, TabOk N O true k D ∧ ∀ B, (∀ p q, D p q ≤ B) → w.length ≤ (N.length - 1) * B := ⟨D, hD, fun B h => Nat.le_trans (hB B h) (Nat.mul_le_mul_right _ (by omega))⟩
  have hal := hom_allD hh hw
  refine ⟨fun h => ⟨[], 3, ?_, .inl ⟨rfl, rfl⟩⟩, fun h => ⟨w, 0, ?_, .inr ⟨false, rfl, rfl, rfl⟩⟩⟩
  ·unfold HomeR
   rw [hk]
   exact .inr (.inr ⟨hv, hal, w, hh, hw, hbd, .inl ⟨by omega, rfl, rfl⟩⟩)
  ·unfold HomeR
   rw [hk]
   exact .inr (.inr ⟨hv, hal, w, hh, hw, hbd, .inr ⟨by omega, rfl, rfl⟩⟩)
end Go.AM
end

section
namespace Go.AM
open Go Go.Proofs Go.Sort
theorem wrap_u8 {n : Int} (h1 : 0 ≤ n) (h2 : n ≤ 255) : IntKind.u8.wrap n = n := by
 simp only [IntKind.wrap, IntKind.signed, IntKind.bits]
 simp
 omega
def kAcc (K b : List Int) : Nat → List Int
 | 0 => K
 | j + 1 => kAcc K b j ++ [b.getD j 0 + 1]
theorem kAcc_eq {K b : List Int} : ∀ j, j ≤ b.length → kAcc K b j = K ++ (b.take j).map (fun s => s + 1)
 | 0, _ => by simp [kAcc]
 | j + 1, h => by rw [kAcc, kAcc_eq j (by omega), take_snoc (show j < b.length by omega), List.map_append, List.append_assoc]; rfl
theorem kAcc_len {K b : List Int} : ∀ j, (kAcc K b j).length = K.length + j
 | 0 => rfl
 | j + 1 => by rw [kAcc, List.length_append, kAcc_len j]; rfl
theorem tot_take : ∀ (L : List (List Int)) (i : Nat), tot (L.take i) ≤ tot L
 | [], _ => by simp
 | x :: L, 0 => by simp [tot]
 | x :: L, i + 1 => by
  have := tot_take L i
  rw [List.take_succ_cons, tot_cons, tot_cons]; omega
def c62 : VCfg := ⟨⟨[], [], [3], [0, 2, 3, 5, 7, 8, 9, 10, 11, 14, 15, 16, 17]⟩, [], [], []⟩
set_option maxHeartbeats 4000000 in
set_option maxRecDepth 100000 in
theorem f62 (L : List (List Int)) (z : Bool) (ht : tot L ≤ 60) (hl : L.length ≤ 60) (hs : ∀ b ∈ L, ∀ s ∈ b, 0 ≤ s ∧ s < 60) : ACall Tryz.prog 62 [.pay (.rows L) z] (fun r objs => r = .str (bs ((kL L).map fun x => UInt8.ofNat x.toNat)) ∧ objs = []) := by
 refine acall_intro (tyP_ok _) c62 2000 [.tmp 2] Tryz.func62 rfl (by rfl) rfl (by kernel_rfl) ?_
 unfold Tryz.f62
 simp -implicitDefEqProofs (maxSteps := 4000000) (disch := omega) only [push_cast, c62, Nat.reduceAdd, Nat.reduceSub, Nat.reduceMul, Nat.reduceBEq, Int.reduceToNat, Int.reduceNeg, Int.reduceLE, Int.reduceLT, Int.reduceBEq, Int.reduceBNe, Int.reduceEq, eq_self, reduceCtorEq]
 refine awp_upd (tyP_ok _) c62 2000 [2, 3, 8, 9, 10] (L.length) (fun _ => True) (fun i => [(10, .int .i64 i)]) (fun i => [(0, .arr (.ints .u8 (kL (L.take i))) ⟨5, true⟩)]) (by kernel_rfl) (by rw [List.take_zero]; rfl) ?_ ?_
 ·trivial
 intro i hi _
 have hkl := kL_len (L.take i)
 simp -implicitDefEqProofs (maxSteps := 4000000) (disch := omega) only [push_cast, c62, Nat.reduceAdd, Nat.reduceSub, Nat.reduceMul, Nat.reduceBEq, Int.reduceToNat, Int.reduceNeg, Int.reduceLE, Int.reduceLT, Int.reduceBEq, Int.reduceBNe, Int.reduceEq, eq_self, reduceCtorEq]
 refine ⟨fun hlt => ⟨hlt, ?_⟩, fun hge => ?_⟩
 ·have hin := getD_mem' hlt
  have hbl := tot_mem hin
  have hbs := hs _ hin
  have hks := kL_snoc hlt
  have htt := tot_take L i
  rw [List.length_take] at hkl
  generalize L.getD i [] = b at *
  generalize kL (L.take i) = K at *
  refine awp_upd (tyP_ok _) c62 2000 [2, 3, 8, 9, 10, 14, 15, 16] (b.length) (fun _ => True) (fun j => [(16, .int .i64 j)]) (fun j => [(0, .arr (.ints .u8 (kAcc K b j)) ⟨5, true⟩)]) (by kernel_rfl) rfl ?_ ?_
  ·trivial
  intro j hj _
  have hal := kAcc_len (K := K) (b := b) j
  simp -implicitDefEqProofs (maxSteps := 4000000) (disch := omega) only [push_cast, c62, Nat.reduceAdd, Nat.reduceSub, Nat.reduceMul, Nat.reduceBEq, Int.reduceToNat, Int.reduceNeg, Int.reduceLE, Int.reduceLT, Int.reduceBEq, Int.reduceBNe, Int.reduceEq, eq_self, reduceCtorEq]
  refine ⟨fun hjl => ?_, fun hge => ?_⟩
  ·have hx := hbs _ (getD_mem hjl)
   have e1 : IntKind.i64.wrap (1 + b.getD j 0) = 1 + b.getD j 0 := wrap_nat (by omega) (by omega)
   have e2 : IntKind.u8.wrap (1 + b.getD j 0) = 1 + b.getD j 0 := wrap_u8 (by omega) (by omega)
   rw [e1, e2, kAcc]
   exact ⟨hjl, by omega, hjl, by rw [Int.add_comm]⟩
  ·obtain rfl : j = b.length := by omega
   refine ⟨by omega, hlt, ?_⟩
   rw [hks, kAcc_eq _ (Nat.le_refl _), List.take_length, kB, List.append_assoc]
 ·rw [List.take_of_length_le hge]
end Go.AM
end

section
namespace Go.AM
open Go Go.Proofs Go.Sort
theorem flat_tot : ∀ L : List (List Int), L.flatten.length = tot L
 | [] => rfl
 | x :: L => by rw [List.flatten_cons, List.length_append, flat_tot L, tot_cons]
end Go.AM
end
