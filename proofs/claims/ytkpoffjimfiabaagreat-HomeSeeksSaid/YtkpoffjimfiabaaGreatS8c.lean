/-
  Contract of Seek; conditions in each statement.
-/
import Derived.Test.YtkpoffjimfiabaaGreatS6
import Derived.Test.YtkpoffjimfiabaaGreatS8a
import Derived.Test.YtkpoffjimfiabaaGreatS8b
import Derived.Test.YtkpoffjimfiabaaGreatP6
set_option linter.unusedVariables false
set_option linter.unusedSimpArgs false
set_option linter.unusedSectionVars false
set_option linter.unnecessarySimpa false

section
namespace Go.AM
open Go Go.Proofs Go.Sort
section
variable {N O : List (List Int)} {k : Nat} {D : Nat → Nat → Nat}
theorem wrd_le (hV : VM N O k) (hD : TabOk N O false k D) {p q : Nat} (hp : p < N.length) (hq : q < N.length) (hpq : p ≠ q) {v : List Int} (hv : ∀ c ∈ v, 0 ≤ c ∧ c < (k : Int)) (h : outsG N O p v ≠ outsG N O q v) : leB (wrdL N O false k D (D p q) p q) v := by
 have hd : decW N O false p q v := .inl h
 obtain ⟨h1, h2⟩ := dec_some hV hD v p q hp hq hpq hv hd
 obtain ⟨m, hm⟩ : ∃ m, D p q = m + 1 := ⟨D p q - 1, by omega⟩
 have h3 := (wrd_ok hV hD m p q hm).1
 by_cases e : v.length = D p q
 ·rcases wrd_first hV hD v p q hp hq hpq hv hd e with h4 | h4
  ·rw [← h4]; exact leB_refl _
  ·refine leB_of ?_
   unfold comesB
   rw [if_pos (by rw [hm, h3, e, hm])]
   exact h4
 ·refine leB_of ?_
  unfold comesB
  rw [hm, if_neg (by rw [h3]; omega)]
  simp only [decide_eq_true_eq]
  rw [h3]; omega
theorem BI.best (hV : VM N O k) (hD : TabOk N O false k D) {P : List Int} (hlt : P.Pairwise (· < ·)) (hst : ∀ p ∈ P, 0 ≤ p ∧ p < (N.length : Int)) (h2 : 2 ≤ P.length) {w : List Int} (h : BI N O false k D P P.length 0 w) : IsBest N O k P w := by
 rcases h.one with ⟨_, hno⟩ | ⟨i, j, hah, hw⟩
 ·exact absurd ⟨by omega, by omega, by omega⟩ (hno 1 0)
 have hdn := (h.all i j hah).1
 obtain ⟨⟨q1, q2, q3⟩, q4, q5⟩ := bN_ok hst hlt hah.1 hah.2.1
 obtain ⟨m, hm⟩ : ∃ m, D (bN P i) (bN P j) = m + 1 := ⟨D (bN P i) (bN P j) - 1, by omega⟩
 obtain ⟨v1, v2, v3⟩ := wrd_ok hV hD m _ _ hm
 have hw2 : w = wrdL N O false k D (m + 1) (bN P i) (bN P j) := by rw [hw, bW, hm]
 rw [← hw2] at v2 v3
 refine ⟨v2, ⟨_, q4, _, q5, ?_⟩, fun v hv hpq => ?_⟩
 ·rcases v3 with h | ⟨h, _⟩
  ·exact h
  ·cases h
 ·obtain ⟨p, hp, q, hq, hne⟩ := hpq
  obtain ⟨a, ha, rfl⟩ := List.getElem_of_mem hp
  obtain ⟨b, hb, rfl⟩ := List.getElem_of_mem hq
  have key : ∀ a b, (ha : a < P.length) → (hb : b < P.length) → b < a → outsG N O P[a] v ≠ outsG N O P[b] v → leB w v := fun a b ha hb hab hne => by
   obtain ⟨⟨r1, r2, r3⟩, _, _⟩ := bN_ok hst hlt hab ha
   have ea : ((bN P a : Nat) : Int) = P[a] := by
    have := hst _ (List.getElem_mem ha)
    simp only [bN, List.getD_eq_getElem?_getD, List.getElem?_eq_getElem ha, Option.getD_some]
    omega
   have eb : ((bN P b : Nat) : Int) = P[b] := by
    have := hst _ (List.getElem_mem hb)
    simp only [bN, List.getD_eq_getElem?_getD, List.getElem?_eq_getElem hb, Option.getD_some]
    omega
   refine leB_trans (h.all a b ⟨hab, ha, .inl ha⟩).2 ?_
   exact wrd_le hV hD r1 r2 r3 hv (by rw [ea, eb]; exact hne)
  rcases Nat.lt_trichotomy a b with hab | hab | hab
  ·exact key b a hb ha hab hne.symm
  ·subst hab; exact absurd rfl hne
  ·exact key a b ha hb hab hne
end
theorem Weak.freezeL (st : St) (l : List Nat) : Weak st (st.freezeL l) := fun _ _ _ _ h => FR.freezeL l _ _ h
theorem min_tab {N O : List (List Int)} {k : Nat} {D : Nat → Nat → Nat} (hV : VM N O k) (hD : TabOk N O false k D) (hmin : cntT N O k = N.length) {p q : Nat} (hp : p < N.length) (hq : q < N.length) (hpq : p ≠ q) : D p q ≠ 0 := by
 have key : ∀ p q : Nat, p < q → q < N.length → D p q ≠ 0 := fun p q hpq hq => by
  obtain ⟨a, ha, b, hb, hab, w, _, w2, w3⟩ := moore_set (P := [(p : Int), (q : Int)]) hV.cm hmin (by simp; omega) (by simp; omega) (by simp)
  have : (a = p ∧ b = q) ∨ (a = q ∧ b = p) := by
   simp at ha hb
   omega
  rcases this with ⟨rfl, rfl⟩ | ⟨rfl, rfl⟩
  ·exact (dec_some hV hD w p q (by omega) hq (by omega) w2 (.inl w3)).1
  ·exact (dec_some hV hD w p q (by omega) hq (by omega) w2 (.inl w3.symm)).1
 rcases Nat.lt_trichotomy p q with h | h | h
 ·exact key p q h hq
 ·exact absurd h hpq
 ·rw [hD.sym]; exact key q p h hp
theorem strict_len {P : List Int} {n : Nat} (hlt : P.Pairwise (· < ·)) (hst : ∀ p ∈ P, 0 ≤ p ∧ p < (n : Int)) : P.length ≤ n := by
 refine pigeon n _ (fun m => (P.getD m 0).toNat) (fun m hm => ?_) fun m m' hm hm' e => ?_
 ·have := hst _ (getD_mem hm)
  omega
 ·have h1 := hst _ (getD_mem hm)
  have h2 := hst _ (getD_mem hm')
  have h3 : P[m] = P[m'] := by
   have : P.getD m 0 = P.getD m' 0 := by omega
   simpa [List.getD, hm, hm'] using this
  rcases Nat.lt_trichotomy m m' with h | h | h
  ·have := List.pairwise_iff_getElem.1 hlt m m' hm hm' h; omega
  ·exact h
  ·have := List.pairwise_iff_getElem.1 hlt m' m hm' hm h; omega
theorem one_mem {P : List Int} {s : Int} (h : s ∈ P) (hl : P.length ≤ 1) : P = [s] := by
 match P, h, hl with
 | [a], h, _ => rw [List.mem_singleton.1 h]
theorem lcallW_ex3 {P : Program} {y : Yc} {V : VC} {g : Gh} {rr : List Item} {Q : Gh → Exit → St → Prop} {f : FuncId} {args : List AV} {objs : List AObj} {d : Option Tmp} {st : St} {sel : List Nat} {avs : List AV} {α β γ : Type} {B : α → β → Prop} {F : α → β → γ → AV} {A0 : List AV} {O0 : List AObj}
  (h : GCall P y f g args objs (fun g' r A O' => g' = g ∧ (∃ a b c, B a b ∧ r = F a b c) ∧ A = A0 ∧ O' = O0)) (hk : ∀ a b c, B a b → V g rr (joinL st sel avs d (F a b c) A0 O0) Q) : LCallW P y f g args objs (lcallF V rr d st sel avs Q) :=
 lcallW_rel h (by rintro g1 R A O' ⟨rfl, ⟨a, b, c, hb, rfl⟩, rfl, rfl⟩; exact hk a b c hb)
def SekR (N O : List (List Int)) (s : Int) (v : List Int) (t e : Int) : Prop :=
 (vmB N O = false ∧ e = 1 ∧ v = [] ∧ t = 0) ∨ (vmB N O = true ∧ ¬ (0 ≤ s ∧ s < N.length) ∧ e = 2 ∧ v = [] ∧ t = 0) ∨
 (vmB N O = true ∧ (0 ≤ s ∧ s < N.length) ∧ cntT N O (N.getD 0 []).length ≠ N.length ∧ e = 4 ∧ v = [] ∧ t = 0) ∨
 (vmB N O = true ∧ (0 ≤ s ∧ s < N.length) ∧ cntT N O (N.getD 0 []).length = N.length ∧ e = 0 ∧ ∃ j P, Chn N O (N.getD 0 []).length s j v t P ∧ P.length ≤ 1)
def nxtI (N O : List (List Int)) (s : Int) (w P : List Int) (i : Nat) : List Int := ((P.take i).filter fun p => decide (outsG N O p w = outsG N O s w)).map fun p => leadG N p w
theorem nxtI_snoc {N O : List (List Int)} {s : Int} {w P : List Int} {i : Nat} (h : i < P.length) : nxtI N O s w P (i + 1) = if outsG N O (P.getD i 0) w = outsG N O s w then nxtI N O s w P i ++ [leadG N (P.getD i 0) w] else nxtI N O s w P i := by
 unfold nxtI
 rw [take_snoc h, List.filter_append, List.map_append]
 generalize P.getD i 0 = x
 by_cases e : outsG N O x w = outsG N O s w
 ·simp [e]
 ·simp [e]
theorem nxtI_len {N O : List (List Int)} {s : Int} {w P : List Int} (i : Nat) : (nxtI N O s w P i).length ≤ P.length := by
 unfold nxtI
 rw [List.length_map]
 refine Nat.le_trans (List.length_filter_le _ _) ?_
 rw [List.length_take]; omega
def c6 : VCfg := ⟨⟨[], [], [14], [0, 1, 2, 4, 5, 6, 7, 8, 9, 10, 12, 13, 14, 16, 17, 18, 19, 23, 29, 41, 55, 56, 57, 58, 70]⟩, [(22, (.op 0 .loose (.op 1 .loose (.op 2 .loose (.op 3 .loose (.op 4 .loose (.op 5 .loose (.op 6 .loose .nil))))))))], [23, 26, 27], [45, 77, 83]⟩
set_option maxHeartbeats 16000000 in
set_option maxRecDepth 100000 in
theorem f6 (N O : List (List Int)) (z z' : Bool) (s0 : Int) (hl : N.length ≤ 4611686018427387904) (hl2 : ∀ r ∈ N, r.length ≤ 4611686018427387904) (ho : O.length ≤ 4611686018427387904) (ho2 : ∀ r ∈ O, r.length ≤ 4611686018427387904) :
  ACall Tryz.prog 6 [.agg [.pay (.rows (N)) (z), .pay (.rows (O)) (z')], .int .i64 s0] (fun r objs => ∃ v t e nz, SekR N O s0 v t e ∧ r = .tup [.pay (.ints .i64 v) nz, .int .i64 t, .int .i64 e] ∧ objs = []) := by
 suffices h : ACall Tryz.prog 6 [.agg [.pay (.rows (N)) (z), .pay (.rows (O)) (z')], .int .i64 s0] (fun r objs => ∃ v t e, SekR N O s0 v t e ∧ ((r = .tup [.pay (.ints .i64 v) true, .int .i64 t, .int .i64 e] ∧ objs = []) ∨ ∃ nz, r = .tup [.own 0, .int .i64 t, .int .i64 e] ∧ objs = [.arr (.ints .i64 v) ⟨3, nz⟩])) by
  refine h.frz ?_
  rintro r objs ⟨v, t, e, h1, ⟨rfl, rfl⟩ | ⟨nz, rfl, rfl⟩⟩
  ·exact ⟨[], _, 0, rfl, v, t, e, true, h1, rfl, rfl⟩
  ·exact ⟨[0], _, 1, rfl, ⟨v, t, e, _, h1, rfl, rfl⟩⟩
 refine acall_intro (tyP_ok _) c6 2000 [.tmp 4, .tmp 5, .tmp 6] Tryz.func6 rfl (by rfl) rfl (by kernel_rfl) ?_
 unfold Tryz.f6
 simp -implicitDefEqProofs (maxSteps := 4000000) (disch := omega) only [push_cast, c6, Nat.reduceAdd, Nat.reduceSub, Nat.reduceMul, Nat.reduceBEq, Int.reduceToNat, Int.reduceNeg, Int.reduceLE, Int.reduceLT, Int.reduceBEq, Int.reduceBNe, Int.reduceEq, eq_self, reduceCtorEq]
 refine callW_eq _ _ (f17 N O z z' hl hl2 ho ho2) ?_
 simp -implicitDefEqProofs (maxSteps := 4000000) (disch := omega) only [push_cast, c6, Nat.reduceAdd, Nat.reduceSub, Nat.reduceMul, Nat.reduceBEq, Int.reduceToNat, Int.reduceNeg, Int.reduceLE, Int.reduceLT, Int.reduceBEq, Int.reduceBNe, Int.reduceEq, eq_self, reduceCtorEq]
 refine ⟨fun hv => ⟨[], 0, 1, .inl ⟨hv, rfl, rfl, rfl⟩, .inl ⟨rfl, rfl, rfl⟩⟩, fun hv => ?_⟩
 have hV := vmB_iff.1 hv
 have hn2 := hV.v.n2
 have hn1 := hV.v.n1
 refine callW_eq _ _ (f19 N O z z') ?_
 simp -implicitDefEqProofs (maxSteps := 4000000) (disch := omega) only [push_cast, c6, Nat.reduceAdd, Nat.reduceSub, Nat.reduceMul, Nat.reduceBEq, Int.reduceToNat, Int.reduceNeg, Int.reduceLE, Int.reduceLT, Int.reduceBEq, Int.reduceBNe, Int.reduceEq, eq_self, reduceCtorEq]
 refine callW_eq _ _ (f18 N z s0) ?_
 simp -implicitDefEqProofs (maxSteps := 4000000) (disch := omega) only [push_cast, c6, Nat.reduceAdd, Nat.reduceSub, Nat.reduceMul, Nat.reduceBEq, Int.reduceToNat, Int.reduceNeg, Int.reduceLE, Int.reduceLT, Int.reduceBEq, Int.reduceBNe, Int.reduceEq, eq_self, reduceCtorEq]
 refine ⟨fun hs => ⟨[], 0, 2, .inr (.inl ⟨hv, hs, rfl, rfl, rfl⟩), .inl ⟨rfl, rfl, rfl⟩⟩, fun hs => ?_⟩
 refine callW_eq _ _ (f20 N O z z' _ hV) ?_
 simp -implicitDefEqProofs (maxSteps := 4000000) (disch := omega) only [push_cast, c6, Nat.reduceAdd, Nat.reduceSub, Nat.reduceMul, Nat.reduceBEq, Int.reduceToNat, Int.reduceNeg, Int.reduceLE, Int.reduceLT, Int.reduceBEq, Int.reduceBNe, Int.reduceEq, eq_self, reduceCtorEq]
 refine ⟨fun hm => ⟨[], 0, 4, .inr (.inr (.inl ⟨hv, hs, hm, rfl, rfl, rfl⟩)), .inl ⟨rfl, rfl, rfl⟩⟩, fun hm => ?_⟩
 generalize hk : (N.getD 0 []).length = k at *
 refine callW_rel (f21 N O z z' false k hV) ?_
 rintro R O' ⟨D, hD, rfl, rfl⟩
 simp -implicitDefEqProofs (maxSteps := 4000000) (disch := omega) only [push_cast, c6, Nat.reduceAdd, Nat.reduceSub, Nat.reduceMul, Nat.reduceBEq, Int.reduceToNat, Int.reduceNeg, Int.reduceLE, Int.reduceLT, Int.reduceBEq, Int.reduceBNe, Int.reduceEq, eq_self, reduceCtorEq]
 refine callW_eq _ _ (f19 N O z z') ?_
 simp -implicitDefEqProofs (maxSteps := 4000000) (disch := omega) only [push_cast, c6, Nat.reduceAdd, Nat.reduceSub, Nat.reduceMul, Nat.reduceBEq, Int.reduceToNat, Int.reduceNeg, Int.reduceLE, Int.reduceLT, Int.reduceBEq, Int.reduceBNe, Int.reduceEq, eq_self, reduceCtorEq]
 refine callW_rel (f22 N z hn2) ?_
 rintro R O' ⟨nz, rfl, rfl⟩
 simp -implicitDefEqProofs (maxSteps := 4000000) (disch := omega) only [push_cast, c6, Nat.reduceAdd, Nat.reduceSub, Nat.reduceMul, Nat.reduceBEq, Int.reduceToNat, Int.reduceNeg, Int.reduceLE, Int.reduceLT, Int.reduceBEq, Int.reduceBNe, Int.reduceEq, eq_self, reduceCtorEq]
 refine awp_loopW (tyP_ok _) c6 2000 (fun n g st => ∃ (j : Nat) (v : List Int) (s : Int) (P : List Int) (nz : Bool), g = (false, 0) ∧ Chn N O k s0 j v s P ∧ n = P.length ∧ st = ⟨88, [(1, .int .i64 s), (2, .fref [.pay (.rows N) z, .pay (.rows O) z']), (4, .pay (.ints .i64 []) true), (5, .int .i64 0), (6, .int .i64 0), (7, .ref 0 0), (8, .own 1), (9, .pay (.ints .i64 P) nz)], [tabO N O z z' false D, .arr (.ints .i64 v) ⟨3, false⟩]⟩) N.length (by kernel_rfl) (Weak.gc _ [1, 2, 4, 5, 6, 7, 8, 9]) ?_ ?_
 ·refine ⟨0, [], s0, allS N.length, nz, rfl, .nil, (allS_len _).symm, ?_⟩
  simp -implicitDefEqProofs (maxSteps := 4000000) (disch := omega) only [push_cast, c6, Nat.reduceAdd, Nat.reduceSub, Nat.reduceMul, Nat.reduceBEq, Int.reduceToNat, Int.reduceNeg, Int.reduceLE, Int.reduceLT, Int.reduceBEq, Int.reduceBNe, Int.reduceEq, eq_self, reduceCtorEq]
 rintro n g st ⟨j, v, s, P, nz, rfl, hc, rfl, rfl⟩
 have hok := hc.ok hV hm hs
 have hbd := hok.bud
 have hba := budG_all (n := N.length)
 have hnn : N.length * (N.length - 1) ≤ 60 * 59 := Nat.mul_le_mul hn2 (by omega)
 have hPn : P.length ≤ 60 := Nat.le_trans (strict_len hok.lt hok.st) hn2
 have hsm := hok.st s hok.mem
 simp -implicitDefEqProofs (maxSteps := 4000000) (disch := omega) only [push_cast, c6, Nat.reduceAdd, Nat.reduceSub, Nat.reduceMul, Nat.reduceBEq, Int.reduceToNat, Int.reduceNeg, Int.reduceLE, Int.reduceLT, Int.reduceBEq, Int.reduceBNe, Int.reduceEq, eq_self, reduceCtorEq]
 refine ⟨fun h2 => ?_, fun h2 => ?_⟩
 ·refine lcallW_ex3 (F := fun w ok nz => .tup [.pay (.ints .i64 w) nz, .bool ok]) (f23 _ _ N O z z' false nz D P k hV hD hok.st hok.lt hPn) ?_
  intro w ok nz2 hbest
  simp -implicitDefEqProofs (maxSteps := 4000000) (disch := omega) only [push_cast, c6, Nat.reduceAdd, Nat.reduceSub, Nat.reduceMul, Nat.reduceBEq, Int.reduceToNat, Int.reduceNeg, Int.reduceLE, Int.reduceLT, Int.reduceBEq, Int.reduceBNe, Int.reduceEq, eq_self, reduceCtorEq]
  have hB : IsBest N O k P w := by
   rcases hbest with ⟨_, _, i, j, hj, hi, hd⟩ | ⟨_, hBI⟩
   ·obtain ⟨⟨q1, q2, q3⟩, _, _⟩ := bN_ok hok.st hok.lt hj hi
    exact absurd hd (min_tab hV hD hm q1 q2 q3)
   ·exact BI.best hV hD hok.lt hok.st (by omega) hBI
  have hc2 := hc.step (by omega) hB
  have hok2 := hc2.ok hV hm hs
  have hbd2 := hok2.bud
  have hwl : v.length + w.length ≤ 1770 := by rw [List.length_append] at hbd2; omega
  refine callW_eq _ _ (f24 N O z z' nz2 s w k hV hsm hB.1 (by omega)) ?_
  simp -implicitDefEqProofs (maxSteps := 4000000) (disch := omega) only [push_cast, c6, Nat.reduceAdd, Nat.reduceSub, Nat.reduceMul, Nat.reduceBEq, Int.reduceToNat, Int.reduceNeg, Int.reduceLE, Int.reduceLT, Int.reduceBEq, Int.reduceBNe, Int.reduceEq, eq_self, reduceCtorEq]
  refine awp_upd (tyP_ok _) c6 2000 [1, 2, 4, 5, 6, 7, 8, 9, 10, 12, 13, 14, 55, 56, 57] (P.length) (fun _ => True) (fun i => [(57, .int .i64 i)]) (fun i => [(2, .arr (.ints .i64 (nxtI N O s w P i)) ⟨3, true⟩)]) (by kernel_rfl) rfl ?_ ?_
  ·trivial
  intro i hi _
  have hil := nxtI_len (N := N) (O := O) (s := s) (w := w) (P := P) i
  simp -implicitDefEqProofs (maxSteps := 4000000) (disch := omega) only [push_cast, c6, Nat.reduceAdd, Nat.reduceSub, Nat.reduceMul, Nat.reduceBEq, Int.reduceToNat, Int.reduceNeg, Int.reduceLE, Int.reduceLT, Int.reduceBEq, Int.reduceBNe, Int.reduceEq, eq_self, reduceCtorEq]
  refine ⟨fun hlt => ⟨hlt, ?_⟩, fun hge => ?_⟩
  ·have hp := hok.st _ (getD_mem hlt)
   have hsn := nxtI_snoc (N := N) (O := O) (s := s) (w := w) hlt
   refine callW_eq _ _ (f24 N O z z' nz2 _ w k hV hp hB.1 (by omega)) ?_
   simp -implicitDefEqProofs (maxSteps := 4000000) (disch := omega) only [push_cast, c6, Nat.reduceAdd, Nat.reduceSub, Nat.reduceMul, Nat.reduceBEq, Int.reduceToNat, Int.reduceNeg, Int.reduceLE, Int.reduceLT, Int.reduceBEq, Int.reduceBNe, Int.reduceEq, eq_self, reduceCtorEq]
   refine callW_eq _ _ (f25 _ _ _ _ (by rw [outsG_len]; omega)) ?_
   simp -implicitDefEqProofs (maxSteps := 4000000) (disch := omega) only [push_cast, c6, Nat.reduceAdd, Nat.reduceSub, Nat.reduceMul, Nat.reduceBEq, Int.reduceToNat, Int.reduceNeg, Int.reduceLE, Int.reduceLT, Int.reduceBEq, Int.reduceBNe, Int.reduceEq, eq_self, reduceCtorEq]
   exact ⟨fun he => ⟨by omega, hlt, by rw [hsn, if_pos he]⟩, fun hne => ⟨hlt, by rw [hsn, if_neg hne]⟩⟩
  ·have e : Lib.compact (sortL (nxtI N O s w P i)) = posL N O s w P := by unfold nxtI posL setL; rw [List.take_of_length_le hge]
   refine lcallW_eq _ _ _ (f26 _ _ _ _ (by omega)) ?_
   simp -implicitDefEqProofs (maxSteps := 4000000) (disch := omega) only [push_cast, c6, Nat.reduceAdd, Nat.reduceSub, Nat.reduceMul, Nat.reduceBEq, Int.reduceToNat, Int.reduceNeg, Int.reduceLE, Int.reduceLT, Int.reduceBEq, Int.reduceBNe, Int.reduceEq, eq_self, reduceCtorEq]
   refine ⟨by omega, ?_⟩
   refine lcallW_eq _ _ _ (f27 _ _ _ _ (by rw [sortL_len]; omega)) ?_
   simp -implicitDefEqProofs (maxSteps := 4000000) (disch := omega) only [push_cast, c6, Nat.reduceAdd, Nat.reduceSub, Nat.reduceMul, Nat.reduceBEq, Int.reduceToNat, Int.reduceNeg, Int.reduceLE, Int.reduceLT, Int.reduceBEq, Int.reduceBNe, Int.reduceEq, eq_self, reduceCtorEq]
   rw [e]
   refine ⟨(posL N O s w P).length, _, posL_lt hB.2.1, (Weak.freezeL _ [4]).trans (Weak.gc _ [1, 2, 4, 5, 6, 7, 8, 9]), j + 1, v ++ w, leadG N s w, posL N O s w P, true, hc2, rfl, ?_⟩
   simp -implicitDefEqProofs (maxSteps := 4000000) (disch := omega) only [push_cast, c6, Nat.reduceAdd, Nat.reduceSub, Nat.reduceMul, Nat.reduceBEq, Int.reduceToNat, Int.reduceNeg, Int.reduceLE, Int.reduceLT, Int.reduceBEq, Int.reduceBNe, Int.reduceEq, eq_self, reduceCtorEq]
 ·have hP1 : P = [s] := one_mem hok.mem (by omega)
  subst hP1
  refine ⟨by simp, v, s, 0, .inr (.inr (.inr ⟨hv, hs, by rw [hk]; exact hm, rfl, j, [s], by rw [hk]; exact hc, by simp⟩)), .inr ⟨false, ⟨rfl, rfl⟩, rfl, rfl⟩⟩
end Go.AM
end
