/-
  Contracts of the reference's with, known, step and First; conditions in each statement.
-/
import Derived.Test.YtkpoffjimfiabaaS7
import Derived.Test.YtkpoffjimfiabaaP9
set_option linter.unusedVariables false
set_option linter.unusedSimpArgs false
set_option linter.unusedSectionVars false
set_option linter.unnecessarySimpa false

section
namespace Go.AM
open Go Go.Proofs Go.Sort
def iM (l : List Nat) : List Int := l.map fun m : Nat => (m : Int)
theorem iM_len (l : List Nat) : (iM l).length = l.length := by simp [iM]
theorem iM_get (l : List Nat) (i : Nat) : (iM l).getD i 0 = ((l.getD i 0 : Nat) : Int) := by
 by_cases h : i < l.length
 ·simp [iM, List.getD, h]
 ·simp [iM, List.getD, h]
theorem iM_inj : ∀ {a b : List Nat}, iM a = iM b ↔ a = b
 | [], [] => by simp
 | [], y :: b => by simp [iM]
 | x :: a, [] => by simp [iM]
 | x :: a, y :: b => by
  have ih := iM_inj (a := a) (b := b)
  unfold iM at ih ⊢
  simp only [List.map_cons, List.cons.injEq, Int.natCast_inj, ih]
theorem b_and1 : ∀ m : Fin 128, (IntKind.i64.wrap ((BitVec.ofInt IntKind.i64.bits (m.val : Int) &&& BitVec.ofInt IntKind.i64.bits ((m.val : Int) - 1)).toNat : Int) = 0) = (lenM m.val ≤ 1) := by
 have h : ∀ m : Fin 128, decide (IntKind.i64.wrap ((BitVec.ofInt IntKind.i64.bits (m.val : Int) &&& BitVec.ofInt IntKind.i64.bits ((m.val : Int) - 1)).toNat : Int) = 0) = decide (lenM m.val ≤ 1) := by decide +kernel
 intro m
 have := h m
 rw [decide_eq_decide] at this
 exact propext this
theorem b_and {m : Nat} (h : m < 128) : (IntKind.i64.wrap ((BitVec.ofInt IntKind.i64.bits (m : Int) &&& BitVec.ofInt IntKind.i64.bits ((m : Int) - 1)).toNat : Int) = 0) = (lenM m ≤ 1) := b_and1 ⟨m, h⟩
theorem insM_at {b : Nat} : ∀ {l : List Nat} {i : Nat}, i ≤ l.length → (∀ j, j < i → l.getD j 0 < b) → (i = l.length ∨ b ≤ l.getD i 0) → insM b l = if i < l.length ∧ l.getD i 0 = b then l else l.take i ++ b :: l.drop i
 | [], i, hi, _, _ => by
  obtain rfl : i = 0 := by simpa using hi
  simp [insM]
 | a :: l, 0, _, _, h => by
  have h : b ≤ a := by
   rcases h with h | h
   ·simp at h
   ·exact h
  unfold insM
  rw [if_neg (by omega)]
  by_cases e : a = b
  ·subst e; simp
  ·rw [if_neg e, if_neg (by simp [e])]; simp
 | a :: l, i + 1, hi, hlt, h => by
  have h0 : a < b := hlt 0 (by omega)
  have ih := insM_at (b := b) (l := l) (i := i) (by simpa using hi) (fun j hj => hlt (j + 1) (by omega)) (by
   rcases h with h | h
   ·exact .inl (by simpa using h)
   ·exact .inr h)
  unfold insM
  rw [if_pos h0, ih]
  by_cases e : i < l.length ∧ l.getD i 0 = b
  ·rw [if_pos e, if_pos ⟨by simpa using e.1, e.2⟩]
  ·rw [if_neg e, if_neg (fun g => e ⟨by simpa using g.1, g.2⟩)]
   simp
def c110 : VCfg := ⟨⟨[], [], [], [0, 1, 4]⟩, [], [], []⟩
theorem f110 (a b : List Int) (z z' : Bool) (ha : a.length ≤ 4611686018427387904) : ACall Try.prog 110 [.pay (.ints .i64 a) z, .pay (.ints .i64 b) z'] (fun r objs => r = .bool (decide (a = b)) ∧ objs = []) := by
 refine acall_intro (tyP_ok _) c110 2000 [.tmp 4] Try.func110 rfl (by rfl) rfl (by kernel_rfl) ?_
 unfold Try.f110
 simp -implicitDefEqProofs (maxSteps := 4000000) (disch := omega) only [push_cast, c110, Nat.reduceAdd, Nat.reduceSub, Nat.reduceMul, Nat.reduceBEq, Int.reduceToNat, Int.reduceNeg, Int.reduceLE, Int.reduceLT, Int.reduceBEq, Int.reduceBNe, Int.reduceEq, eq_self, reduceCtorEq]
 refine callW_eq _ _ (f29 a b z z' ha) ?_
 simp -implicitDefEqProofs (maxSteps := 4000000) (disch := omega) only [push_cast, c110, Nat.reduceAdd, Nat.reduceSub, Nat.reduceMul, Nat.reduceBEq, Int.reduceToNat, Int.reduceNeg, Int.reduceLE, Int.reduceLT, Int.reduceBEq, Int.reduceBNe, Int.reduceEq, eq_self, reduceCtorEq]
def c95 : VCfg := ⟨⟨[], [], [], [0, 1, 4, 5, 9, 17]⟩, [], [], []⟩
set_option maxRecDepth 100000 in
theorem f95 (Q : List (List Int)) (b : List Int) (z z' : Bool) (hl : Q.length ≤ 4611686018427387904) (hq : ∀ r ∈ Q, r.length ≤ 4611686018427387904) : ACall Try.prog 95 [.pay (.rows Q) z, .pay (.ints .i64 b) z'] (fun r objs => r = .bool (decide (b ∈ Q)) ∧ objs = []) := by
 refine acall_intro (tyP_ok _) c95 2000 [.tmp 4] Try.func95 rfl (by rfl) rfl (by kernel_rfl) ?_
 unfold Try.f95
 simp -implicitDefEqProofs (maxSteps := 4000000) (disch := omega) only [push_cast, c95, Nat.reduceAdd, Nat.reduceSub, Nat.reduceMul, Nat.reduceBEq, Int.reduceToNat, Int.reduceNeg, Int.reduceLE, Int.reduceLT, Int.reduceBEq, Int.reduceBNe, Int.reduceEq, eq_self, reduceCtorEq]
 refine awp_upd (tyP_ok _) c95 2000 [0, 1, 5] (Q.length) (fun i => ∀ j, j < i → Q.getD j [] ≠ b) (fun i => [(5, .int .i64 i)]) (fun i => []) (by kernel_rfl) rfl ?_ ?_
 ·exact fun j h => by omega
 intro i hi hno
 simp -implicitDefEqProofs (maxSteps := 4000000) (disch := omega) only [push_cast, c95, Nat.reduceAdd, Nat.reduceSub, Nat.reduceMul, Nat.reduceBEq, Int.reduceToNat, Int.reduceNeg, Int.reduceLE, Int.reduceLT, Int.reduceBEq, Int.reduceBNe, Int.reduceEq, eq_self, reduceCtorEq]
 refine ⟨fun hlt => ⟨hlt, ?_⟩, fun hge => ?_⟩
 ·refine callW_eq _ _ (f110 (Q.getD i []) b _ _ (hq _ (getD_mem' hlt))) ?_
  simp -implicitDefEqProofs (maxSteps := 4000000) (disch := omega) only [push_cast, c95, Nat.reduceAdd, Nat.reduceSub, Nat.reduceMul, Nat.reduceBEq, Int.reduceToNat, Int.reduceNeg, Int.reduceLE, Int.reduceLT, Int.reduceBEq, Int.reduceBNe, Int.reduceEq, eq_self, reduceCtorEq]
  refine ⟨fun he => ?_, fun hne => ⟨hlt, fun j hj => ?_⟩⟩
  ·have := getD_mem' hlt
   rw [he] at this
   simp [this]
  ·by_cases e : j = i
   ·rw [e]; exact hne
   ·exact hno j (by omega)
 ·have : b ∉ Q := fun hm => by
   obtain ⟨j, hj, e⟩ := List.getElem_of_mem hm
   exact hno j (by omega) (by simp [List.getD, hj, e])
  simp [this]
def c93 : VCfg := ⟨⟨[], [], [], [0, 1, 4, 5, 10, 23, 37]⟩, [(8, (.op 1 .strict (.op 2 .strict (.op 3 .strict (.op 5 .strict (.op 8 .strict (.op 9 .strict (.op 10 .strict (.alt (.op 0 .eff (.alt (.op 4 .eff (.op 6 .eff (.op 7 .eff (.op 11 .eff (.op 12 .loose .nil))))) (.op 6 .eff (.op 4 .eff (.op 7 .eff (.op 11 .eff (.op 12 .loose .nil))))))) (.op 6 .eff (.op 0 .eff (.op 4 .eff (.op 7 .eff (.op 11 .eff (.op 12 .loose .nil)))))))))))))))], [], []⟩
set_option maxHeartbeats 4000000 in
set_option maxRecDepth 100000 in
theorem f93 (l : List Nat) (m : Nat) (z : Bool) (hm : m < 128) (hl : l.length ≤ 1000000) : ACall Try.prog 93 [.pay (.ints .i64 (iM l)) z, .int .i64 (m : Nat)] (fun r objs => ∃ nz, r = .pay (.ints .i64 (iM (withM l m))) nz ∧ objs = []) := by
 suffices h : ACall Try.prog 93 [.pay (.ints .i64 (iM l)) z, .int .i64 (m : Nat)] (fun r objs => (∃ nz, r = .pay (.ints .i64 (iM (withM l m))) nz ∧ objs = []) ∨ (∃ nz, r = .own 0 ∧ objs = [.arr (.ints .i64 (iM (withM l m))) ⟨3, nz⟩])) by
  refine h.frz ?_
  rintro r objs (⟨nz, rfl, rfl⟩ | ⟨nz, rfl, rfl⟩)
  ·exact ⟨[], _, 0, rfl, _, rfl, rfl⟩
  ·exact ⟨[0], _, 1, rfl, _, rfl, rfl⟩
 have hil := iM_len l
 refine acall_intro (tyP_ok _) c93 2000 [.tmp 4] Try.func93 rfl (by rfl) rfl (by kernel_rfl) ?_
 unfold Try.f93
 simp -implicitDefEqProofs (maxSteps := 4000000) (disch := omega) only [push_cast, c93, Nat.reduceAdd, Nat.reduceSub, Nat.reduceMul, Nat.reduceBEq, Int.reduceToNat, Int.reduceNeg, Int.reduceLE, Int.reduceLT, Int.reduceBEq, Int.reduceBNe, Int.reduceEq, eq_self, reduceCtorEq]
 rw [b_and hm]
 refine ⟨fun h1 => .inl ⟨z, by unfold withM; rw [if_pos h1], rfl⟩, fun h1 => ?_⟩
 have hw : withM l m = insM m l := by unfold withM; rw [if_neg h1]
 rw [hw]
 refine awp_loop (tyP_ok _) c93 2000 [0, 1, 4, 5] (fun n g st => ∃ i : Nat, g = (false, 0) ∧ i ≤ l.length ∧ (∀ j, j < i → l.getD j 0 < m) ∧ n = l.length - i ∧ st = ⟨51, [(0, .pay (.ints .i64 (iM l)) z), (1, .int .i64 (m : Nat)), (4, .pay (.ints .i64 []) true), (5, .int .i64 i)], []⟩) l.length (by kernel_rfl) ?_ ?_
 ·refine ⟨0, rfl, by omega, fun j h => by omega, rfl, ?_⟩
  simp -implicitDefEqProofs (maxSteps := 4000000) (disch := omega) only [push_cast, c93, Nat.reduceAdd, Nat.reduceSub, Nat.reduceMul, Nat.reduceBEq, Int.reduceToNat, Int.reduceNeg, Int.reduceLE, Int.reduceLT, Int.reduceBEq, Int.reduceBNe, Int.reduceEq, eq_self, reduceCtorEq]
 rintro n g st ⟨i, rfl, hi, hlt, rfl, rfl⟩
 have hat := insM_at (b := m) hi hlt
 simp -implicitDefEqProofs (maxSteps := 4000000) (disch := omega) only [push_cast, c93, iM_get, iM_len, Nat.reduceAdd, Nat.reduceSub, Nat.reduceMul, Nat.reduceBEq, Int.reduceToNat, Int.reduceNeg, Int.reduceLE, Int.reduceLT, Int.reduceBEq, Int.reduceBNe, Int.reduceEq, eq_self, reduceCtorEq]
 have fin : (i = l.length ∨ m ≤ l.getD i 0) → ¬ (i < l.length ∧ l.getD i 0 = m) → List.take (i - 0) (iM l) ++ [(m : Int)] ++ List.take (l.length - i) (List.drop i (iM l)) = iM (insM m l) := fun h1 h2 => by
  have e1 : List.take (l.length - i) (List.drop i (iM l)) = List.drop i (iM l) := List.take_of_length_le (by rw [List.length_drop, iM_len]; exact Nat.le_refl _)
  rw [e1, hat h1, if_neg h2]
  simp [iM]
 have l1 : (List.take (i - 0) (iM l)).length * 8 ≤ 140737488355328 := by rw [List.length_take, iM_len]; omega
 have l2 : ((List.take (i - 0) (iM l)).length + 1) * 8 ≤ 140737488355328 := by rw [List.length_take, iM_len]; omega
 have l3 : ((List.take (i - 0) (iM l) ++ [(m : Int)]).length + (List.take (l.length - i) (List.drop i (iM l))).length) * 8 ≤ 140737488355328 := by
  rw [List.length_append, List.length_take, List.length_take, List.length_drop, iM_len, List.length_singleton]; omega
 refine ⟨fun h1 => ⟨h1, fun h2 => ⟨l.length - (i + 1), by omega, i + 1, by omega, fun j hj => ?_, rfl, by omega⟩, fun h2 => ⟨fun h3 => ⟨h3, fun e => .inl ⟨z, by rw [hat (.inr (by omega)), if_pos ⟨h3, e⟩], rfl⟩, fun e => ⟨hi, ⟨hi, Nat.le_refl _⟩, l1, l2, l3, .inr ⟨false, fin (.inr h2) (fun g => e g.2), rfl⟩⟩⟩, fun h3 => by omega⟩⟩, fun h1 => ⟨fun h3 => by omega, fun h3 => ⟨hi, ⟨hi, Nat.le_refl _⟩, l1, l2, l3, .inr ⟨false, fin (.inl (by omega)) (fun g => by omega), rfl⟩⟩⟩⟩
 by_cases e : j = i
 ·rw [e]; exact h2
 ·exact hlt j (by omega)
end Go.AM
end

section
namespace Go.AM
open Go Go.Proofs Go.Sort
theorem b_pow1 : ∀ p : Fin 7, IntKind.i64.wrap (1 * 2 ^ (min p.val IntKind.i64.bits)) = ((2 ^ p.val : Nat) : Int) := by decide +kernel
theorem b_pow {p : Nat} (h : p < 7) : IntKind.i64.wrap (1 * 2 ^ (min p IntKind.i64.bits)) = ((2 ^ p : Nat) : Int) := b_pow1 ⟨p, h⟩
theorem b_or1 : ∀ m : Fin 128, ∀ p : Fin 7, IntKind.i64.wrap ((BitVec.ofInt IntKind.i64.bits (m.val : Int) ||| BitVec.ofInt IntKind.i64.bits ((2 ^ p.val : Nat) : Int)).toNat : Int) = ((m.val ||| 2 ^ p.val : Nat) : Int) := by decide +kernel
theorem b_or {m p : Nat} (hm : m < 128) (h : p < 7) : IntKind.i64.wrap ((BitVec.ofInt IntKind.i64.bits (m : Int) ||| BitVec.ofInt IntKind.i64.bits ((2 ^ p : Nat) : Int)).toNat : Int) = ((m ||| 2 ^ p : Nat) : Int) := b_or1 ⟨m, hm⟩ ⟨p, h⟩
theorem b_has1 : ∀ m : Fin 128, ∀ p : Fin 7, decide (IntKind.i64.wrap ((BitVec.ofInt IntKind.i64.bits (m.val : Int) &&& BitVec.ofInt IntKind.i64.bits ((2 ^ p.val : Nat) : Int)).toNat : Int) = 0) = !(m.val.testBit p.val) := by decide +kernel
theorem b_has {m p : Nat} (hm : m < 128) (h : p < 7) : (IntKind.i64.wrap ((BitVec.ofInt IntKind.i64.bits (m : Int) &&& BitVec.ofInt IntKind.i64.bits ((2 ^ p : Nat) : Int)).toNat : Int) = 0) = (m.testBit p = false) := by
 have h1 := b_has1 ⟨m, hm⟩ ⟨p, h⟩
 simp only at h1
 apply propext
 cases e : m.testBit p with
 | true => rw [e] at h1; simp at h1; simp [h1]
 | false => rw [e] at h1; simp at h1; simp [h1]
theorem b_shr1 : ∀ m : Fin 128, ∀ p : Fin 7, decide (IntKind.i64.wrap ((BitVec.ofInt IntKind.i64.bits ((m.val : Int).fdiv (2 ^ (min p.val IntKind.i64.bits))) &&& BitVec.ofInt IntKind.i64.bits 1).toNat : Int) = 0) = !(m.val.testBit p.val) := by decide +kernel
theorem b_shr {m p : Nat} (hm : m < 128) (h : p < 7) : (IntKind.i64.wrap ((BitVec.ofInt IntKind.i64.bits ((m : Int).fdiv (2 ^ (min p IntKind.i64.bits))) &&& BitVec.ofInt IntKind.i64.bits 1).toNat : Int) = 0) = (m.testBit p = false) := by
 have h1 := b_shr1 ⟨m, hm⟩ ⟨p, h⟩
 simp only at h1
 apply propext
 cases e : m.testBit p with
 | true => rw [e] at h1; simp at h1; simp [h1]
 | false => rw [e] at h1; simp at h1; simp [h1]
section
variable {N O : List (List Int)} {ap : Bool} {x k : Nat}
theorem imS_small (hV : VM N O k) (hn : N.length ≤ 7) (hx : x < k) (M : Nat) : ∀ s, s ≤ N.length → ∀ o, (imS N O ap x M s).1.getD o 0 < 128
 | 0, _, o => by
  simp only [imS]
  rw [List.getD_eq_getElem?_getD, List.getElem?_replicate]
  split <;> simp
 | s + 1, hs, o => by
  have ih := imS_small hV hn hx M s (by omega)
  have h1 := nxt_lt hV hx s (by omega)
  unfold imS
  split
  ·exact ih o
  ·split
   ·exact ih o
   ·split
    ·exact ih o
    ·show ((imS N O ap x M s).1.set (outN O x s) ((imS N O ap x M s).1.getD (outN O x s) 0 ||| 2 ^ nxtN N x s)).getD o 0 < 128
     by_cases e : outN O x s = o
     ·subst e
      have hl := imS_len (N := N) (O := O) (ap := ap) (x := x) M s
      have ho := out_lt hV hx s (by omega)
      rw [List.getD_eq_getElem?_getD, List.getElem?_set_self (by rw [hl]; exact ho), Option.getD_some]
      exact Nat.or_lt_two_pow (n := 7) (ih _) (Nat.pow_lt_pow_right (by omega) (by omega))
     ·rw [List.getD_eq_getElem?_getD, List.getElem?_set_ne e, ← List.getD_eq_getElem?_getD]
      exact ih o
end
def OutM (l : List Nat) : Prop := l.Pairwise (· < ·) ∧ ∀ c ∈ l, c < 128
theorem OutM.len {l : List Nat} (h : OutM l) : l.length ≤ 128 := by
 refine pigeon 128 _ (fun m => l.getD m 0) (fun m hm => h.2 _ (by simp [List.getD, hm])) fun m m' hm hm' e => ?_
 simp only [List.getD_eq_getElem?_getD, List.getElem?_eq_getElem hm, List.getElem?_eq_getElem hm', Option.getD_some] at e
 rcases Nat.lt_trichotomy m m' with g | g | g
 ·have := List.pairwise_iff_getElem.1 h.1 m m' hm hm' g; omega
 ·exact g
 ·have := List.pairwise_iff_getElem.1 h.1 m' m hm' hm g; omega
theorem insM_sorted {b : Nat} : ∀ {l : List Nat}, l.Pairwise (· < ·) → (insM b l).Pairwise (· < ·)
 | [], _ => by simp [insM]
 | a :: l, h => by
  obtain ⟨h1, h2⟩ := List.pairwise_cons.1 h
  unfold insM
  split
  ·rename_i hab
   refine List.pairwise_cons.2 ⟨fun c hc => ?_, insM_sorted h2⟩
   rcases mem_insM.1 hc with rfl | hc
   ·exact hab
   ·exact h1 c hc
  ·split
   ·exact h
   ·refine List.pairwise_cons.2 ⟨fun c hc => ?_, h⟩
    rcases List.mem_cons.1 hc with rfl | hc
    ·omega
    ·have := h1 c hc; omega
theorem OutM.withM {l : List Nat} (h : OutM l) {m : Nat} (hm : m < 128) : OutM (withM l m) := by
 unfold AM.withM
 split
 ·exact h
 ·refine ⟨insM_sorted h.1, fun c hc => ?_⟩
  rcases mem_insM.1 hc with rfl | hc
  ·exact hm
  ·exact h.2 c hc
theorem stM_app {N O : List (List Int)} {ap : Bool} {x M : Nat} : ∀ (l out out2 : List Nat), stM N O ap x l (some out) = some out2 → stM N O ap x (l ++ [M]) (some out) = if (imS N O ap x M N.length).2 = true then none else some ((imS N O ap x M N.length).1.foldl withM out2)
 | [], out, out2, h => by
  obtain rfl : out = out2 := by simpa [stM] using h
  rw [List.nil_append, stM_cons]
  split
  ·rfl
  ·simp [stM]
 | M' :: l, out, out2, h => by
  rw [stM_cons] at h
  rw [List.cons_append, stM_cons]
  split at h
  ·cases h
  ·rename_i hf
   rw [if_neg hf]
   exact stM_app l _ out2 h
theorem stM_bad {N O : List (List Int)} {ap : Bool} {x : Nat} {l out : List Nat} {M : Nat} (hM : M ∈ l) (h : (imS N O ap x M N.length).2 = true) : stM N O ap x l (some out) = none := (stM_spec l out).1.2 ⟨M, hM, h⟩
theorem imS_stay {N O : List (List Int)} {ap : Bool} {x M : Nat} {s : Nat} (h : (imS N O ap x M s).2 = true) : ∀ d, (imS N O ap x M (s + d)).2 = true
 | 0 => h
 | d + 1 => by
  show (imS N O ap x M (s + d + 1)).2 = true
  unfold imS
  rw [if_pos (imS_stay h d)]
  exact imS_stay h d
theorem getD_memN {l : List Nat} {i : Nat} (h : i < l.length) : l.getD i 0 ∈ l := by simp [List.getD, h]
theorem takeN_snoc {l : List Nat} {i : Nat} (h : i < l.length) : l.take (i + 1) = l.take i ++ [l.getD i 0] := by rw [List.take_succ_eq_append_getElem h]; simp [List.getD, h]
theorem wrap_u64 {n : Int} (h1 : 0 ≤ n) (h2 : n ≤ 100) : IntKind.u64.wrap n = n := by
 simp only [IntKind.wrap, IntKind.signed, IntKind.bits]
 simp
 omega
theorem iM_set {l : List Nat} {i v : Nat} : (iM l).set i (v : Int) = iM (l.set i v) := by
 unfold iM; rw [List.map_set]
def c94 : VCfg := ⟨⟨[], [12], [], [0, 1, 2, 3, 4, 8, 9, 10, 11, 12, 13, 14, 15, 19, 26, 37, 63, 78]⟩, [], [], []⟩
set_option maxHeartbeats 8000000 in
set_option maxRecDepth 100000 in
theorem f94 (N O : List (List Int)) (z z' u ap : Bool) (x k : Nat) (L : List Nat) (hV : VM N O k) (hn : N.length ≤ 7) (hx : x < k) (hL : MOk N.length L) (hl : L.length ≤ 1000000) :
  ACall Try.prog 94 [.agg [.pay (.rows (N)) (z), .pay (.rows (O)) (z')], .pay (.ints .i64 (iM L)) u, .int .i64 (x : Nat), .bool ap] (fun r objs => ∃ nz, r = .tup [.pay (.ints .i64 (iM ((stepM N O ap x L).getD []))) nz, .bool (stepM N O ap x L).isSome] ∧ objs = []) := by
 have hil := iM_len L
 refine acall_intro (tyP_ok _) c94 2000 [.tmp 8, .tmp 9] Try.func94 rfl (by rfl) rfl (by kernel_rfl) ?_
 unfold Try.f94
 simp -implicitDefEqProofs (maxSteps := 4000000) (disch := omega) only [push_cast, c94, Nat.reduceAdd, Nat.reduceSub, Nat.reduceMul, Nat.reduceBEq, Int.reduceToNat, Int.reduceNeg, Int.reduceLE, Int.reduceLT, Int.reduceBEq, Int.reduceBNe, Int.reduceEq, eq_self, reduceCtorEq]
 have hk2 := hV.v.k2
 refine awp_loop (tyP_ok _) c94 2000 [1, 2, 3, 4, 8, 9, 10, 11] (fun n g st => ∃ (i : Nat) (out : List Nat) (nz : Bool), g = (false, 0) ∧ i ≤ L.length ∧ stM N O ap x (L.take i) (some []) = some out ∧ OutM out ∧ n = L.length - i ∧ st = ⟨87, [(1, .pay (.ints .i64 (iM L)) u), (2, .int .i64 (x : Nat)), (3, .bool ap), (4, .fref [.pay (.rows N) z, .pay (.rows O) z']), (8, .pay (.ints .i64 []) true), (9, .bool false), (10, .pay (.ints .i64 (iM out)) nz), (11, .int .i64 i)], []⟩) L.length (by kernel_rfl) ?_ ?_
 ·refine ⟨0, [], true, rfl, by omega, rfl, ⟨by simp, by simp⟩, rfl, ?_⟩
  simp -implicitDefEqProofs (maxSteps := 4000000) (disch := omega) only [push_cast, c94, Nat.reduceAdd, Nat.reduceSub, Nat.reduceMul, Nat.reduceBEq, Int.reduceToNat, Int.reduceNeg, Int.reduceLE, Int.reduceLT, Int.reduceBEq, Int.reduceBNe, Int.reduceEq, eq_self, reduceCtorEq]
  rfl
 rintro n g st ⟨i, out, nz, rfl, hi, hst, hout, rfl, rfl⟩
 simp -implicitDefEqProofs (maxSteps := 4000000) (disch := omega) only [push_cast, c94, iM_len, Nat.reduceAdd, Nat.reduceSub, Nat.reduceMul, Nat.reduceBEq, Int.reduceToNat, Int.reduceNeg, Int.reduceLE, Int.reduceLT, Int.reduceBEq, Int.reduceBNe, Int.reduceEq, eq_self, reduceCtorEq]
 refine ⟨fun hlt => ?_, fun hge => ?_⟩
 ·have hMl := getD_memN hlt
  have hsn := takeN_snoc hlt
  have hM128 : L.getD i 0 < 128 := Nat.lt_of_lt_of_le (hL.lt _ hMl) (pow7 hn)
  have hLi := iM_get L i
  generalize L.getD i 0 = M at *
  refine awp_upd (tyP_ok _) c94 2000 [1, 2, 3, 4, 8, 9, 10, 11, 12, 13] (N.length) (fun s => (imS N O ap x M s).2 = false) (fun s => [(13, .int .i64 s)]) (fun s => [(0, .arr (.ints .i64 (iM (imS N O ap x M s).1)) ⟨133, false⟩)]) (by kernel_rfl) rfl ?_ ?_
  ·rfl
  intro s hs hnf
  have hIl := imS_len (N := N) (O := O) (ap := ap) (x := x) M s
  have hsmall := imS_small (ap := ap) hV hn hx M s hs
  have hS : imS N O ap x M (s + 1) = if (imS N O ap x M s).2 = true then imS N O ap x M s else if M.testBit s = false then imS N O ap x M s else
   if ap = true ∧ ((imS N O ap x M s).1.getD (outN O x s) 0).testBit (nxtN N x s) = true then ((imS N O ap x M s).1, true)
   else ((imS N O ap x M s).1.set (outN O x s) ((imS N O ap x M s).1.getD (outN O x s) 0 ||| 2 ^ nxtN N x s), false) := rfl
  have hstay := imS_stay (N := N) (O := O) (ap := ap) (x := x) (M := M) (s := s + 1)
  generalize hI : imS N O ap x M s = I at *
  rw [hnf] at hS
  rw [if_neg (by simp)] at hS
  simp -implicitDefEqProofs (maxSteps := 4000000) (disch := omega) only [push_cast, c94, iM_len, hLi, Nat.reduceAdd, Nat.reduceSub, Nat.reduceMul, Nat.reduceBEq, Int.reduceToNat, Int.reduceNeg, Int.reduceLE, Int.reduceLT, Int.reduceBEq, Int.reduceBNe, Int.reduceEq, eq_self, reduceCtorEq]
  refine ⟨fun hsl => ?_, fun hge => ?_⟩
  ·have hO := out_lt hV hx s hsl
   have hP := nxt_lt hV hx s hsl
   have hOx : (O.getD s []).getD x 0 = ((outN O x s : Nat) : Int) := by
    have := (hV.out (s := (s : Int)) (x := (x : Int)) (by omega) (by omega) (by omega) (by omega)).2
    have e : outG O s x = (O.getD s []).getD x 0 := by simp [outG]
    rw [← e]; unfold outN; omega
   have hNx : (N.getD s []).getD x 0 = ((nxtN N x s : Nat) : Int) := by
    have := nx_ok hV (s := (s : Int)) (x := (x : Int)) ⟨by omega, by omega⟩ ⟨by omega, by omega⟩
    have e : nxG N s x = (N.getD s []).getD x 0 := by simp [nxG]
    rw [← e]; unfold nxtN; omega
   have hxN : x < (N.getD s []).length := by rw [(hV.v.row _ (getD_mem' hsl)).1]; exact hx
   have hol := hV.ol
   have hxO : x < (O.getD s []).length := by rw [(hV.orow _ (getD_mem' (by omega))).1]; exact hx
   have hv128 := hsmall (outN O x s)
   rw [hOx, hNx]
   generalize outN O x s = o at *
   generalize nxtN N x s = p at *
   rw [wrap_u64 (n := (s : Int)) (by omega) (by omega), wrap_u64 (n := (p : Int)) (by omega) (by omega), Int.toNat_natCast, Int.toNat_natCast, Int.toNat_natCast, b_shr hM128 (show s < 7 by omega), b_pow (show p < 7 by omega), iM_get, b_has hv128 (show p < 7 by omega), b_or hv128 (show p < 7 by omega), iM_set]
   refine ⟨hlt, by omega, fun hb => ⟨hsl, ?_, ?_⟩, fun hb => ⟨hsl, hxN, by omega, fun hap => ⟨by omega, hxO, ⟨⟨by omega, by omega⟩, by omega⟩, fun hc => ?_, fun hc => ⟨by omega, hxO, ⟨⟨by omega, by omega⟩, by omega⟩, ⟨⟨by omega, by omega⟩, by omega⟩, hsl, ?_, ?_⟩⟩, fun hap => ⟨by omega, hxO, ⟨⟨by omega, by omega⟩, by omega⟩, ⟨⟨by omega, by omega⟩, by omega⟩, hsl, ?_, ?_⟩⟩⟩
   ·rw [hS, if_pos hb]; exact hnf
   ·rw [hS, if_pos hb]
   ·have hf : (imS N O ap x M (s + 1)).2 = true := by rw [hS, if_neg hb, if_pos ⟨hap, by simpa using hc⟩]
    have := hstay hf (N.length - (s + 1))
    rw [show s + 1 + (N.length - (s + 1)) = N.length by omega] at this
    have hno : stepM N O ap x L = none := stM_bad hMl this
    rw [hno]
    exact ⟨true, ⟨rfl, rfl⟩, rfl⟩
   ·rw [hS, if_neg hb, if_neg (fun g => by rw [g.2] at hc; cases hc)]
   ·rw [hS, if_neg hb, if_neg (fun g => by rw [g.2] at hc; cases hc)]
   ·rw [hS, if_neg hb, if_neg (fun g => by rw [g.1] at hap; cases hap)]
   ·rw [hS, if_neg hb, if_neg (fun g => by rw [g.1] at hap; cases hap)]
  ·obtain rfl : s = N.length := by omega
   have hstn : stM N O ap x (L.take (i + 1)) (some []) = some (I.1.foldl withM out) := by
    rw [hsn, stM_app _ _ _ hst, hI, if_neg (by rw [hnf]; simp)]
   refine awp_loop (tyP_ok _) c94 2000 [1, 2, 3, 4, 8, 9, 10, 11, 12, 15] (fun n g st => ∃ (o : Nat) (nz' : Bool), g = (false, 0) ∧ o ≤ 16 ∧ OutM ((I.1.take o).foldl withM out) ∧ n = 16 - o ∧ st = ⟨87, [(1, .pay (.ints .i64 (iM L)) u), (2, .int .i64 (x : Nat)), (3, .bool ap), (4, .fref [.pay (.rows N) z, .pay (.rows O) z']), (8, .pay (.ints .i64 []) true), (9, .bool false), (10, .pay (.ints .i64 (iM ((I.1.take o).foldl withM out))) nz'), (11, .int .i64 i), (12, .ref 0 0), (15, .int .i64 o)], [.arr (.ints .i64 (iM I.1)) ⟨133, false⟩]⟩) 16 (by kernel_rfl) ?_ ?_
   ·refine ⟨0, nz, rfl, by omega, hout, rfl, ?_⟩
    simp -implicitDefEqProofs (maxSteps := 4000000) (disch := omega) only [push_cast, c94, Nat.reduceAdd, Nat.reduceSub, Nat.reduceMul, Nat.reduceBEq, Int.reduceToNat, Int.reduceNeg, Int.reduceLE, Int.reduceLT, Int.reduceBEq, Int.reduceBNe, Int.reduceEq, eq_self, reduceCtorEq]
   rintro n g st ⟨o, nz', rfl, ho, hom, rfl, rfl⟩
   have hol := hom.len
   simp -implicitDefEqProofs (maxSteps := 4000000) (disch := omega) only [push_cast, c94, iM_len, Nat.reduceAdd, Nat.reduceSub, Nat.reduceMul, Nat.reduceBEq, Int.reduceToNat, Int.reduceNeg, Int.reduceLE, Int.reduceLT, Int.reduceBEq, Int.reduceBNe, Int.reduceEq, eq_self, reduceCtorEq]
   refine ⟨fun h16 => ?_, fun h16 => ?_⟩
   ·have hgo := iM_get I.1 o
    rw [hgo]
    have htk := takeN_snoc (l := I.1) (i := o) (by omega)
    have hfs : (I.1.take (o + 1)).foldl withM out = withM ((I.1.take o).foldl withM out) (I.1.getD o 0) := by rw [htk, List.foldl_append]; rfl
    refine ⟨⟨h16, by omega⟩, ?_⟩
    refine callW_rel (f93 ((I.1.take o).foldl withM out) (I.1.getD o 0) nz' (hsmall o) (by omega)) ?_
    rintro R O' ⟨nz5, rfl, rfl⟩
    simp -implicitDefEqProofs (maxSteps := 4000000) (disch := omega) only [push_cast, c94, Nat.reduceAdd, Nat.reduceSub, Nat.reduceMul, Nat.reduceBEq, Int.reduceToNat, Int.reduceNeg, Int.reduceLE, Int.reduceLT, Int.reduceBEq, Int.reduceBNe, Int.reduceEq, eq_self, reduceCtorEq]
    refine ⟨16 - (o + 1), by omega, o + 1, nz5, by omega, by rw [hfs]; exact hom.withM (hsmall o), rfl, ?_⟩
    rw [hfs]
    exact ⟨⟨rfl, rfl⟩, by omega⟩
   ·have ho16 : I.1.take o = I.1 := List.take_of_length_le (by omega)
    rw [ho16] at hom ⊢
    exact ⟨L.length - (i + 1), by omega, i + 1, I.1.foldl withM out, nz', by omega, hstn, hom, rfl, ⟨rfl, rfl⟩, by omega⟩
 ·rw [List.take_of_length_le hge] at hst
  have hst2 : stepM N O ap x L = some out := hst
  exact ⟨nz, ⟨by rw [hst2]; rfl, rfl⟩, by rw [hst2]; rfl⟩
end Go.AM
end

section
namespace Go.AM
open Go Go.Proofs Go.Sort
theorem b_pow8a : ∀ p : Fin 8, IntKind.i64.wrap (IntKind.i64.wrap (1 * 2 ^ (min p.val IntKind.i64.bits)) - 1) = ((2 ^ p.val - 1 : Nat) : Int) := by decide +kernel
theorem b_pow8 {p : Nat} (h : p < 8) : IntKind.i64.wrap (IntKind.i64.wrap (1 * 2 ^ (min p IntKind.i64.bits)) - 1) = ((2 ^ p - 1 : Nat) : Int) := b_pow8a ⟨p, h⟩
def wordsS (S : Stp) : List (List Int) := (List.range S.length).map (wordOf S)
theorem wordsS_len (S : Stp) : (wordsS S).length = S.length := by simp [wordsS]
theorem wordsS_get {S : Stp} {i : Nat} (h : i < S.length) : (wordsS S).getD i [] = wordOf S i := by simp [wordsS, List.getD, h]
theorem wordsS_app {S : Stp} {i x : Nat} (ht : Tree S) (hi : i < S.length) : wordsS S ++ [wordOf S i ++ [(x : Int)]] = wordsS (S ++ [((i : Int), (x : Int))]) := by
 unfold wordsS
 rw [List.length_append, List.length_singleton, List.range_succ, List.map_append, List.map_cons, List.map_nil, wordOf_last ht hi]
 congr 1
 refine List.map_congr_left fun j hj => ?_
 rw [wordOf_append _ ht (List.mem_range.1 hj)]
theorem BInv.reach {σ : Type} [DecidableEq σ] {δ : σ → Nat → σ} {s0 : σ} {k i x : Nat} {q : List σ × Stp} (h : BInv δ s0 k i x q) : ∀ m, m < q.1.length → runW δ s0 (wordOf q.2 m) = q.1.getD m s0 ∧ ∀ y ∈ wordOf q.2 m, 0 ≤ y ∧ y < (k : Int) := by
 intro m
 induction m using Nat.strongRecOn with
 | _ m ih =>
  intro hm
  rcases h.word hm with ⟨rfl, e⟩ | ⟨j, y, h1, h2, _, h4, e⟩
  ·rw [e, h.zero]; exact ⟨rfl, fun x hx => by cases hx⟩
  ·obtain ⟨i1, i2⟩ := ih j h1 (by omega)
   rw [e, runW_snoc, i1, h4]
   refine ⟨by simp, fun x hx => ?_⟩
   rcases List.mem_append.1 hx with hx | hx
   ·exact i2 x hx
   ·simp at hx; subst hx; omega
theorem leB_nil (v : List Int) : leB [] v := by
 unfold leB comesB
 cases v with
 | nil => simp [lexB]
 | cons x v => simp
section
variable {N O : List (List Int)} {ap : Bool} {x k : Nat}
theorem fold_out : ∀ {I out : List Nat}, (∀ c ∈ I, c < 128) → OutM out → OutM (I.foldl withM out)
 | [], _, _, h => h
 | b :: I, out, hI, h => by
  rw [List.foldl_cons]
  exact fold_out (fun c hc => hI c (by simp [hc])) (h.withM (hI b (by simp)))
theorem stM_out (hV : VM N O k) (hn : N.length ≤ 7) (hx : x < k) : ∀ (l out : List Nat), OutM out → ∀ L, stM N O ap x l (some out) = some L → OutM L
 | [], out, h, L, e => by
  obtain rfl : out = L := by simpa [stM] using e
  exact h
 | M :: l, out, h, L, e => by
  rw [stM_cons] at e
  split at e
  ·cases e
  ·refine stM_out hV hn hx l _ (fold_out (fun c hc => ?_) h) L e
   obtain ⟨o, ho, rfl⟩ := List.getElem_of_mem hc
   have := imS_small (ap := ap) hV hn hx M N.length (Nat.le_refl _) o
   rw [List.getD_eq_getElem?_getD, List.getElem?_eq_getElem ho, Option.getD_some] at this
   exact this
theorem dltM_ok (hV : VM N O k) (hn : N.length ≤ 7) (hx : x < k) {L : List Nat} (hL : MOk N.length L ∧ OutM L) : MOk N.length (dltM N O ap L x) ∧ OutM (dltM N O ap L x) := by
 unfold dltM
 cases e : stepM N O ap x L with
 | none => exact hL
 | some L' => exact ⟨(step_pairs hV hn hx hL.1 e).1, stM_out hV hn hx L [] ⟨by simp, by simp⟩ L' e⟩
theorem entM_ok (hV : VM N O k) (hn : N.length ≤ 7) {i y : Nat} {q : List (List Nat) × Stp} (h : BInv (dltM N O ap) (begM N.length) k i y q) : ∀ m, m < q.1.length → MOk N.length (q.1.getD m (begM N.length)) ∧ OutM (q.1.getD m (begM N.length)) := by
 intro m
 induction m using Nat.strongRecOn with
 | _ m ih =>
  intro hm
  by_cases h0 : 0 < m
  ·obtain ⟨j, y, _, h2, h3, _, h5⟩ := h.ent m h0 hm
   rw [h5]
   exact dltM_ok hV hn h3 (ih j h2 (by omega))
  ·obtain rfl : m = 0 := by omega
   rw [h.zero]
   have hpos : 0 < 2 ^ N.length := Nat.two_pow_pos _
   have := pow7 hn
   exact ⟨(beg_ok hn hV.v.n1).1, OutM.withM (l := []) ⟨by simp, by simp⟩ (by omega)⟩
end
def qM (q : List (List Nat)) : List (List Int) := q.map iM
theorem qM_len (q : List (List Nat)) : (qM q).length = q.length := by simp [qM]
theorem qM_get {q : List (List Nat)} {i : Nat} {d : List Nat} (h : i < q.length) : (qM q).getD i [] = iM (q.getD i d) := by simp [qM, List.getD, h]
theorem qM_mem {q : List (List Nat)} {b : List Nat} : iM b ∈ qM q ↔ b ∈ q := by
 unfold qM
 rw [List.mem_map]
 constructor
 ·rintro ⟨c, hc, e⟩; rw [← iM_inj.1 e]; exact hc
 ·intro h; exact ⟨b, h, rfl⟩
def c60 : VCfg := ⟨⟨[], [], [], [0, 1, 2, 3, 6, 7, 8, 9, 10, 11, 12, 13, 14, 15, 16, 29, 33, 39, 62, 70, 75]⟩, [(12, (.op 0 .loose (.op 1 .loose (.op 2 .loose (.op 3 .loose (.op 4 .loose (.op 5 .loose (.op 6 .loose (.op 7 .eff (.op 8 .loose (.op 9 .loose (.op 10 .loose (.op 11 .loose (.op 12 .loose .nil))))))))))))))], [], []⟩
def S60 (N O : List (List Int)) (z z' ap : Bool) (q : List (List Nat) × Stp) (i : Nat) : St :=
 ⟨88, [(1, .bool ap), (2, .int .i64 3000), (3, .fref [.pay (.rows N) z, .pay (.rows O) z']), (6, .pay (.ints .i64 []) true), (7, .bool false), (8, .bool false), (10, .own 0), (11, .own 1), (12, .int .i64 i)], [.arr (.rows (qM q.1)) ⟨110, false⟩, .arr (.rows (wordsS q.2)) ⟨25, false⟩]⟩
def R60 (N O : List (List Int)) (z z' ap : Bool) (q : List (List Nat) × Stp) (i x : Nat) : St :=
 ⟨88, [(1, .bool ap), (2, .int .i64 3000), (3, .fref [.pay (.rows N) z, .pay (.rows O) z']), (6, .pay (.ints .i64 []) true), (7, .bool false), (8, .bool false), (10, .own 0), (11, .own 1), (12, .int .i64 i), (13, .int .i64 x)], [.arr (.rows (qM q.1)) ⟨110, false⟩, .arr (.rows (wordsS q.2)) ⟨25, false⟩]⟩
set_option maxHeartbeats 8000000 in
set_option maxRecDepth 100000 in
theorem f60 (N O : List (List Int)) (z z' ap : Bool) (k : Nat) (hV : VM N O k) (hn : N.length ≤ 7) :
  ACall Try.prog 60 [.agg [.pay (.rows (N)) (z), .pay (.rows (O)) (z')], .bool ap, .int .i64 3000] (fun r objs => ∃ w ok fine nz, FstR N O ap k w ok fine ∧ r = .tup [.pay (.ints .i64 w) nz, .bool ok, .bool fine] ∧ objs = []) := by
 suffices h : ACall Try.prog 60 [.agg [.pay (.rows (N)) (z), .pay (.rows (O)) (z')], .bool ap, .int .i64 3000] (fun r objs => ∃ w ok fine, FstR N O ap k w ok fine ∧ ((r = .tup [.pay (.ints .i64 w) true, .bool ok, .bool fine] ∧ objs = []) ∨ ∃ nz, r = .tup [.own 0, .bool ok, .bool fine] ∧ objs = [.arr (.ints .i64 w) ⟨3, nz⟩])) by
  refine h.frz ?_
  rintro r objs ⟨w, ok, fine, h1, ⟨rfl, rfl⟩ | ⟨nz, rfl, rfl⟩⟩
  ·exact ⟨[], _, 0, rfl, w, ok, fine, true, h1, rfl, rfl⟩
  ·exact ⟨[0], _, 1, rfl, ⟨w, ok, fine, _, h1, rfl, rfl⟩⟩
 have hk2 := hV.v.k2
 have hn1 := hV.v.n1
 have hpos : 0 < 2 ^ N.length := Nat.two_pow_pos _
 have hp7 := pow7 hn
 refine acall_intro (tyP_ok _) c60 2000 [.tmp 6, .tmp 7, .tmp 8] Try.func60 rfl (by rfl) rfl (by kernel_rfl) ?_
 unfold Try.f60
 simp -implicitDefEqProofs (maxSteps := 4000000) (disch := omega) only [push_cast, c60, Nat.reduceAdd, Nat.reduceSub, Nat.reduceMul, Nat.reduceBEq, Int.reduceToNat, Int.reduceNeg, Int.reduceLE, Int.reduceLT, Int.reduceBEq, Int.reduceBNe, Int.reduceEq, eq_self, reduceCtorEq]
 rw [wrap_u64 (n := (N.length : Int)) (by omega) (by omega), Int.toNat_natCast, b_pow8 (show N.length < 8 by omega)]
 refine ⟨by omega, ?_⟩
 have hw0 : ACall Try.prog 93 [.lit (.slice none 0 0), .int .i64 ((2 ^ N.length - 1 : Nat) : Int)] (fun r objs => ∃ nz, r = .pay (.ints .i64 (iM (begM N.length))) nz ∧ objs = []) :=
  ACall.nilArgs (.ints .i64 []) rfl (f93 [] (2 ^ N.length - 1) true (by omega) (by simp))
 refine callW_rel (hw0) ?_
 rintro R O' ⟨nz, rfl, rfl⟩
 simp -implicitDefEqProofs (maxSteps := 4000000) (disch := omega) only [push_cast, c60, Nat.reduceAdd, Nat.reduceSub, Nat.reduceMul, Nat.reduceBEq, Int.reduceToNat, Int.reduceNeg, Int.reduceLE, Int.reduceLT, Int.reduceBEq, Int.reduceBNe, Int.reduceEq, eq_self, reduceCtorEq]
 refine ⟨fun h0 => ?_, fun h0 => ?_⟩
 ·have hb0 : begM N.length = [] := by
   have := iM_len (begM N.length)
   exact List.length_eq_zero_iff.1 (by omega)
  exact ⟨[], true, true, .inr (.inr ⟨rfl, rfl, fun c h => by simp at h, hb0, fun v _ _ => leB_nil v⟩), .inl ⟨rfl, rfl, rfl⟩⟩
 have hbne : begM N.length ≠ [] := fun e => by rw [e] at h0; exact h0 rfl
 refine awp_loop (tyP_ok _) c60 2000 [1, 2, 3, 6, 7, 8, 10, 11, 12] (fun n g st => ∃ i : Nat, g = (false, 0) ∧ i ≤ 3000 ∧ (bfs (dltM N O ap) (begM N.length) k i).1.length ≤ 3000 ∧ (∀ B ∈ (bfs (dltM N O ap) (begM N.length) k i).1, B ≠ []) ∧ n = 3000 - i ∧ st = S60 N O z z' ap (bfs (dltM N O ap) (begM N.length) k i) i) 3000 (by kernel_rfl) ?_ ?_
 ·refine ⟨0, rfl, by omega, by simp [bfs], fun B hB => ?_, rfl, ?_⟩
  ·simp [bfs] at hB
   rw [hB]; exact hbne
  ·simp -implicitDefEqProofs (maxSteps := 4000000) (disch := omega) only [push_cast, c60, S60, Nat.reduceAdd, Nat.reduceSub, Nat.reduceMul, Nat.reduceBEq, Int.reduceToNat, Int.reduceNeg, Int.reduceLE, Int.reduceLT, Int.reduceBEq, Int.reduceBNe, Int.reduceEq, eq_self, reduceCtorEq]
   simp [bfs, qM, wordsS, wordOf, upW, List.range_succ]
 rintro n g st ⟨i, rfl, hi, hq3, hne, rfl, rfl⟩
 have hinv := bfs_inv (δ := dltM N O ap) (s0 := begM N.length) (k := k) i
 generalize hq0 : bfs (dltM N O ap) (begM N.length) k i = q0 at *
 simp -implicitDefEqProofs (maxSteps := 4000000) (disch := omega) only [push_cast, c60, S60, qM_len, Nat.reduceAdd, Nat.reduceSub, Nat.reduceMul, Nat.reduceBEq, Int.reduceToNat, Int.reduceNeg, Int.reduceLE, Int.reduceLT, Int.reduceBEq, Int.reduceBNe, Int.reduceEq, eq_self, reduceCtorEq]
 refine ⟨fun hlt => ?_, fun hge => ?_⟩
 ·refine awp_loop (tyP_ok _) c60 2000 [1, 2, 3, 6, 7, 8, 10, 11, 12, 13] (fun n g st => ∃ x : Nat, g = (false, 0) ∧ x ≤ k ∧ (inn (dltM N O ap) (begM N.length) i q0 x).1.length ≤ 3000 ∧ (∀ B ∈ (inn (dltM N O ap) (begM N.length) i q0 x).1, B ≠ []) ∧ n = k - x ∧ st = R60 N O z z' ap (inn (dltM N O ap) (begM N.length) i q0 x) i x) k (by kernel_rfl) ?_ ?_
  ·refine ⟨0, rfl, by omega, hq3, hne, rfl, ?_⟩
   simp -implicitDefEqProofs (maxSteps := 4000000) (disch := omega) only [push_cast, c60, R60, Nat.reduceAdd, Nat.reduceSub, Nat.reduceMul, Nat.reduceBEq, Int.reduceToNat, Int.reduceNeg, Int.reduceLE, Int.reduceLT, Int.reduceBEq, Int.reduceBNe, Int.reduceEq, eq_self, reduceCtorEq]
   exact ⟨rfl, rfl⟩
  rintro n g st ⟨x, rfl, hx, hq13, hne1, rfl, rfl⟩
  obtain ⟨hinv2, hle2⟩ := inn_inv hinv hlt x hx
  have hi2l : i < (inn (dltM N O ap) (begM N.length) i q0 x).1.length := by omega
  have hin2 := entM_ok hV hn hinv2
  have hsl2 := hinv2.len
  have hold := @inn_old _ _ (dltM N O ap) (begM N.length) i x q0
  have hnew := @inn_new _ _ (dltM N O ap) (begM N.length) i x q0
  generalize hq1 : inn (dltM N O ap) (begM N.length) i q0 x = q1 at *
  have hBi := hin2 i hi2l
  have hgi := qM_get (d := begM N.length) hi2l
  have hrow : ∀ r ∈ qM q1.1, r.length ≤ 4611686018427387904 := fun r hr => by
   obtain ⟨B, hB, rfl⟩ := List.mem_map.1 hr
   obtain ⟨m, hm, rfl⟩ := List.getElem_of_mem hB
   have := (hin2 m hm).2.len
   simp only [List.getD_eq_getElem?_getD, List.getElem?_eq_getElem hm, Option.getD_some] at this
   rw [iM_len]; omega
  have hBm : q1.1.getD i (begM N.length) ∈ q1.1 := by simp [List.getD, hi2l]
  have hwi := wordsS_get (S := q1.2) (i := i) (by omega)
  have hwl := wordOf_len hinv2.tree i (by omega)
  have hre := hinv2.reach i hi2l
  have hfr := hinv2.front hi2l
  generalize hB : q1.1.getD i (begM N.length) = B at *
  simp -implicitDefEqProofs (maxSteps := 4000000) (disch := omega) only [push_cast, c60, R60, qM_len, wordsS_len, Nat.reduceAdd, Nat.reduceSub, Nat.reduceMul, Nat.reduceBEq, Int.reduceToNat, Int.reduceNeg, Int.reduceLE, Int.reduceLT, Int.reduceBEq, Int.reduceBNe, Int.reduceEq, eq_self, reduceCtorEq]
  refine callW_eq _ _ (f18 N O z z' (by omega)) ?_
  simp -implicitDefEqProofs (maxSteps := 4000000) (disch := omega) only [push_cast, c60, Nat.reduceAdd, Nat.reduceSub, Nat.reduceMul, Nat.reduceBEq, Int.reduceToNat, Int.reduceNeg, Int.reduceLE, Int.reduceLT, Int.reduceBEq, Int.reduceBNe, Int.reduceEq, eq_self, reduceCtorEq]
  rw [hV.k0]
  refine ⟨fun hxk => ?_, fun hxk => ?_⟩
  ·rw [wordsS_len, qM_len, hwi, hgi]
   refine ⟨by omega, by omega, by omega, hi2l, ?_⟩
   have hB128 := hBi.2.len
   refine callW_rel (f94 N O z z' false ap x k B hV hn hxk hBi.1 (by omega)) ?_
   rintro R O' ⟨nz5, rfl, rfl⟩
   simp -implicitDefEqProofs (maxSteps := 4000000) (disch := omega) only [push_cast, c60, Nat.reduceAdd, Nat.reduceSub, Nat.reduceMul, Nat.reduceBEq, Int.reduceToNat, Int.reduceNeg, Int.reduceLE, Int.reduceLT, Int.reduceBEq, Int.reduceBNe, Int.reduceEq, eq_self, reduceCtorEq]
   cases hs : stepM N O ap x B with
   | none =>
    have hd : dltM N O ap B x = B := by unfold dltM; rw [hs]; rfl
    have hm : dltM N O ap B x ∈ q1.1 := by rw [hd]; exact hBm
    simp only [Option.isSome_none, Option.getD_none]
    exact ⟨fun _ => ⟨k - (x + 1), by omega, x + 1, by omega, by rw [hold hm]; exact hq13, by rw [hold hm]; exact hne1, rfl, by omega, by rw [hold hm], by rw [hold hm]⟩, fun h => (by cases h)⟩
   | some b =>
    have hd : dltM N O ap B x = b := by unfold dltM; rw [hs]; rfl
    simp only [Option.isSome_some, Option.getD_some]
    simp -implicitDefEqProofs (maxSteps := 4000000) (disch := omega) only [push_cast, c60, Nat.reduceAdd, Nat.reduceSub, Nat.reduceMul, Nat.reduceBEq, Int.reduceToNat, Int.reduceNeg, Int.reduceLE, Int.reduceLT, Int.reduceBEq, Int.reduceBNe, Int.reduceEq, eq_self, reduceCtorEq]
    refine callW_eq _ _ (f95 (qM q1.1) (iM b) false nz5 (by rw [qM_len]; omega) hrow) ?_
    simp -implicitDefEqProofs (maxSteps := 4000000) (disch := omega) only [push_cast, c60, Nat.reduceAdd, Nat.reduceSub, Nat.reduceMul, Nat.reduceBEq, Int.reduceToNat, Int.reduceNeg, Int.reduceLE, Int.reduceLT, Int.reduceBEq, Int.reduceBNe, Int.reduceEq, eq_self, reduceCtorEq]
    rw [qM_mem]
    refine ⟨fun hm => ?_, fun hm => ⟨fun hb0 => ?_, fun hb0 => ⟨fun h3 => ?_, fun h3 => ⟨?_, ?_, ?_⟩⟩⟩⟩
    ·have hm2 : dltM N O ap B x ∈ q1.1 := by rw [hd]; exact hm
     exact ⟨k - (x + 1), by omega, x + 1, by omega, by rw [hold hm2]; exact hq13, by rw [hold hm2]; exact hne1, rfl, by omega, by rw [hold hm2], by rw [hold hm2]⟩
    ·have hbn : b = [] := by
      have := iM_len b
      exact List.length_eq_zero_iff.1 (by omega)
     refine ⟨wordOf q1.2 i ++ [(x : Int)], true, true, .inr (.inr ⟨rfl, rfl, fun c hc => ?_, ?_, fun v hv hr => ?_⟩), .inr ⟨false, ⟨rfl, rfl⟩, rfl, rfl⟩⟩
     ·rcases List.mem_append.1 hc with hc | hc
      ·exact hre.2 c hc
      ·simp at hc; subst hc; omega
     ·rw [runW_snoc, hre.1, Int.toNat_natCast, hd, hbn]
     ·rcases hfr v hv with ⟨m, a1, a2, _⟩ | h
      ·rw [hr] at a2
       refine absurd a2.symm (hne1 _ ?_)
       simp [List.getD, a1]
      ·exact h
    ·exact ⟨[], false, false, .inl rfl, .inl ⟨rfl, rfl, rfl⟩⟩
    ·rw [qM_len]; omega
    ·rw [wordsS_len]; omega
    ·have hm2 : ¬ dltM N O ap B x ∈ q1.1 := by rw [hd]; exact hm
     have hn2 := hnew hm2
     rw [hd] at hn2
     rw [qM_len] at h3
     have hbn : b ≠ [] := fun e => hb0 (by rw [e]; rfl)
     refine ⟨k - (x + 1), by omega, x + 1, by omega, ?_, fun C hC => ?_, rfl, by omega, ?_, ?_⟩
     ·rw [hn2]; simp; omega
     ·rw [hn2] at hC
      rcases List.mem_append.1 hC with hC | hC
      ·exact hne1 C hC
      ·rw [List.mem_singleton.1 hC]; exact hbn
     ·rw [hn2]; simp [qM]
     ·rw [hn2]; exact wordsS_app hinv2.tree (by omega)
  ·obtain rfl : x = k := by omega
   have hb2 : q1 = bfs (dltM N O ap) (begM N.length) x (i + 1) := by rw [← hq1, bfs, hq0, if_pos hlt]
   exact ⟨3000 - (i + 1), by omega, i + 1, by omega, by rw [← hb2]; exact hq13, by rw [← hb2]; exact hne1, rfl, by omega, by rw [← hb2], by rw [← hb2]⟩
 ·refine ⟨[], false, true, .inr (.inl ⟨rfl, rfl, fun v hv hr => ?_⟩), .inl ⟨rfl, rfl, rfl⟩⟩
  obtain ⟨m, a1, a2, _⟩ := (Done.mk (hinv.done hge)).first v hv
  rw [hr] at a2
  refine hne _ ?_ a2.symm
  simp [List.getD, a1]
end Go.AM
end
