/-
  Contract of There; conditions in each statement.
-/
import Derived.Test.YtkpoffjimfiabaaS6
import Derived.Test.YtkpoffjimfiabaaP7
set_option linter.unusedVariables false
set_option linter.unusedSimpArgs false
set_option linter.unusedSectionVars false
set_option linter.unnecessarySimpa false

section
namespace Go.AM
open Go Go.Proofs Go.Sort
def thD (n : Nat) : Nat → List Bool
 | 0 => List.replicate (n * n) false
 | s + 1 => (thD n s).set (s * n + s) true
theorem thD_len (n : Nat) : ∀ s, (thD n s).length = n * n
 | 0 => by simp [thD]
 | s + 1 => by simp [thD, thD_len n s]
theorem thD_get (n : Nat) : ∀ s, s ≤ n → ∀ p q, p < n → q < n → ((thD n s).getD (p * n + q) false = true ↔ p = q ∧ p < s)
 | 0, _, p, q, hp, hq => by
  simp only [thD]
  constructor
  ·intro h
   have : p * n + q < n * n := by
    have : (p + 1) * n ≤ n * n := Nat.mul_le_mul_right _ hp
    rw [Nat.add_mul] at this
    omega
   simp [List.getD, this] at h
  ·rintro ⟨_, h⟩; omega
 | s + 1, hs, p, q, hp, hq => by
  have ih := thD_get n s (by omega) p q hp hq
  have hB : s * n + s < n * n := by
   have : (s + 1) * n ≤ n * n := Nat.mul_le_mul_right _ hs
   rw [Nat.add_mul] at this
   omega
  simp only [thD]
  by_cases e : s * n + s = p * n + q
  ·obtain ⟨rfl, rfl⟩ := pair_ix (show s < n by omega) hq e
   rw [List.getD_eq_getElem?_getD, List.getElem?_set_self (by rw [thD_len]; exact hB)]
   simp
  ·rw [List.getD_eq_getElem?_getD, List.getElem?_set_ne e, ← List.getD_eq_getElem?_getD, ih]
   constructor
   ·rintro ⟨h1, h2⟩; exact ⟨h1, by omega⟩
   ·rintro ⟨rfl, h2⟩
    refine ⟨rfl, ?_⟩
    have : p ≠ s := fun h => e (by rw [h])
    omega
theorem thD_ok (n : Nat) {s : Nat} (h : n ≤ s) : ∀ p, p < n → (thD n n).getD (p * n + p) false = true := fun p hp => (thD_get n n (Nat.le_refl _) p p hp hp).2 ⟨rfl, hp⟩
theorem thD_mark {N O : List (List Int)} {k : Nat} : MarkT N O k (thD N.length N.length) := fun p q hp hq h => .inl ((thD_get _ _ (Nat.le_refl _) p q hp hq).1 h).1
theorem thX_stay {N O : List (List Int)} {s t : Nat} {q : List Bool × Bool} {x : Nat} (h : (thX N O s t q x).1.getD (s * N.length + t) false = true) : ∀ d, thX N O s t q (x + d) = thX N O s t q x
 | 0 => rfl
 | d + 1 => by
  show thX N O s t q (x + d + 1) = _
  rw [thX, thX_stay h d, if_pos h]
theorem thX_keep {N O : List (List Int)} {s t : Nat} {q : List Bool × Bool} {i : Nat} (h : q.1.getD i false = true) : ∀ x, (thX N O s t q x).1.getD i false = true
 | 0 => h
 | x + 1 => by
  have ih := thX_keep (N := N) (O := O) (s := s) (t := t) h x
  unfold thX
  split
  ·exact ih
  ·split
   ·show ((thX N O s t q x).1.set (s * N.length + t) true).getD i false = true
    by_cases e : s * N.length + t = i
    ·subst e
     have hl : s * N.length + t < (thX N O s t q x).1.length := by
      refine Nat.lt_of_not_le fun hle => ?_
      rw [List.getD_eq_getElem?_getD, List.getElem?_eq_none hle] at ih
      cases ih
     rw [List.getD_eq_getElem?_getD, List.getElem?_set_self hl]; rfl
    ·rw [List.getD_eq_getElem?_getD, List.getElem?_set_ne e, ← List.getD_eq_getElem?_getD]; exact ih
   ·exact ih
theorem thT_keep {N O : List (List Int)} {k s : Nat} {q : List Bool × Bool} {i : Nat} (h : q.1.getD i false = true) : ∀ t, (thT N O k s q t).1.getD i false = true
 | 0 => h
 | t + 1 => thX_keep (thT_keep h t) k
theorem thS_keep {N O : List (List Int)} {k : Nat} {q : List Bool × Bool} {i : Nat} (s : Nat) (h : q.1.getD i false = true) : (thS N O k q s).1.getD i false = true := by
 induction s with
 | zero => exact h
 | succ s ih => exact thT_keep ih N.length
def c22 : VCfg := ⟨⟨[], [], [], [0, 1, 2, 3, 4, 5, 6, 7, 8, 9, 10, 20, 30, 33, 38, 59, 102, 113, 120]⟩, [(19, (.op 0 .loose (.op 1 .loose (.op 2 .loose (.op 3 .loose (.op 4 .loose (.op 5 .loose (.op 6 .loose (.op 7 .loose (.op 8 .loose (.op 9 .loose (.op 10 .loose (.op 11 .loose (.op 12 .loose (.op 13 .loose (.op 14 .loose (.op 15 .loose (.op 16 .loose (.op 17 .loose (.op 18 .loose (.op 19 .loose (.op 20 .loose (.op 21 .loose (.op 22 .loose (.op 23 .loose (.op 24 .loose (.op 25 .loose (.op 26 .loose (.op 27 .loose (.op 28 .loose (.op 29 .loose (.op 30 .loose (.op 31 .loose (.op 32 .loose (.op 33 .loose (.op 34 .loose (.op 35 .loose (.op 36 .loose (.op 37 .loose (.op 38 .loose (.op 39 .loose (.op 40 .loose .nil))))))))))))))))))))))))))))))))))))))))))], [], []⟩
set_option maxHeartbeats 8000000 in
set_option maxRecDepth 100000 in
theorem f22 (N O : List (List Int)) (z z' : Bool) (k : Nat) (hV : VM N O k) :
  ACall Try.prog 22 [.agg [.pay (.rows (N)) (z), .pay (.rows (O)) (z')]] (fun r objs => ∃ b, (b = true ↔ allD N O k) ∧ r = .bool b ∧ objs = []) := by
 have hn1 := hV.v.n1
 have hn2 := hV.v.n2
 have hk2 := hV.v.k2
 have hol := hV.ol
 refine acall_intro (tyP_ok _) c22 2000 [.tmp 2] Try.func22 rfl (by rfl) rfl (by kernel_rfl) ?_
 unfold Try.f22
 simp -implicitDefEqProofs (maxSteps := 4000000) (disch := omega) only [push_cast, c22, Nat.reduceAdd, Nat.reduceSub, Nat.reduceMul, Nat.reduceBEq, Int.reduceToNat, Int.reduceNeg, Int.reduceLE, Int.reduceLT, Int.reduceBEq, Int.reduceBNe, Int.reduceEq, eq_self, reduceCtorEq]
 have hnn : N.length * N.length ≤ 3600 := Nat.mul_le_mul hn2 hn2
 have e0 : (N.length : Int) * (N.length : Int) = ((N.length * N.length : Nat) : Int) := by push_cast; rfl
 have e1 : IntKind.i64.wrap ((N.length : Int) * (N.length : Int)) = ((N.length * N.length : Nat) : Int) := by
  rw [e0]; exact wrap_nat (by omega) (by omega)
 rw [e1, Int.toNat_natCast]
 refine ⟨⟨by omega, by omega, by omega⟩, ?_⟩
 have hB : ∀ p, p < N.length → ∀ q, q < N.length → p * N.length + q < N.length * N.length := fun p hp q hq => by
  have : (p + 1) * N.length ≤ N.length * N.length := Nat.mul_le_mul_right _ hp
  rw [Nat.add_mul] at this
  omega
 have hW : ∀ p : Nat, p < N.length → ∀ q : Nat, q < N.length → IntKind.i64.wrap (IntKind.i64.wrap ((p : Int) * (N.length : Int)) + (q : Int)) = ((p * N.length + q : Nat) : Int) := fun p hp q hq => by
  have := hB p hp q hq
  have e : (p : Int) * (N.length : Int) = ((p * N.length : Nat) : Int) := by push_cast; rfl
  rw [e, wrap_nat (n := ((p * N.length : Nat) : Int)) (by omega) (by omega)]
  exact wrap_nat (by omega) (by omega)
 refine awp_upd (tyP_ok _) c22 2000 [1, 2, 3, 4, 5] (N.length) (fun _ => True) (fun s => [(5, .int .i64 s)]) (fun s => [(0, .arr (.bools (thD N.length s)) ⟨4, false⟩)]) (by kernel_rfl) rfl ?_ ?_
 ·trivial
 intro s hs _
 have hdl := thD_len N.length s
 simp -implicitDefEqProofs (maxSteps := 4000000) (disch := omega) only [push_cast, c22, Nat.reduceAdd, Nat.reduceSub, Nat.reduceMul, Nat.reduceBEq, Int.reduceToNat, Int.reduceNeg, Int.reduceLE, Int.reduceLT, Int.reduceBEq, Int.reduceBNe, Int.reduceEq, eq_self, reduceCtorEq]
 refine ⟨fun hlt => ?_, fun hge => ?_⟩
 ·have w1 := hW s hlt s hlt
  have b1 := hB s hlt s hlt
  rw [w1, Int.toNat_natCast]
  exact ⟨by omega, hlt, rfl⟩
 ·obtain rfl : s = N.length := by omega
  have hd0 := thD_ok N.length (Nat.le_refl _)
  refine awp_loop (tyP_ok _) c22 2000 [1, 2, 3, 4, 6] (fun n g st => ∃ (A : List Bool) (more : Bool), g = (false, 0) ∧ A.length = N.length * N.length ∧ MarkT N O k A ∧ (∀ s, s < N.length → A.getD (s * N.length + s) false = true) ∧ (more = false → ∀ s' t', s' < N.length → t' < N.length → A.getD (s' * N.length + t') false = true ∨ ∀ y, y < k → outG O s' y = outG O t' y ∧ A.getD (ntf N s' y * N.length + ntf N t' y) false = false) ∧ n = (if more = true then N.length * N.length - marks A + 1 else 0) ∧ st = ⟨121, [(1, .fref [.pay (.rows N) z, .pay (.rows O) z']), (2, .bool false), (3, .int .i64 N.length), (4, .own 0), (6, .bool more)], [.arr (.bools A) ⟨4, false⟩]⟩) (N.length * N.length - marks (thD N.length N.length) + 1) (by kernel_rfl) ?_ ?_
  ·refine ⟨thD N.length N.length, true, rfl, hdl, thD_mark, hd0, fun h => (by cases h), rfl, ?_⟩
   simp -implicitDefEqProofs (maxSteps := 4000000) (disch := omega) only [push_cast, c22, Nat.reduceAdd, Nat.reduceSub, Nat.reduceMul, Nat.reduceBEq, Int.reduceToNat, Int.reduceNeg, Int.reduceLE, Int.reduceLT, Int.reduceBEq, Int.reduceBNe, Int.reduceEq, eq_self, reduceCtorEq]
  rintro n g st ⟨A, more, rfl, hA, hM, hD, hC, rfl, rfl⟩
  have hmA := marks_le A
  simp -implicitDefEqProofs (maxSteps := 4000000) (disch := omega) only [push_cast, c22, Nat.reduceAdd, Nat.reduceSub, Nat.reduceMul, Nat.reduceBEq, Int.reduceToNat, Int.reduceNeg, Int.reduceLE, Int.reduceLT, Int.reduceBEq, Int.reduceBNe, Int.reduceEq, eq_self, reduceCtorEq]
  refine ⟨fun hmore => ?_, fun hmore => ?_⟩
  ·subst hmore
   refine awp_upd (tyP_ok _) c22 2000 [1, 2, 3, 4, 6, 7] (N.length) (fun _ => True) (fun s => [(6, .bool (thS N O k (A, false) s).2), (7, .int .i64 s)]) (fun s => [(0, .arr (.bools (thS N O k (A, false) s).1) ⟨4, false⟩)]) (by kernel_rfl) rfl ?_ ?_
   ·trivial
   intro s hs _
   simp -implicitDefEqProofs (maxSteps := 4000000) (disch := omega) only [push_cast, c22, Nat.reduceAdd, Nat.reduceSub, Nat.reduceMul, Nat.reduceBEq, Int.reduceToNat, Int.reduceNeg, Int.reduceLE, Int.reduceLT, Int.reduceBEq, Int.reduceBNe, Int.reduceEq, eq_self, reduceCtorEq]
   refine ⟨fun hsl => ?_, fun hge => ?_⟩
   ·have hlS := thS_len (N := N) (O := O) (k := k) (q := (A, false)) s
    generalize hqs : thS N O k (A, false) s = qs at *
    refine awp_upd (tyP_ok _) c22 2000 [1, 2, 3, 4, 6, 7, 8] (N.length) (fun _ => True) (fun t => [(6, .bool (thT N O k s qs t).2), (8, .int .i64 t)]) (fun t => [(0, .arr (.bools (thT N O k s qs t).1) ⟨4, false⟩)]) (by kernel_rfl) rfl ?_ ?_
    ·trivial
    intro t ht _
    simp -implicitDefEqProofs (maxSteps := 4000000) (disch := omega) only [push_cast, c22, Nat.reduceAdd, Nat.reduceSub, Nat.reduceMul, Nat.reduceBEq, Int.reduceToNat, Int.reduceNeg, Int.reduceLE, Int.reduceLT, Int.reduceBEq, Int.reduceBNe, Int.reduceEq, eq_self, reduceCtorEq]
    refine ⟨fun htl => ?_, fun hge => ?_⟩
    ·have hlT := thT_len (N := N) (O := O) (k := k) (s := s) (q := qs) t
     generalize hqt : thT N O k s qs t = qt at *
     have hns : (N.getD s []).length = k := (hV.v.row _ (getD_mem' hsl)).1
     have hnt : (N.getD t []).length = k := (hV.v.row _ (getD_mem' htl)).1
     have hos : (O.getD s []).length = k := (hV.orow _ (getD_mem' (by omega))).1
     have hot : (O.getD t []).length = k := (hV.orow _ (getD_mem' (by omega))).1
     have hst := hB s hsl t htl
     have hw := hW s hsl t htl
     refine awp_loop (tyP_ok _) c22 2000 [1, 2, 3, 4, 6, 7, 8, 9] (fun n g st => ∃ x : Nat, g = (false, 0) ∧ x ≤ k ∧ n = k - x ∧ st = ⟨121, [(1, .fref [.pay (.rows N) z, .pay (.rows O) z']), (2, .bool false), (3, .int .i64 N.length), (4, .own 0), (6, .bool (thX N O s t qt x).2), (7, .int .i64 s), (8, .int .i64 t), (9, .int .i64 x)], [.arr (.bools (thX N O s t qt x).1) ⟨4, false⟩]⟩) k (by kernel_rfl) ?_ ?_
     ·refine ⟨0, rfl, by omega, rfl, ?_⟩
      simp -implicitDefEqProofs (maxSteps := 4000000) (disch := omega) only [push_cast, c22, Nat.reduceAdd, Nat.reduceSub, Nat.reduceMul, Nat.reduceBEq, Int.reduceToNat, Int.reduceNeg, Int.reduceLE, Int.reduceLT, Int.reduceBEq, Int.reduceBNe, Int.reduceEq, eq_self, reduceCtorEq]
      exact ⟨rfl, rfl⟩
     rintro n g st ⟨x, rfl, hx, rfl, rfl⟩
     have hlX := thX_len (N := N) (O := O) (s := s) (t := t) (q := qt) x
     have hstay := thX_stay (N := N) (O := O) (s := s) (t := t) (q := qt) (x := x)
     have hstep : thX N O s t qt (x + 1) = if (thX N O s t qt x).1.getD (s * N.length + t) false = true then thX N O s t qt x else if outG O s x ≠ outG O t x ∨ (thX N O s t qt x).1.getD (ntf N s x * N.length + ntf N t x) false = true then ((thX N O s t qt x).1.set (s * N.length + t) true, true) else thX N O s t qt x := rfl
     generalize hqx : thX N O s t qt x = qx at *
     simp -implicitDefEqProofs (maxSteps := 4000000) (disch := omega) only [push_cast, c22, Nat.reduceAdd, Nat.reduceSub, Nat.reduceMul, Nat.reduceBEq, Int.reduceToNat, Int.reduceNeg, Int.reduceLE, Int.reduceLT, Int.reduceBEq, Int.reduceBNe, Int.reduceEq, eq_self, reduceCtorEq]
     have hce : ((s : Int) * (N.length : Int) + (t : Int)) = ((s * N.length + t : Nat) : Int) := by push_cast; rfl
     rw [hce, Int.toNat_natCast, hns, hos, hot, hnt]
     have hend : ∀ hm : qx.1.getD (s * N.length + t) false = true, qx = thT N O k s qs (t + 1) := fun hm => by
      have := hstay hm (k - x)
      rw [show x + (k - x) = k by omega] at this
      rw [thT, hqt, this]
     have hdone : k ≤ x → qx = thT N O k s qs (t + 1) := fun h => by
      rw [thT, hqt, show k = x by omega, hqx]
     have hqxl : qx.1.length = N.length * N.length := by rw [hlX, hlT, hlS]; exact hA
     refine ⟨hsl, fun hxk => ⟨⟨by omega, by omega⟩, fun hnm => ?_, fun hm => ?_⟩, fun hge => ⟨htl, by rw [hdone hge], by rw [hdone hge]⟩⟩
     ·rw [if_neg (by rw [hnm]; simp)] at hstep
      have eo : ∀ u : Nat, outG O u x = (O.getD u []).getD x 0 := fun u => by simp [outG]
      have en : ∀ u : Nat, nxG N u x = (N.getD u []).getD x 0 := fun u => by simp [nxG]
      rw [eo, eo] at hstep
      have n1 := ntf_lt hV hsl hxk
      have n2 := ntf_lt hV htl hxk
      have hw2 := hW _ n1 _ n2
      rw [ntf_cast hV hsl hxk, ntf_cast hV htl hxk, en, en] at hw2
      have hb2 := hB _ n1 _ n2
      rw [hw2, Int.toNat_natCast]
      refine ⟨by omega, hxk, by omega, hxk, fun hne => ⟨⟨by omega, by omega⟩, k - (x + 1), by omega, x + 1, by omega, rfl, ?_, ?_⟩, fun heq => ⟨hsl, hxk, htl, hxk, ⟨by omega, by omega⟩, fun hmk => ⟨⟨by omega, by omega⟩, k - (x + 1), by omega, x + 1, by omega, rfl, ?_, ?_⟩, fun hmk => ⟨k - (x + 1), by omega, x + 1, by omega, rfl, ?_, ?_⟩⟩⟩
      ·rw [hstep, if_pos (.inl hne)]; exact ⟨rfl, by omega⟩
      ·rw [hstep, if_pos (.inl hne)]
      ·rw [hstep, if_pos (.inr hmk)]; exact ⟨rfl, by omega⟩
      ·rw [hstep, if_pos (.inr hmk)]
      ·rw [hstep, if_neg (fun h => by rcases h with h | h; exact h heq; rw [hmk] at h; cases h)]; exact ⟨rfl, by omega⟩
      ·rw [hstep, if_neg (fun h => by rcases h with h | h; exact h heq; rw [hmk] at h; cases h)]
     ·exact ⟨htl, by rw [hend hm], by rw [hend hm]⟩
    ·obtain rfl : t = N.length := by omega
     refine ⟨hsl, ?_, ?_⟩ <;> rw [thS, hqs]
   ·obtain rfl : s = N.length := by omega
    have h1 := thS_mark hV (q := (A, false)) hM N.length (Nat.le_refl _)
    have h2 := thS_cnt (O := O) (k := k) (q := (A, false)) hA N.length (Nat.le_refl _)
    have h3 := thS_no (N := N) (O := O) (k := k) (q := (A, false)) N.length
    have h4 := thS_len (N := N) (O := O) (k := k) (q := (A, false)) N.length
    have h5 := fun i => thS_keep (N := N) (O := O) (k := k) (q := (A, false)) (i := i) N.length
    generalize thS N O k (A, false) N.length = qs at *
    obtain ⟨B, more⟩ := qs
    have hmB := marks_le B
    refine ⟨_, ?_, B, more, by rw [h4, hA], h1, fun s hs => h5 _ (hD s hs), fun hm s' t' hs ht => ?_, rfl, rfl, rfl⟩
    ·simp only [if_true]
     cases more with
     | false => simp
     | true =>
      rcases h2.2 rfl with h | h
      ·cases h
      ·simp only [if_true]
       have : marks A < marks B := h
       rw [h4] at hmB
       have hA2 : (A, false).1.length = A.length := rfl
       omega
    ·have h6 := h3 hm
     have h7 : B = A := congrArg Prod.fst h6.1
     rw [h7]
     exact h6.2 s' t' hs ht
  ·subst hmore
   refine awp_upd (tyP_ok _) c22 2000 [1, 2, 3, 4, 10] (N.length * N.length) (fun i => ∀ j, j < i → A.getD j false = true) (fun i => [(10, .int .i64 i)]) (fun i => []) (by kernel_rfl) rfl ?_ ?_
   ·exact fun j h => by omega
   intro i hi hall
   simp -implicitDefEqProofs (maxSteps := 4000000) (disch := omega) only [push_cast, c22, Nat.reduceAdd, Nat.reduceSub, Nat.reduceMul, Nat.reduceBEq, Int.reduceToNat, Int.reduceNeg, Int.reduceLE, Int.reduceLT, Int.reduceBEq, Int.reduceBNe, Int.reduceEq, eq_self, reduceCtorEq]
   have hC' := hC rfl
   refine ⟨fun hlt => ⟨hlt, fun hf => ⟨false, ⟨fun h => (by cases h), fun ha => ?_⟩, rfl⟩, fun ht => ⟨by omega, fun j hj => ?_⟩⟩, fun hge => ⟨true, ⟨fun _ p q hp hq hpq => ?_, fun _ => rfl⟩, rfl⟩⟩
   ·have hn0 : 0 < N.length := by omega
    have e : i / N.length * N.length + i % N.length = i := by rw [Nat.mul_comm]; exact Nat.div_add_mod i N.length
    have h1 : i / N.length < N.length := Nat.div_lt_of_lt_mul (by omega)
    have h2 : i % N.length < N.length := Nat.mod_lt _ hn0
    by_cases hpq : i / N.length = i % N.length
    ·have := hD _ h2
     rw [hpq] at e
     rw [e, hf] at this; cases this
    ·obtain ⟨w, w1, w2⟩ := ha _ _ h1 h2 hpq
     have := closed_mark hV hD hC' w _ _ h1 h2 w1 w2
     rw [e, hf] at this; cases this
   ·by_cases e : j = i
    ·rw [e]; exact ht
    ·exact hall j (by omega)
   ·rcases hM p q hp hq (hall _ (by have := hB p hp q hq; omega)) with h | h
    ·exact absurd h hpq
    ·exact h
end Go.AM
end
