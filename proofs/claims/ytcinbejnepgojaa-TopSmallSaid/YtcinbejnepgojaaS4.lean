/-
  The contract of TopSmall, and that a shortest reset word of such an automaton is short; conditions in each statement.
-/
import Derived.Test.YtcinbejnepgojaaS3
import Derived.Test.YtcinbejnepgojaaS2
set_option linter.unusedVariables false
set_option linter.unusedSimpArgs false
set_option linter.unusedSectionVars false

/-! text TaS2 -/
section
namespace Go.AM
open Go
theorem all_chunk {l : List Nat} {p : Nat → Bool} {i : Nat} (h1 : ((l.drop i).take 32).all p = true) (h2 : (l.drop (i + 32)).all p = true) : (l.drop i).all p = true := by
  rw [← List.take_append_drop 32 (l.drop i), List.all_append, h1, List.drop_drop, h2]; rfl
theorem chk4 : tabs4.all (fun F => tabs4.all fun G => itr (stpD (lst 4)) 15 F G 9 (sing 4)) = true := by
  rw [← stp4_eq]
  have := all_chunk (i := 0) chk4_0 (all_chunk (i := 32) chk4_1 (all_chunk (i := 64) chk4_2 (all_chunk (i := 96) chk4_3 (all_chunk (i := 128) chk4_4 (all_chunk (i := 160) chk4_5 (all_chunk (i := 192) chk4_6 (all_chunk (i := 224) chk4_7 (by rfl))))))))
  exact this
theorem chk_of {n full k : Nat} {T : List Nat} (hT : (fns n n).map (tab n) = T) (hc : T.all (fun F => T.all fun G => itr (stpD (lst n)) full F G k (sing n)) = true)
    {f g : List Nat} (hf : ∀ x ∈ f, x < n) (hg : ∀ x ∈ g, x < n) (lf : f.length = n) (lg : g.length = n) : itr (stpD (lst n)) full (tab n f) (tab n g) k (sing n) = true := by
  have mem : ∀ {h : List Nat}, (∀ x ∈ h, x < n) → h.length = n → tab n h ∈ T := fun {h} hh hl => by
    rw [← hT]
    refine List.mem_map.2 ⟨h, ?_, rfl⟩
    have := mem_fns hh
    rw [hl] at this; exact this
  exact List.all_eq_true.1 (List.all_eq_true.1 hc _ (mem hf lf)) _ (mem hg lg)

def cyA (n : Int) (c : List Int) (i : Nat) : List Int := [c.getD (2 * i) 0 % n, c.getD (2 * i + 1) 0 % n]
def smA (n : Int) (c : List Int) (i : Nat) : List (List Int) := (List.range i).map (cyA n c)
theorem smA_len (n : Int) (c : List Int) (i : Nat) : (smA n c i).length = i := by simp [smA]
theorem smA_vld (n : Nat) (c : List Int) (h1 : 1 ≤ n) (h4 : n ≤ 4) : Vld (smA n c n) 2 := by
  refine ⟨by rw [smA_len]; exact h1, by rw [smA_len]; omega, by omega, by omega, fun r hr => ?_⟩
  rw [smA_len]
  simp only [smA, List.mem_map, List.mem_range] at hr
  obtain ⟨i, _, rfl⟩ := hr
  refine ⟨rfl, fun t ht => ?_⟩
  simp only [cyA, List.mem_cons, List.not_mem_nil, or_false] at ht
  rcases ht with rfl | rfl <;> exact ⟨Int.emod_nonneg _ (by omega), Int.emod_lt_of_pos _ (by omega)⟩
/-- a letter as a map of the states -/
def ltr (a : List (List Int)) (x : Nat) : List Nat := (List.range a.length).map fun i => ((a.getD i []).getD x 0).toNat
theorem ltr_len (a : List (List Int)) (x : Nat) : (ltr a x).length = a.length := by simp [ltr]
theorem ltr_lt {a : List (List Int)} {k x : Nat} (hv : Vld a k) (hx : x < k) : ∀ f ∈ ltr a x, f < a.length := fun f hf => by
  simp only [ltr, List.mem_map, List.mem_range] at hf
  obtain ⟨i, hi, rfl⟩ := hf
  have := hv.at (s := (i : Int)) (x := (x : Int)) (by omega) (by omega) (by omega) (by omega)
  simp only [Int.toNat_natCast] at this
  omega
theorem imF_toN (a : List (List Int)) (x S : Nat) : ∀ m, m ≤ a.length → imF (ltr a x) S m = toN a S x m
  | 0, _ => rfl
  | m + 1, h => by
    have e : (ltr a x).getD m 0 = ((a.getD m []).getD x 0).toNat := by
      have : m < a.length := by omega
      simp [ltr, List.getD, this]
    unfold imF toN
    rw [e, imF_toN a x S m (by omega)]
theorem toN_zero (a : List (List Int)) (x : Nat) : ∀ m, toN a 0 x m = 0
  | 0 => rfl
  | m + 1 => by unfold toN; rw [toN_zero a x m]; simp
theorem tabs_of {a : List (List Int)} {l : List Nat} (hv : Vld a 2) (h4 : a.length ≤ 4) (hl : ∀ S, S < 2 ^ a.length → S ∈ l ∨ popN S = 1 ∨ S = 0) : Tabs a.length (dlt a) l (tab a.length (ltr a 0)) (tab a.length (ltr a 1)) :=
  ⟨fun S hS => by rw [tab_at (ltr_lt hv (by omega)) hv.n1 h4 hS, imF_toN a 0 S _ (Nat.le_refl _)]; rfl,
   fun S hS => by rw [tab_at (ltr_lt hv (by omega)) hv.n1 h4 hS, imF_toN a 1 S _ (Nat.le_refl _)]; rfl,
   fun S x _ hx => toN_lt hv S x hx _ (Nat.le_refl _), hl, fun x => toN_zero a x _⟩
theorem sing_ok {n : Nat} {δ : Nat → Nat → Nat} (h : ∀ S, S < 2 ^ n → ((sing n).testBit S = true ↔ popN S = 1)) : ∀ S, S < 2 ^ n → ((sing n).testBit S = true ↔ Wn δ 0 S) := fun S hS => by rw [Wn_zero, h S hS]
theorem lst_ok {n : Nat} (h : ((List.range (2 ^ n)).all fun S => (lst n).elem S || popN S == 1 || S == 0) = true) : ∀ S, S < 2 ^ n → S ∈ lst n ∨ popN S = 1 ∨ S = 0 := fun S hS => by
  have := List.all_eq_true.1 h S (List.mem_range.2 hS)
  simp only [Bool.or_eq_true, beq_iff_eq, List.elem_eq_mem, decide_eq_true_eq] at this
  rcases this with (h | h) | h
  · exact .inl h
  · exact .inr (.inl h)
  · exact .inr (.inr h)
theorem sing_ok2 {n : Nat} (h : ((List.range (2 ^ n)).all fun S => (sing n).testBit S == (popN S == 1)) = true) : ∀ S, S < 2 ^ n → ((sing n).testBit S = true ↔ popN S = 1) := fun S hS => by
  have := List.all_eq_true.1 h S (List.mem_range.2 hS)
  rw [beq_iff_eq] at this
  rw [this, beq_iff_eq]
theorem small_wn {a : List (List Int)} (hv : Vld a 2) (h4 : a.length ≤ 4) (hq : ∃ q, Wn (dlt a) q (all a)) : Wn (dlt a) ((a.length - 1) * (a.length - 1)) (all a) := by
  have h1 := hv.n1
  have hall := all_lt a
  have f0 := ltr_lt hv (x := 0) (by omega)
  have f1 := ltr_lt hv (x := 1) (by omega)
  have l0 := ltr_len a 0
  have l1 := ltr_len a 1
  have : a.length = 1 ∨ a.length = 2 ∨ a.length = 3 ∨ a.length = 4 := by omega
  rcases this with e | e | e | e
  · rw [e]
    exact Wn_zero.2 (by unfold all; rw [e]; decide)
  · have ht := tabs_of (l := lst 2) hv h4 (by rw [e]; exact lst_ok (by decide +kernel))
    have hfull : all a = 3 := by unfold all; rw [e]
    rw [e] at ht f0 f1 l0 l1
    rw [hfull] at hq ⊢
    have := ht.sound (full := 3) (by decide) 1 0 (sing 2) (sing_ok (sing_ok2 (by decide +kernel))) (chk_of tabs2_eq chk2 f0 f1 l0 l1) hq
    rw [e]; exact this
  · have ht := tabs_of (l := lst 3) hv h4 (by rw [e]; exact lst_ok (by decide +kernel))
    have hfull : all a = 7 := by unfold all; rw [e]
    rw [e] at ht f0 f1 l0 l1
    rw [hfull] at hq ⊢
    have := ht.sound (full := 7) (by decide) 4 0 (sing 3) (sing_ok (sing_ok2 (by decide +kernel))) (chk_of tabs3_eq chk3 f0 f1 l0 l1) hq
    rw [e]; exact this
  · have ht := tabs_of (l := lst 4) hv h4 (by rw [e]; exact lst_ok (by decide +kernel))
    have hfull : all a = 15 := by unfold all; rw [e]
    rw [e] at ht f0 f1 l0 l1
    rw [hfull] at hq ⊢
    have := ht.sound (full := 15) (by decide) 9 0 (sing 4) (sing_ok (sing_ok2 (by decide +kernel))) (chk_of tabs4_eq chk4 f0 f1 l0 l1) hq
    rw [e]; exact this
theorem spr_eq (a : List (List Int)) (w : List Int) : spr a w = (spreadS a w a.length).2 := by unfold spr; rfl
theorem comesB_len {u v : List Int} (h : comesB u v = false) : v.length ≤ u.length := by
  unfold comesB at h
  split at h
  · omega
  · simp at h; exact h
/-- a reset word, if there is one, of at most (n - 1)^2 letters -/
theorem small_short (n : Nat) (c : List Int) (h1 : 1 ≤ n) (h4 : n ≤ 4) {w : List Int} {e : Int} (h : ShortR (smA n c n) w e) :
    (e = 4 ∧ w = []) ∨ (e = 0 ∧ (w.length : Int) ≤ (n - 1) * (n - 1) ∧ spr (smA n c n) w = 1 ∧ ∀ x ∈ w, 0 ≤ x ∧ x < 2) := by
  have hV := smA_vld n c h1 h4
  have hl := smA_len n c n
  generalize smA n c n = a at *
  have h12 : a.length ≤ 12 := by omega
  rcases h with ⟨h, _⟩ | ⟨_, h, _⟩ | ⟨k, hv, _, ⟨j, hj, hp, hfst, rfl, rfl⟩ | ⟨_, rfl, rfl⟩⟩
  · exact (vldB_ne (vldB_iff.2 (hV.k0 ▸ hV)) h).elim
  · omega
  · obtain rfl : k = 2 := by rw [← hv.k0, hV.k0]
    obtain ⟨hw, hs⟩ := fin_ent hV h12 hj
    refine .inr ⟨rfl, ?_, by rw [spr_eq, hs]; exact hp, hw⟩
    obtain ⟨u, u1, u2, u3⟩ := small_wn hV (by omega) ⟨_, wordOf (fin a 2).2 j, Nat.le_refl _, hw, by rw [← spread_pop hV h12 hw, hs]; exact hp⟩
    obtain ⟨m, hm, hsp, hc⟩ := fin_word hV h12 u2
    rw [spread_pop hV h12 u2, u3] at hsp
    have hjm : j ≤ m := Nat.le_of_not_lt fun hlt => hfst m hlt hsp.symm
    have := comesB_len (fin_sorted hV h12 hjm hm hc)
    rw [hl] at u1
    have hc : ((n : Int) - 1) * (n - 1) = (((n - 1) * (n - 1) : Nat) : Int) := by
      rw [Int.natCast_mul, Int.natCast_sub h1]; rfl
    rw [hc]
    omega
  · exact .inl ⟨rfl, rfl⟩
end Go.AM
end

/-! text Ta8 -/
section
namespace Go.AM
open Go Go.Proofs
/- mizmaze/mizmazetop.TopSmall -/
def c3 : VCfg := ⟨⟨[], [], [], [0, 1, 3, 4, 5, 6, 7, 8, 9, 15, 43]⟩, [(6, (.op 0 .strict (.op 1 .loose (.op 2 .strict (.op 3 .strict (.op 4 .strict (.op 5 .strict (.op 6 .strict (.op 8 .strict (.op 9 .strict (.op 10 .strict (.op 11 .strict (.op 12 .strict (.op 13 .strict (.op 7 .eff (.op 14 .eff (.op 15 .eff (.op 16 .eff (.op 17 .eff (.op 18 .loose (.op 19 .eff .nil)))))))))))))))))))))], [], []⟩
def O3 (n : Nat) (c : List Int) (i : Nat) : List AObj := if i = 0 then [.box [.lit (.slice none 0 0)]] else [.box [.own 1], .arr (.rows (smA n c i)) ⟨27, true⟩]
def S3 (n : Nat) (c : List Int) (i : Nat) : St :=
  ⟨66, [(3, .fref (c.map (.int .i64))), (4, .bool false), (5, .int .i64 n), (6, .ref 0 0), (7, .int .i64 i)], O3 n c i⟩
set_option maxHeartbeats 1000000 in
theorem f3 (t0 x0 x1 x2 x3 x4 x5 x6 x7 : Int) :
    ACall Try.prog 3 [.int .i64 t0, .agg [.int .i64 x0, .int .i64 x1, .int .i64 x2, .int .i64 x3, .int .i64 x4, .int .i64 x5, .int .i64 x6, .int .i64 x7]] (fun r objs => r = .bool true ∧ objs = []) := by
  refine acall_intro (tyP_ok _) c3 2000 [.tmp 4] Try.func3 rfl (by rfl) rfl (by kernel_rfl) ?_
  unfold Try.f3
  simp (config := {implicitDefEqProofs := false, maxSteps := 4000000}) (disch := omega) only [push_cast, c3, Nat.reduceAdd, Nat.reduceSub, Nat.reduceMul, Nat.reduceBEq, Int.reduceToNat, Int.reduceNeg, Int.reduceLE, Int.reduceLT, reduceCtorEq]
  refine callW_eq _ _ (f5 t0 4 (by omega) (by omega)) ?_
  simp (config := {implicitDefEqProofs := false, maxSteps := 4000000}) (disch := omega) only [push_cast, c3, Nat.reduceAdd, Nat.reduceSub, Nat.reduceMul, Nat.reduceBEq, Int.reduceToNat, Int.reduceNeg, Int.reduceLE, Int.reduceLT, reduceCtorEq]
  obtain ⟨n, hn, hn1, hn4⟩ : ∃ n : Nat, 1 + t0 % 4 = (n : Int) ∧ 1 ≤ n ∧ n ≤ 4 := ⟨(1 + t0 % 4).toNat, by omega, by omega, by omega⟩
  rw [hn]
  refine awp_upto (tyP_ok _) c3 2000 [3, 4, 5, 6, 7] (n) (fun _ => True) (S3 n [x0, x1, x2, x3, x4, x5, x6, x7]) (by kernel_rfl) ?_ ?_ ?_
  · simp (config := {implicitDefEqProofs := false, maxSteps := 4000000}) (disch := omega) only [push_cast, c3, S3, O3, if_true, Nat.reduceAdd, Nat.reduceSub, Nat.reduceMul, Nat.reduceBEq, Int.reduceToNat, Int.reduceNeg, Int.reduceLE, Int.reduceLT, reduceCtorEq]
  · trivial
  · intro i hi _
    simp (config := {implicitDefEqProofs := false, maxSteps := 4000000}) (disch := omega) only [push_cast, c3, S3, Nat.reduceAdd, Nat.reduceSub, Nat.reduceMul, Nat.reduceBEq, Int.reduceToNat, Int.reduceNeg, Int.reduceLE, Int.reduceLT, reduceCtorEq]
    refine ⟨fun hlt => ?_, fun hge => ?_⟩
    · have h4 : i = 0 ∨ i = 1 ∨ i = 2 ∨ i = 3 := by omega
      rcases h4 with rfl | rfl | rfl | rfl
      · simp (config := {implicitDefEqProofs := false, maxSteps := 4000000}) (disch := omega) only [push_cast, c3, S3, O3, if_true, if_false, Nat.reduceEqDiff, Int.reduceMul, Int.reduceAdd, and_self, Nat.reduceAdd, Nat.reduceSub, Nat.reduceMul, Nat.reduceBEq, Int.reduceToNat, Int.reduceNeg, Int.reduceLE, Int.reduceLT, reduceCtorEq]
        refine callW_eq _ _ (f5 _ n (by omega) (by omega)) ?_
        simp (config := {implicitDefEqProofs := false, maxSteps := 4000000}) (disch := omega) only [push_cast, c3, if_true, if_false, Nat.reduceEqDiff, Int.reduceMul, Int.reduceAdd, and_self, Nat.reduceAdd, Nat.reduceSub, Nat.reduceMul, Nat.reduceBEq, Int.reduceToNat, Int.reduceNeg, Int.reduceLE, Int.reduceLT, reduceCtorEq]
        refine callW_eq _ _ (f5 _ n (by omega) (by omega)) ?_
        simp (config := {implicitDefEqProofs := false, maxSteps := 4000000}) (disch := omega) only [push_cast, c3, if_true, if_false, Nat.reduceEqDiff, Int.reduceMul, Int.reduceAdd, and_self, Nat.reduceAdd, Nat.reduceSub, Nat.reduceMul, Nat.reduceBEq, Int.reduceToNat, Int.reduceNeg, Int.reduceLE, Int.reduceLT, reduceCtorEq]
        exact ⟨by omega, hlt, rfl⟩
      · simp (config := {implicitDefEqProofs := false, maxSteps := 4000000}) (disch := omega) only [push_cast, c3, S3, O3, if_true, if_false, Nat.reduceEqDiff, Int.reduceMul, Int.reduceAdd, and_self, Nat.reduceAdd, Nat.reduceSub, Nat.reduceMul, Nat.reduceBEq, Int.reduceToNat, Int.reduceNeg, Int.reduceLE, Int.reduceLT, reduceCtorEq]
        refine callW_eq _ _ (f5 _ n (by omega) (by omega)) ?_
        simp (config := {implicitDefEqProofs := false, maxSteps := 4000000}) (disch := omega) only [push_cast, c3, if_true, if_false, Nat.reduceEqDiff, Int.reduceMul, Int.reduceAdd, and_self, Nat.reduceAdd, Nat.reduceSub, Nat.reduceMul, Nat.reduceBEq, Int.reduceToNat, Int.reduceNeg, Int.reduceLE, Int.reduceLT, reduceCtorEq]
        refine callW_eq _ _ (f5 _ n (by omega) (by omega)) ?_
        simp (config := {implicitDefEqProofs := false, maxSteps := 4000000}) (disch := omega) only [push_cast, c3, if_true, if_false, Nat.reduceEqDiff, Int.reduceMul, Int.reduceAdd, and_self, Nat.reduceAdd, Nat.reduceSub, Nat.reduceMul, Nat.reduceBEq, Int.reduceToNat, Int.reduceNeg, Int.reduceLE, Int.reduceLT, reduceCtorEq]
        exact ⟨by simp [smA], hlt, rfl⟩
      · simp (config := {implicitDefEqProofs := false, maxSteps := 4000000}) (disch := omega) only [push_cast, c3, S3, O3, if_true, if_false, Nat.reduceEqDiff, Int.reduceMul, Int.reduceAdd, and_self, Nat.reduceAdd, Nat.reduceSub, Nat.reduceMul, Nat.reduceBEq, Int.reduceToNat, Int.reduceNeg, Int.reduceLE, Int.reduceLT, reduceCtorEq]
        refine callW_eq _ _ (f5 _ n (by omega) (by omega)) ?_
        simp (config := {implicitDefEqProofs := false, maxSteps := 4000000}) (disch := omega) only [push_cast, c3, if_true, if_false, Nat.reduceEqDiff, Int.reduceMul, Int.reduceAdd, and_self, Nat.reduceAdd, Nat.reduceSub, Nat.reduceMul, Nat.reduceBEq, Int.reduceToNat, Int.reduceNeg, Int.reduceLE, Int.reduceLT, reduceCtorEq]
        refine callW_eq _ _ (f5 _ n (by omega) (by omega)) ?_
        simp (config := {implicitDefEqProofs := false, maxSteps := 4000000}) (disch := omega) only [push_cast, c3, if_true, if_false, Nat.reduceEqDiff, Int.reduceMul, Int.reduceAdd, and_self, Nat.reduceAdd, Nat.reduceSub, Nat.reduceMul, Nat.reduceBEq, Int.reduceToNat, Int.reduceNeg, Int.reduceLE, Int.reduceLT, reduceCtorEq]
        exact ⟨by simp [smA], hlt, rfl⟩
      · simp (config := {implicitDefEqProofs := false, maxSteps := 4000000}) (disch := omega) only [push_cast, c3, S3, O3, if_true, if_false, Nat.reduceEqDiff, Int.reduceMul, Int.reduceAdd, and_self, Nat.reduceAdd, Nat.reduceSub, Nat.reduceMul, Nat.reduceBEq, Int.reduceToNat, Int.reduceNeg, Int.reduceLE, Int.reduceLT, reduceCtorEq]
        refine callW_eq _ _ (f5 _ n (by omega) (by omega)) ?_
        simp (config := {implicitDefEqProofs := false, maxSteps := 4000000}) (disch := omega) only [push_cast, c3, if_true, if_false, Nat.reduceEqDiff, Int.reduceMul, Int.reduceAdd, and_self, Nat.reduceAdd, Nat.reduceSub, Nat.reduceMul, Nat.reduceBEq, Int.reduceToNat, Int.reduceNeg, Int.reduceLE, Int.reduceLT, reduceCtorEq]
        refine callW_eq _ _ (f5 _ n (by omega) (by omega)) ?_
        simp (config := {implicitDefEqProofs := false, maxSteps := 4000000}) (disch := omega) only [push_cast, c3, if_true, if_false, Nat.reduceEqDiff, Int.reduceMul, Int.reduceAdd, and_self, Nat.reduceAdd, Nat.reduceSub, Nat.reduceMul, Nat.reduceBEq, Int.reduceToNat, Int.reduceNeg, Int.reduceLE, Int.reduceLT, reduceCtorEq]
        exact ⟨by simp [smA], hlt, rfl⟩
    · have hin : i = n := by omega
      subst hin
      clear hi hge
      have h0 : i ≠ 0 := by omega
      have hV := smA_vld i [x0, x1, x2, x3, x4, x5, x6, x7] hn1 hn4
      have hSh : ∀ {w : List Int} {e : Int}, ShortR (smA i [x0, x1, x2, x3, x4, x5, x6, x7] i) w e → _ := fun h => small_short i [x0, x1, x2, x3, x4, x5, x6, x7] hn1 hn4 h
      have hlen : (smA i [x0, x1, x2, x3, x4, x5, x6, x7] i).length = i := by simp [smA]
      simp only [O3, if_neg h0]
      generalize smA i [x0, x1, x2, x3, x4, x5, x6, x7] i = a at *
      simp (config := {implicitDefEqProofs := false, maxSteps := 4000000}) (disch := omega) only [push_cast, c3, Nat.reduceAdd, Nat.reduceSub, Nat.reduceMul, Nat.reduceBEq, Int.reduceToNat, Int.reduceNeg, Int.reduceLE, Int.reduceLT, reduceCtorEq]
      refine callW_rel (f6 a _ (by omega) (fun r hr => by rw [(hV.row r hr).1]; omega)) ?_
      rintro R O ⟨w, e, nz, hS, rfl, rfl⟩
      simp (config := {implicitDefEqProofs := false, maxSteps := 4000000}) (disch := omega) only [push_cast, c3, Nat.reduceAdd, Nat.reduceSub, Nat.reduceMul, Nat.reduceBEq, Int.reduceToNat, Int.reduceNeg, Int.reduceLE, Int.reduceLT, reduceCtorEq]
      rcases hSh hS with ⟨rfl, rfl⟩ | ⟨rfl, hw1, hw2, hw3⟩
      · refine ⟨fun _ => ?_, fun h => absurd h (by omega)⟩
        simp (config := {implicitDefEqProofs := false, maxSteps := 4000000}) (disch := omega) only [push_cast, c3, Nat.reduceAdd, Nat.reduceSub, Nat.reduceMul, Nat.reduceBEq, Int.reduceToNat, Int.reduceNeg, Int.reduceLE, Int.reduceLT, reduceCtorEq]
        refine callW_eq _ _ (f7) ?_
        simp (config := {implicitDefEqProofs := false, maxSteps := 4000000}) (disch := omega) only [push_cast, c3, Nat.reduceAdd, Nat.reduceSub, Nat.reduceMul, Nat.reduceBEq, Int.reduceToNat, Int.reduceNeg, Int.reduceLE, Int.reduceLT, reduceCtorEq]
      · refine ⟨fun h => absurd rfl h, fun _ => ?_⟩
        have hq : 0 ≤ ((i : Int) - 1) * (i - 1) ∧ ((i : Int) - 1) * (i - 1) ≤ 9 := by
          have : i = 1 ∨ i = 2 ∨ i = 3 ∨ i = 4 := by omega
          rcases this with rfl | rfl | rfl | rfl <;> decide
        rw [wrap_i64 (by omega) (by omega)]
        refine ⟨fun _ => ?_, fun h => by omega⟩
        refine callW_eq _ _ (f8' a _ _ w 2 hV (by omega) hw3) ?_
        rw [hw2]
        simp (config := {implicitDefEqProofs := false, maxSteps := 4000000}) (disch := omega) only [push_cast, c3, Nat.reduceAdd, Nat.reduceSub, Nat.reduceMul, Nat.reduceBEq, Int.reduceToNat, Int.reduceNeg, Int.reduceLE, Int.reduceLT, reduceCtorEq]
        refine ⟨fun _ => ?_, fun h => absurd rfl h⟩
        refine callW_eq _ _ (f7) ?_
        simp (config := {implicitDefEqProofs := false, maxSteps := 4000000}) (disch := omega) only [push_cast, c3, Nat.reduceAdd, Nat.reduceSub, Nat.reduceMul, Nat.reduceBEq, Int.reduceToNat, Int.reduceNeg, Int.reduceLE, Int.reduceLT, reduceCtorEq]
end Go.AM
end
