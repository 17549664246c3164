/-
  Contracts of the trie's add and words, and of the middle words; conditions in each statement.
-/
import Derived.Test.YtdfocobojkmenaaS5
import Derived.Test.YtdfocobojkmenaaP4
import Derived.Test.YtdfocobojkmenaaF6
set_option linter.unusedVariables false
set_option linter.unusedSimpArgs false
set_option linter.unusedSectionVars false
set_option linter.unnecessarySimpa false

/-! text Uk20 -/
section
namespace Go.AM
open Go Go.Proofs Go.Sort
/-- what adding a word to a node gives -/
structure AddT (T T' : List TN) (u w : List Int) (b' : Nat) : Prop where
  ext : ExtT T T'
  wt : WT T'
  nd : ∃ t, ndT T' b' = some t ∧ t.path = u ++ w
  mrk : ∀ p, mkT T' p = mkT T p
  dep : ∀ s ∈ T', s ∈ T ∨ s.path.length ≤ u.length + w.length
theorem kid_add {T : List TN} {t : TN} {b x bk : Nat} (h : ndT T b = some t) (hw : WT (addN T b x bk)) : kidT (addN T b x bk) t.path x = some bk := by
  have hm : (⟨t.path ++ [(x : Int)], bk, false⟩ : TN) ∈ addN T b x bk := by rw [addN_at h]; simp
  have := lkT_mem hw.nd hm
  unfold kidT
  rw [this]; rfl
theorem take_snoc {w : List Int} {i : Nat} (h : i < w.length) : w.take (i + 1) = w.take i ++ [w.getD i 0] := by
  rw [List.take_succ_eq_append_getElem h]
  simp [List.getD, h]
/- (*mizmaze/check.trie).add -/
def c52 : VCfg := ⟨⟨[23], [], [], [0, 1, 4, 6, 7, 8, 9, 10, 19]⟩, [], [], []⟩
set_option maxHeartbeats 8000000 in
set_option maxRecDepth 100000 in
theorem f52 (y : Yc) (g : Gh) (T : List TN) (b : Nat) (t : TN) (w : List Int) (z : Bool) (hT : WT T) (ht : ndT T b = some t) (hw : ∀ x ∈ w, 0 ≤ x ∧ x < 6) (hl : w.length ≤ 4611686018427387904) :
    GCall Try.prog y 52 g [.mh 0 (.tn (some b)), .pay (.ints .i64 w) z] [.trie 6 T] (fun g' r A O => g' = g ∧ A = [.junk, .pay (.ints .i64 w) z] ∧ ∃ T' b', AddT T T' t.path w b' ∧ r = .mh 0 (.tn (some b')) ∧ O = [.trie 6 T']) := by
  refine gcall_intro (tyP_ok _) c52 2000 [.tmp 4] [1] Try.func52 rfl (by rfl) rfl (by rfl) (by kernel_rfl) (by kernel_rfl) ?_
  unfold Try.f52
  simp (config := {implicitDefEqProofs := false, maxSteps := 4000000}) (disch := omega) only [push_cast, c52, Nat.reduceAdd, Nat.reduceSub, Nat.reduceMul, Nat.reduceBEq, Int.reduceToNat, Int.reduceNeg, Int.reduceLE, Int.reduceLT, Int.reduceBEq, Int.reduceBNe, Int.reduceEq, Bool.not_true, Bool.not_false, eq_self, reduceCtorEq]
  refine awp_loop (tyP_ok _) c52 2000 [0, 1, 7, 8, 9] (fun n g' st => ∃ (i : Nat) (T' : List TN) (b' : Nat), g' = g ∧ i ≤ w.length ∧ AddT T T' t.path (w.take i) b' ∧ n = w.length - i ∧ st = ⟨35, [(0, .mh 0 (.tn (some b'))), (1, .pay (.ints .i64 w) z), (7, .pay (.ints .i64 w) z), (8, .int .i64 w.length), (9, .int .i64 i)], [.trie 6 T']⟩) w.length (by kernel_rfl) ?_ ?_
  · simp (config := {implicitDefEqProofs := false, maxSteps := 4000000}) (disch := omega) only [push_cast, c52, Nat.reduceAdd, Nat.reduceSub, Nat.reduceMul, Nat.reduceBEq, Int.reduceToNat, Int.reduceNeg, Int.reduceLE, Int.reduceLT, Int.reduceBEq, Int.reduceBNe, Int.reduceEq, Bool.not_true, Bool.not_false, eq_self, reduceCtorEq]
    exact ⟨0, T, b, Nat.zero_le _, ⟨fun _ h => h, hT, ⟨t, ht, by simp⟩, fun _ => rfl, fun s hs => .inl hs⟩, by omega, ⟨rfl, rfl⟩, rfl⟩
  rintro n g' st ⟨i, T', b', rfl, hi, hA, rfl, rfl⟩
  obtain ⟨t', e1, e2⟩ := hA.nd
  have hin : inT T' b' := by unfold inT; rw [e1]; rfl
  simp (config := {implicitDefEqProofs := false, maxSteps := 4000000}) (disch := omega) only [push_cast, c52, Nat.reduceAdd, Nat.reduceSub, Nat.reduceMul, Nat.reduceBEq, Int.reduceToNat, Int.reduceNeg, Int.reduceLE, Int.reduceLT, Int.reduceBEq, Int.reduceBNe, Int.reduceEq, Bool.not_true, Bool.not_false, eq_self, reduceCtorEq]
  refine ⟨fun hlt => ?_, fun hge => ?_⟩
  · have hx := hw _ (getD_mem hlt)
    have hxn : ((w.getD i 0).toNat : Int) = w.getD i 0 := by omega
    generalize hxe : (w.getD i 0).toNat = x at *
    have hx6 : x < 6 := by omega
    have hch := chT_at (x := x) e1
    refine ⟨hlt, hx, ⟨hin, hx6⟩, fun hn => ?_, fun hs => ?_⟩
    · have hn : chT T' b' x = none := by simpa using hn
      refine ⟨hx, ⟨hin, hx6, hn⟩, fun bb hbb => ?_⟩
      have hk : kidT T' t'.path x = none := by rw [← hch]; exact hn
      have hW := hA.wt.add e1 hx6 hk hbb
      have he : ExtT T' (addN T' b' x bb) := ExtT.add
      have e3 := ExtT.nd hW he e1
      refine ⟨hx, ⟨by unfold inT; rw [e3]; rfl, hx6⟩, w.length - (i + 1), by omega, i + 1, _, bb, by omega, ⟨fun u hu => he u (hA.ext u hu), hW, ⟨_, nd_add hW e1, ?_⟩, fun p => (mkT_add e1 p).trans (hA.mrk p), fun s hs => ?_⟩, rfl, ⟨?_, by omega⟩, rfl⟩
      · rw [take_snoc hlt, ← hxn, e2, List.append_assoc]
      · rw [addN_at e1] at hs
        rcases List.mem_append.1 hs with hs | hs
        · rcases hA.dep s hs with h | h
          · exact .inl h
          · right; rw [List.length_take] at h ⊢; omega
        · simp only [List.mem_singleton] at hs
          subst hs
          right
          rw [e2, List.length_append, List.length_append, List.length_singleton, List.length_take, List.length_take]; omega
      · rw [chT_at e3]; exact kid_add e1 hW
    · obtain ⟨bb, hb⟩ : ∃ bb, chT T' b' x = some bb := by
        cases h : chT T' b' x with
        | none => rw [h] at hs; cases hs
        | some bb => exact ⟨bb, rfl⟩
      have hk : kidT T' t'.path x = some bb := by rw [← hch]; exact hb
      obtain ⟨u, hu, hup, hub⟩ := kidT_some hk
      refine ⟨hx, ⟨hin, hx6⟩, w.length - (i + 1), by omega, i + 1, T', bb, by omega, ⟨hA.ext, hA.wt, ⟨u, by rw [← hub]; exact ndT_of hA.wt.bd hu, ?_⟩, hA.mrk, fun s hs => by
        rcases hA.dep s hs with h | h
        · exact .inl h
        · right; rw [List.length_take] at h ⊢; omega⟩, rfl, ⟨hb, by omega⟩, rfl⟩
      rw [hup, take_snoc hlt, ← hxn, e2, List.append_assoc]
  · rw [List.take_of_length_le hge] at hA
    exact ⟨T', b', hA, rfl, rfl⟩
end Go.AM
end

/-! text Uk21 -/
section
namespace Go.AM
open Go Go.Proofs Go.Sort
/-- the words below a node, as far as the letters below x -/
def dfsX (T : List TN) (f : Nat) (u : List Int) (x : Nat) : List (List Int) := (if mkT T u = true then [u] else []) ++ (List.range x).flatMap fun y : Nat => if (lkT T (u ++ [(y : Int)])).isSome = true then dfsT T f (u ++ [(y : Int)]) else []
theorem dfsX_succ (T : List TN) (f : Nat) (u : List Int) (x : Nat) : dfsX T f u (x + 1) = dfsX T f u x ++ (if (lkT T (u ++ [(x : Int)])).isSome = true then dfsT T f (u ++ [(x : Int)]) else []) := by
  unfold dfsX
  rw [List.range_succ, List.flatMap_append, ← List.append_assoc]
  simp
theorem dfsX_le (T : List TN) (f : Nat) (u : List Int) : ∀ {x : Nat}, x ≤ 6 → (dfsX T f u x).length ≤ (dfsX T f u 6).length := by
  have h : ∀ d x, x + d = 6 → (dfsX T f u x).length ≤ (dfsX T f u 6).length := by
    intro d
    induction d with
    | zero => intro x hx; rw [show x = 6 by omega]; exact Nat.le_refl _
    | succ d ih =>
      intro x hx
      refine Nat.le_trans ?_ (ih (x + 1) (by omega))
      rw [dfsX_succ, List.length_append]; omega
  exact fun {x} hx => h (6 - x) x (by omega)
theorem dfs_eq {T : List TN} (hT : WT T) {f : Nat} {u : List Int} (hf : ∀ s ∈ T, s.path.length ≤ u.length + f) : dfsT T f u = dfsX T (f - 1) u 6 := by
  cases f with
  | succ f => rfl
  | zero =>
    unfold dfsT dfsX
    have : (List.range 6).flatMap (fun y : Nat => if (lkT T (u ++ [(y : Int)])).isSome = true then dfsT T (0 - 1) (u ++ [(y : Int)]) else []) = [] := by
      rw [List.flatMap_eq_nil_iff]
      intro y _
      split
      · rename_i h
        obtain ⟨s, hs, e⟩ := (dmT_iff hT).1 h
        have := hf s hs
        rw [e, List.length_append, List.length_singleton] at this
        omega
      · rfl
    rw [this, List.append_nil]
theorem kids_at {T : List TN} {b m x : Nat} (h : x < m) : (kidsT T b m).getD x none = chT T b x := by simp [kidsT, List.getD, h]
theorem kids_len {T : List TN} {b m : Nat} : (kidsT T b m).length = m := by simp [kidsT]
/- (*mizmaze/check.trie).words -/
def c54 : VCfg := ⟨⟨[], [], [], [0, 1, 2, 6, 7, 8, 12, 21, 22, 23, 27]⟩, [], [54], [39]⟩
set_option maxHeartbeats 16000000 in
set_option maxRecDepth 100000 in
theorem f54 : ∀ (f : Nat) (y : Yc) (g : Gh) (T : List TN) (b : Nat) (t : TN) (u : List Int) (z : Bool) (out : List (List Int)) (ai : AI) (hai : ai.e = 37) (hT : WT T) (ht : ndT T b = some t) (hu : t.path = u) (hf : ∀ s ∈ T, s.path.length ≤ u.length + f) (hb1 : u.length + f ≤ 1000000) (hb2 : out.length + (dfsT T f u).length ≤ 1000000000),
    GCall Try.prog y 54 g [.mh 0 (.tn (some b)), .pay (.ints .i64 u) z, .own 1] [.trie 6 T, .arr (.rows out) ai] (fun g' r A O => g' = g ∧ r = .own 0 ∧ A = [.mh 1 (.tn (some b)), .pay (.ints .i64 u) z, .junk] ∧ O = [.arr (.rows (out ++ dfsT T f u)) ai, .trie 6 T]) := by
  intro f
  induction f using Nat.strongRecOn with
  | _ f ih =>
    intro y g T b t u z out ai hai hT ht hu hf hb1 hb2
    obtain ⟨e0, nz0⟩ := ai
    simp only at hai
    subst hai
    have hin : inT T b := by unfold inT; rw [ht]; rfl
    have hdq := dfs_eq hT hf
    rw [hdq] at hb2 ⊢
    have hw : wordT T b = mkT T u := by
      unfold wordT mkT
      rw [ht, ← hu, lkT_mem hT.nd (ndT_mem ht).1]
    have h0 := dfsX_le T (f - 1) u (Nat.zero_le 6)
    refine gcall_intro (tyP_ok _) c54 2000 [.tmp 6] [0, 1] Try.func54 rfl (by rfl) rfl (by rfl) (by kernel_rfl) (by kernel_rfl) ?_
    unfold Try.f54
    simp (config := {implicitDefEqProofs := false, maxSteps := 4000000}) (disch := omega) only [push_cast, c54, Nat.reduceAdd, Nat.reduceSub, Nat.reduceMul, Nat.reduceBEq, Int.reduceToNat, Int.reduceNeg, Int.reduceLE, Int.reduceLT, Int.reduceBEq, Int.reduceBNe, Int.reduceEq, Bool.not_true, Bool.not_false, eq_self, reduceCtorEq]
    refine ⟨hin, fun hm => ?_, fun hm => ⟨hin, ?_⟩⟩
    · have hd0 : dfsX T (f - 1) u 0 = [u] := by rw [hw] at hm; simp [dfsX, hm]
      refine callW_rel (Cl.f68 u z (by omega)) ?_
      rintro R O' ⟨rfl, nz, rfl⟩
      simp (config := {implicitDefEqProofs := false, maxSteps := 4000000}) (disch := omega) only [push_cast, c54, Nat.reduceAdd, Nat.reduceSub, Nat.reduceMul, Nat.reduceBEq, Int.reduceToNat, Int.reduceNeg, Int.reduceLE, Int.reduceLT, Int.reduceBEq, Int.reduceBNe, Int.reduceEq, Bool.not_true, Bool.not_false, eq_self, reduceCtorEq]
      rw [hd0] at h0
      simp only [List.length_singleton] at h0
      refine ⟨by omega, hin, ?_⟩
      refine awp_upto (tyP_ok _) c54 2000 [0, 1, 2, 6, 21, 22] (6) (fun _ => True) (fun x => ⟨42, [(0, .mh 0 (.tn (some b))), (1, .pay (.ints .i64 u) z), (2, .own 1), (6, .pay (.rows []) true), (21, .mh 0 (.tk (kidsT T b 6))), (22, .int .i64 x)], [.trie 6 T, .arr (.rows (out ++ dfsX T (f - 1) u x)) ⟨37, nz0⟩]⟩) (by kernel_rfl) ?_ ?_ ?_
      · simp (config := {implicitDefEqProofs := false, maxSteps := 4000000}) (disch := omega) only [push_cast, c54, Nat.reduceAdd, Nat.reduceSub, Nat.reduceMul, Nat.reduceBEq, Int.reduceToNat, Int.reduceNeg, Int.reduceLE, Int.reduceLT, Int.reduceBEq, Int.reduceBNe, Int.reduceEq, Bool.not_true, Bool.not_false, eq_self, reduceCtorEq]
        rw [hd0]; first | done | rfl
      · trivial
      intro x hx _
      have hkl := kids_len (T := T) (b := b) (m := 6)
      have hle := dfsX_le T (f - 1) u hx
      simp (config := {implicitDefEqProofs := false, maxSteps := 4000000}) (disch := omega) only [push_cast, c54, hkl, Nat.reduceAdd, Nat.reduceSub, Nat.reduceMul, Nat.reduceBEq, Int.reduceToNat, Int.reduceNeg, Int.reduceLE, Int.reduceLT, Int.reduceBEq, Int.reduceBNe, Int.reduceEq, Bool.not_true, Bool.not_false, eq_self, reduceCtorEq]
      refine ⟨fun hlt => ⟨by omega, fun hs => ?_, fun hno => ?_⟩, fun hge => ?_⟩
      · have hlt : x < 6 := by omega
        rw [kids_at hlt] at hs ⊢
        obtain ⟨bb, hbb⟩ : ∃ bb, chT T b x = some bb := by
          cases h : chT T b x with
          | none => rw [h] at hs; cases hs
          | some bb => exact ⟨bb, rfl⟩
        have hk : kidT T t.path x = some bb := by rw [← chT_at ht]; exact hbb
        obtain ⟨s, hs1, hs2, hs3⟩ := kidT_some hk
        rw [hu] at hs2
        have hdm : (lkT T (u ++ [(x : Int)])).isSome = true := (dmT_iff hT).2 ⟨s, hs1, hs2⟩
        have hf1 : 1 ≤ f := by
          have := hf s hs1
          rw [hs2, List.length_append, List.length_singleton] at this
          omega
        have hst := dfsX_succ T (f - 1) u x
        rw [if_pos hdm] at hst
        have hle2 := dfsX_le T (f - 1) u (show x + 1 ≤ 6 by omega)
        have hll := congrArg List.length hst
        rw [List.length_append] at hll
        rw [hbb]
        refine ⟨⟨by omega, by omega⟩, ?_⟩
        refine lcallW_rel (GCall.pre [1] [0, 2] (ih (f - 1) (by omega) _ _ T bb s (u ++ [(x : Int)]) _ (out ++ dfsX T (f - 1) u x) ⟨37, nz0⟩ rfl hT (by rw [← hs3]; exact ndT_of hT.bd hs1) hs2 (fun r hr => by have := hf r hr; rw [List.length_append, List.length_singleton]; omega) (by rw [List.length_append, List.length_singleton]; omega) (by rw [List.length_append]; omega)) rfl rfl (by decide)) ?_
        rintro g1 R A O' ⟨rfl, rfl, rfl, rfl⟩
        simp (config := {implicitDefEqProofs := false, maxSteps := 4000000}) (disch := omega) only [push_cast, c54, hkl, Nat.reduceAdd, Nat.reduceSub, Nat.reduceMul, Nat.reduceBEq, Int.reduceToNat, Int.reduceNeg, Int.reduceLE, Int.reduceLT, Int.reduceBEq, Int.reduceBNe, Int.reduceEq, Bool.not_true, Bool.not_false, eq_self, reduceCtorEq]
        rw [hst, List.append_assoc]
        exact ⟨hlt, rfl⟩
      · have hlt : x < 6 := by omega
        rw [kids_at hlt] at hno
        have hbb : chT T b x = none := by
          cases h : chT T b x with
          | none => rfl
          | some bb => rw [h] at hno; cases hno
        have hk : kidT T t.path x = none := by rw [← chT_at ht]; exact hbb
        have hnd := kidT_none hk
        rw [hu] at hnd
        refine ⟨hlt, ?_⟩
        rw [dfsX_succ, if_neg (show ¬ (lkT T (u ++ [(x : Int)])).isSome = true from hnd), List.append_nil]
      · rw [show x = 6 by omega]
    · have hd0 : dfsX T (f - 1) u 0 = [] := by rw [hw] at hm; simp [dfsX, hm]
      refine awp_upto (tyP_ok _) c54 2000 [0, 1, 2, 6, 21, 22] (6) (fun _ => True) (fun x => ⟨42, [(0, .mh 0 (.tn (some b))), (1, .pay (.ints .i64 u) z), (2, .own 1), (6, .pay (.rows []) true), (21, .mh 0 (.tk (kidsT T b 6))), (22, .int .i64 x)], [.trie 6 T, .arr (.rows (out ++ dfsX T (f - 1) u x)) ⟨37, nz0⟩]⟩) (by kernel_rfl) ?_ ?_ ?_
      · simp (config := {implicitDefEqProofs := false, maxSteps := 4000000}) (disch := omega) only [push_cast, c54, Nat.reduceAdd, Nat.reduceSub, Nat.reduceMul, Nat.reduceBEq, Int.reduceToNat, Int.reduceNeg, Int.reduceLE, Int.reduceLT, Int.reduceBEq, Int.reduceBNe, Int.reduceEq, Bool.not_true, Bool.not_false, eq_self, reduceCtorEq]
        rw [hd0, List.append_nil]; first | done | rfl
      · trivial
      intro x hx _
      have hkl := kids_len (T := T) (b := b) (m := 6)
      have hle := dfsX_le T (f - 1) u hx
      simp (config := {implicitDefEqProofs := false, maxSteps := 4000000}) (disch := omega) only [push_cast, c54, hkl, Nat.reduceAdd, Nat.reduceSub, Nat.reduceMul, Nat.reduceBEq, Int.reduceToNat, Int.reduceNeg, Int.reduceLE, Int.reduceLT, Int.reduceBEq, Int.reduceBNe, Int.reduceEq, Bool.not_true, Bool.not_false, eq_self, reduceCtorEq]
      refine ⟨fun hlt => ⟨by omega, fun hs => ?_, fun hno => ?_⟩, fun hge => ?_⟩
      · have hlt : x < 6 := by omega
        rw [kids_at hlt] at hs ⊢
        obtain ⟨bb, hbb⟩ : ∃ bb, chT T b x = some bb := by
          cases h : chT T b x with
          | none => rw [h] at hs; cases hs
          | some bb => exact ⟨bb, rfl⟩
        have hk : kidT T t.path x = some bb := by rw [← chT_at ht]; exact hbb
        obtain ⟨s, hs1, hs2, hs3⟩ := kidT_some hk
        rw [hu] at hs2
        have hdm : (lkT T (u ++ [(x : Int)])).isSome = true := (dmT_iff hT).2 ⟨s, hs1, hs2⟩
        have hf1 : 1 ≤ f := by
          have := hf s hs1
          rw [hs2, List.length_append, List.length_singleton] at this
          omega
        have hst := dfsX_succ T (f - 1) u x
        rw [if_pos hdm] at hst
        have hle2 := dfsX_le T (f - 1) u (show x + 1 ≤ 6 by omega)
        have hll := congrArg List.length hst
        rw [List.length_append] at hll
        rw [hbb]
        refine ⟨⟨by omega, by omega⟩, ?_⟩
        refine lcallW_rel (GCall.pre [1] [0, 2] (ih (f - 1) (by omega) _ _ T bb s (u ++ [(x : Int)]) _ (out ++ dfsX T (f - 1) u x) ⟨37, nz0⟩ rfl hT (by rw [← hs3]; exact ndT_of hT.bd hs1) hs2 (fun r hr => by have := hf r hr; rw [List.length_append, List.length_singleton]; omega) (by rw [List.length_append, List.length_singleton]; omega) (by rw [List.length_append]; omega)) rfl rfl (by decide)) ?_
        rintro g1 R A O' ⟨rfl, rfl, rfl, rfl⟩
        simp (config := {implicitDefEqProofs := false, maxSteps := 4000000}) (disch := omega) only [push_cast, c54, hkl, Nat.reduceAdd, Nat.reduceSub, Nat.reduceMul, Nat.reduceBEq, Int.reduceToNat, Int.reduceNeg, Int.reduceLE, Int.reduceLT, Int.reduceBEq, Int.reduceBNe, Int.reduceEq, Bool.not_true, Bool.not_false, eq_self, reduceCtorEq]
        rw [hst, List.append_assoc]
        exact ⟨hlt, rfl⟩
      · have hlt : x < 6 := by omega
        rw [kids_at hlt] at hno
        have hbb : chT T b x = none := by
          cases h : chT T b x with
          | none => rfl
          | some bb => rw [h] at hno; cases hno
        have hk : kidT T t.path x = none := by rw [← chT_at ht]; exact hbb
        have hnd := kidT_none hk
        rw [hu] at hnd
        refine ⟨hlt, ?_⟩
        rw [dfsX_succ, if_neg (show ¬ (lkT T (u ++ [(x : Int)])).isSome = true from hnd), List.append_nil]
      · rw [show x = 6 by omega]
end Go.AM
end

/-! text Uk22 -/
section
namespace Go.AM
open Go Go.Proofs Go.Sort
theorem tFn : tyP Try.prog 86 = some ⟨1, 8, .func, .lit .nilFunc⟩ := by kernel_rfl
attribute [push_cast] tFn
/-- the words of at most f letters more behind a word, each ahead of those behind it -/
def midW (k : Nat) : Nat → List Int → List (List Int)
  | 0, w => [w]
  | f + 1, w => w :: (List.range k).flatMap fun x : Nat => midW k f (w ++ [(x : Int)])
/-- the first letters' share -/
def midX (k f : Nat) (w : List Int) (x : Nat) : List (List Int) := (List.range x).flatMap fun x : Nat => midW k f (w ++ [(x : Int)])
theorem midX_succ (k f : Nat) (w : List Int) (x : Nat) : midX k f w (x + 1) = midX k f w x ++ midW k f (w ++ [(x : Int)]) := by simp [midX, List.range_succ]
theorem midW_succ (k f : Nat) (w : List Int) : midW k (f + 1) w = w :: midX k f w k := rfl
def yArg (w : List Int) : List AV := [.pay (.ints .i64 w) w.isEmpty]
/-- what the yields from i on must be -/
def YieldsM (xs : List (List AV)) (i : Nat) (l : List (List Int)) : Prop := ∀ j, j < l.length → ∃ h : i + j < xs.length, xs[i + j] = yArg (l.getD j [])
theorem YieldsM.append {xs : List (List AV)} {i : Nat} {l l' : List (List Int)} (h : YieldsM xs i (l ++ l')) : YieldsM xs i l ∧ YieldsM xs (i + l.length) l' := by
  refine ⟨fun j hj => ?_, fun j hj => ?_⟩
  · obtain ⟨h1, h2⟩ := h j (by rw [List.length_append]; omega)
    refine ⟨h1, h2.trans ?_⟩
    rw [List.getD_eq_getElem?_getD, List.getElem?_append_left hj, List.getD_eq_getElem?_getD]
  · obtain ⟨h1, h2⟩ := h (l.length + j) (by rw [List.length_append]; omega)
    refine ⟨by omega, ?_⟩
    have e : i + l.length + j = i + (l.length + j) := by omega
    simp only [e]
    refine h2.trans ?_
    rw [List.getD_eq_getElem?_getD, List.getElem?_append_right (by omega), List.getD_eq_getElem?_getD]
    congr 3; omega
theorem midX_pre (k f : Nat) (w : List Int) (x : Nat) : ∀ d, ∃ r, midX k f w (x + d) = midX k f w x ++ r
  | 0 => ⟨[], by simp⟩
  | d + 1 => by
    obtain ⟨r, e⟩ := midX_pre k f w x d
    exact ⟨r ++ midW k f (w ++ [((x + d : Nat) : Int)]), by rw [← Nat.add_assoc, midX_succ, e, List.append_assoc]⟩
theorem YieldsM.at {xs : List (List AV)} {i k f x : Nat} {w : List Int} (h : YieldsM xs i (midW k (f + 1) w)) (hx : x < k) : YieldsM xs (i + 1 + (midX k f w x).length) (midW k f (w ++ [(x : Int)])) := by
  obtain ⟨r, e⟩ := midX_pre k f w (x + 1) (k - (x + 1))
  rw [show x + 1 + (k - (x + 1)) = k by omega, midX_succ] at e
  rw [midW_succ, e, ← List.singleton_append, List.append_assoc] at h
  have h1 := h.append.2.append.2.append.1
  simpa using h1
def caps75 (l k n : Nat) : List AV := [.fref [.lit (.func (.yield l) #[] #[])], .fref [.int .i64 k], .fref [.int .i64 n], .ref 0 0]
/- mizmaze/check.middles$1$1 -/
def c75 : VCfg := ⟨⟨[], [], [], [0, 1, 2, 3, 4, 6, 7, 11, 12, 13, 14, 33]⟩, [(6, (.op 0 .strict (.op 1 .strict (.op 2 .strict (.op 3 .strict (.op 4 .loose (.op 6 .strict (.op 7 .strict (.op 8 .strict (.op 9 .strict (.op 10 .strict (.op 11 .strict (.op 12 .strict (.alt (.op 5 .eff (.op 13 .eff (.op 14 .eff (.op 15 .eff (.op 16 .loose (.op 17 .loose .nil)))))) (.op 13 .eff (.alt (.op 5 .eff (.op 14 .eff (.op 15 .eff (.op 16 .loose (.op 17 .loose .nil))))) (.op 14 .eff (.op 5 .eff (.op 15 .eff (.op 16 .loose (.op 17 .loose .nil)))))))))))))))))))))], [75], [10, 31]⟩
set_option maxHeartbeats 16000000 in
set_option maxRecDepth 100000 in
theorem f75 (k n l : Nat) (xs : List (List AV)) (hk : k ≤ 6) (hn : n ≤ 10) : ∀ (f : Nat) (w : List Int) (i : Nat), w.length + f = n → YieldsM xs i (midW k f w) →
    GCall Try.prog ⟨l, xs⟩ 75 (false, i) (.pay (.ints .i64 w) w.isEmpty :: caps75 l k n) [.box [.clo 75 (caps75 l k n)]] (fun g' r A O => ((g' = (false, i + (midW k f w).length) ∧ r = .bool true) ∨ (g'.1 = true ∧ r = .bool false)) ∧ A = .pay (.ints .i64 w) w.isEmpty :: caps75 l k n ∧ O = [.box [.clo 75 (caps75 l k n)]]) := by
  unfold caps75
  intro f
  induction f using Nat.strongRecOn with
  | _ f ih =>
    intro w i hw hY
    refine gcall_intro (tyP_ok _) c75 2000 [.tmp 6] [0, 1, 2, 3, 4] Try.func75 rfl (by rfl) rfl (by rfl) (by kernel_rfl) (by kernel_rfl) ?_
    unfold Try.f75
    simp (config := {implicitDefEqProofs := false, maxSteps := 4000000}) (disch := omega) only [push_cast, c75, Nat.reduceAdd, Nat.reduceSub, Nat.reduceMul, Nat.reduceBEq, Int.reduceToNat, Int.reduceNeg, Int.reduceLE, Int.reduceLT, Int.reduceBEq, Int.reduceBNe, Int.reduceEq, Bool.not_true, Bool.not_false, eq_self, reduceCtorEq]
    have hlen : (midW k f w).length = 1 + (midW k f w).tail.length := by cases f <;> simp [midW]; omega
    refine ⟨?_, ?_, .inr trivial⟩
    · obtain ⟨h1, h2⟩ := hY 0 (by omega)
      refine ⟨h1, Eq.trans ?_ h2.symm⟩
      cases f <;> rfl
    refine awp_loop (tyP_ok _) c75 2000 [0, 1, 2, 3, 4, 6, 12, 13] (fun m g st => ∃ x : Nat, g = (false, i + 1 + (match f with | 0 => 0 | f + 1 => (midX k f w x).length)) ∧ x ≤ k ∧ m = k - x ∧ st = ⟨35, [(0, .pay (.ints .i64 w) w.isEmpty), (1, .fref [.lit (.func (.yield l) #[] #[])]), (2, .fref [.int .i64 k]), (3, .fref [.int .i64 n]), (4, .ref 0 0), (6, .bool false), (12, .int .i64 k), (13, .int .i64 x)], [.box [.clo 75 [.fref [.lit (.func (.yield l) #[] #[])], .fref [.int .i64 k], .fref [.int .i64 n], .ref 0 0]]]⟩) k (by kernel_rfl) ?_ ?_
    · refine ⟨0, ?_, Nat.zero_le _, by omega, ?_⟩
      · cases f <;> simp [midX]
      · simp (config := {implicitDefEqProofs := false, maxSteps := 4000000}) (disch := omega) only [push_cast, c75, Nat.reduceAdd, Nat.reduceSub, Nat.reduceMul, Nat.reduceBEq, Int.reduceToNat, Int.reduceNeg, Int.reduceLE, Int.reduceLT, Int.reduceBEq, Int.reduceBNe, Int.reduceEq, Bool.not_true, Bool.not_false, eq_self, reduceCtorEq]
    rintro m g st ⟨x, rfl, hx, rfl, rfl⟩
    cases f with
    | zero =>
      have hwn : ¬ ((w.length : Int) < n) := by omega
      simp (config := {implicitDefEqProofs := false, maxSteps := 4000000}) (disch := omega) only [push_cast, c75, hwn, Nat.reduceAdd, Nat.reduceSub, Nat.reduceMul, Nat.reduceBEq, Int.reduceToNat, Int.reduceNeg, Int.reduceLE, Int.reduceLT, Int.reduceBEq, Int.reduceBNe, Int.reduceEq, Bool.not_true, Bool.not_false, eq_self, reduceCtorEq]
      refine ⟨fun hlt => ⟨k - (x + 1), by omega, x + 1, by omega, rfl, by omega⟩, fun hge => .inl (by simp [midW])⟩
    | succ f =>
      have hwn : ((w.length : Int) < n) := by omega
      simp (config := {implicitDefEqProofs := false, maxSteps := 4000000}) (disch := omega) only [push_cast, c75, hwn, Nat.reduceAdd, Nat.reduceSub, Nat.reduceMul, Nat.reduceBEq, Int.reduceToNat, Int.reduceNeg, Int.reduceLE, Int.reduceLT, Int.reduceBEq, Int.reduceBNe, Int.reduceEq, Bool.not_true, Bool.not_false, eq_self, reduceCtorEq]
      refine ⟨fun hlt => ?_, fun hge => ?_⟩
      · have hlt : x < k := by omega
        refine ⟨⟨⟨by omega, by omega⟩, ?_⟩, ⟨⟨by omega, by omega⟩, ?_⟩, ?_⟩
        · have h1 := ih f (by omega) (w ++ [(x : Int)]) _ (by rw [List.length_append, List.length_singleton]; omega) (hY.at hlt)
          have e1 : (w ++ [(x : Int)]).isEmpty = false := by simp
          rw [e1] at h1
          refine lcallW_rel (GCall.pre [0] [1] h1 rfl rfl (by decide)) ?_
          rintro g1 R A O' ⟨⟨rfl, rfl⟩ | ⟨h2, rfl⟩, rfl, rfl⟩
          · simp (config := {implicitDefEqProofs := false, maxSteps := 4000000}) (disch := omega) only [push_cast, c75, hwn, Nat.reduceAdd, Nat.reduceSub, Nat.reduceMul, Nat.reduceBEq, Int.reduceToNat, Int.reduceNeg, Int.reduceLE, Int.reduceLT, Int.reduceBEq, Int.reduceBNe, Int.reduceEq, Bool.not_true, Bool.not_false, eq_self, reduceCtorEq]
            exact ⟨k - (x + 1), by omega, x + 1, by rw [midX_succ, List.length_append]; omega, by omega, rfl, by omega⟩
          · simp (config := {implicitDefEqProofs := false, maxSteps := 4000000}) (disch := omega) only [push_cast, c75, hwn, Nat.reduceAdd, Nat.reduceSub, Nat.reduceMul, Nat.reduceBEq, Int.reduceToNat, Int.reduceNeg, Int.reduceLE, Int.reduceLT, Int.reduceBEq, Int.reduceBNe, Int.reduceEq, Bool.not_true, Bool.not_false, eq_self, reduceCtorEq]
            exact .inr h2
        · have h1 := ih f (by omega) (w ++ [(x : Int)]) _ (by rw [List.length_append, List.length_singleton]; omega) (hY.at hlt)
          have e1 : (w ++ [(x : Int)]).isEmpty = false := by simp
          rw [e1] at h1
          refine lcallW_rel (GCall.pre [0] [1] h1 rfl rfl (by decide)) ?_
          rintro g1 R A O' ⟨⟨rfl, rfl⟩ | ⟨h2, rfl⟩, rfl, rfl⟩
          · simp (config := {implicitDefEqProofs := false, maxSteps := 4000000}) (disch := omega) only [push_cast, c75, hwn, Nat.reduceAdd, Nat.reduceSub, Nat.reduceMul, Nat.reduceBEq, Int.reduceToNat, Int.reduceNeg, Int.reduceLE, Int.reduceLT, Int.reduceBEq, Int.reduceBNe, Int.reduceEq, Bool.not_true, Bool.not_false, eq_self, reduceCtorEq]
            exact ⟨k - (x + 1), by omega, x + 1, by rw [midX_succ, List.length_append]; omega, by omega, rfl, by omega⟩
          · simp (config := {implicitDefEqProofs := false, maxSteps := 4000000}) (disch := omega) only [push_cast, c75, hwn, Nat.reduceAdd, Nat.reduceSub, Nat.reduceMul, Nat.reduceBEq, Int.reduceToNat, Int.reduceNeg, Int.reduceLE, Int.reduceLT, Int.reduceBEq, Int.reduceBNe, Int.reduceEq, Bool.not_true, Bool.not_false, eq_self, reduceCtorEq]
            exact .inr h2
        · refine ⟨⟨by omega, by omega⟩, ?_⟩
          have h1 := ih f (by omega) (w ++ [(x : Int)]) _ (by rw [List.length_append, List.length_singleton]; omega) (hY.at hlt)
          have e1 : (w ++ [(x : Int)]).isEmpty = false := by simp
          rw [e1] at h1
          refine lcallW_rel (GCall.pre [0] [1] h1 rfl rfl (by decide)) ?_
          rintro g1 R A O' ⟨⟨rfl, rfl⟩ | ⟨h2, rfl⟩, rfl, rfl⟩
          · simp (config := {implicitDefEqProofs := false, maxSteps := 4000000}) (disch := omega) only [push_cast, c75, hwn, Nat.reduceAdd, Nat.reduceSub, Nat.reduceMul, Nat.reduceBEq, Int.reduceToNat, Int.reduceNeg, Int.reduceLE, Int.reduceLT, Int.reduceBEq, Int.reduceBNe, Int.reduceEq, Bool.not_true, Bool.not_false, eq_self, reduceCtorEq]
            exact ⟨k - (x + 1), by omega, x + 1, by rw [midX_succ, List.length_append]; omega, by omega, rfl, by omega⟩
          · simp (config := {implicitDefEqProofs := false, maxSteps := 4000000}) (disch := omega) only [push_cast, c75, hwn, Nat.reduceAdd, Nat.reduceSub, Nat.reduceMul, Nat.reduceBEq, Int.reduceToNat, Int.reduceNeg, Int.reduceLE, Int.reduceLT, Int.reduceBEq, Int.reduceBNe, Int.reduceEq, Bool.not_true, Bool.not_false, eq_self, reduceCtorEq]
            exact .inr h2
      · have hxk : x = k := by omega
        subst hxk
        exact .inl (by rw [midW_succ, List.length_cons]; omega)
def xsM (k n : Nat) : List (List AV) := (midW k n []).map yArg
theorem xsM_yields (k n : Nat) : YieldsM (xsM k n) 0 (midW k n []) := fun j hj => by
  refine ⟨by simpa [xsM] using hj, ?_⟩
  simp only [xsM, Nat.zero_add, List.getElem_map]
  congr 1
  simp [List.getD, hj]
/- mizmaze/check.middles$1 -/
def c74 : VCfg := ⟨⟨[], [], [], [0, 1, 2, 3, 4]⟩, [], [75], [7]⟩
set_option maxHeartbeats 4000000 in
theorem f74 (k n l : Nat) (hk : k ≤ 6) (hn : n ≤ 10) :
    GCall Try.prog ⟨l, xsM k n⟩ 74 (false, 0) [.lit (.func (.yield l) #[] #[]), .fref [.int .i64 k], .fref [.int .i64 n]] [] (fun g' r A O => ((g' = (false, (midW k n []).length)) ∨ g'.1 = true) ∧ A.tail = [.fref [.int .i64 k], .fref [.int .i64 n]] ∧ O = []) := by
  have h0 := xsM_yields k n
  refine gcall_intro (tyP_ok _) c74 2000 [] [0, 1, 2] Try.func74 rfl (by rfl) rfl (by rfl) (by kernel_rfl) (by kernel_rfl) ?_
  unfold Try.f74
  simp (config := {implicitDefEqProofs := false, maxSteps := 4000000}) (disch := omega) only [push_cast, c74, Nat.reduceAdd, Nat.reduceSub, Nat.reduceMul, Nat.reduceBEq, Int.reduceToNat, Int.reduceNeg, Int.reduceLE, Int.reduceLT, Int.reduceBEq, Int.reduceBNe, Int.reduceEq, Bool.not_true, Bool.not_false, eq_self, reduceCtorEq]
  refine lcallW_rel (GCall.nilP 0 (.ints .i64 []) rfl rfl (f75 k n l (xsM k n) hk hn n [] 0 (by simp) h0)) ?_
  rintro g1 R A O' ⟨⟨rfl, rfl⟩ | ⟨h1, rfl⟩, rfl, rfl⟩
  · simp (config := {implicitDefEqProofs := false, maxSteps := 4000000}) (disch := omega) only [push_cast, c74, caps75, Nat.reduceAdd, Nat.reduceSub, Nat.reduceMul, Nat.reduceBEq, Int.reduceToNat, Int.reduceNeg, Int.reduceLE, Int.reduceLT, Int.reduceBEq, Int.reduceBNe, Int.reduceEq, Bool.not_true, Bool.not_false, eq_self, reduceCtorEq]
    exact .inl trivial
  · simp (config := {implicitDefEqProofs := false, maxSteps := 4000000}) (disch := omega) only [push_cast, c74, caps75, Nat.reduceAdd, Nat.reduceSub, Nat.reduceMul, Nat.reduceBEq, Int.reduceToNat, Int.reduceNeg, Int.reduceLE, Int.reduceLT, Int.reduceBEq, Int.reduceBNe, Int.reduceEq, Bool.not_true, Bool.not_false, eq_self, reduceCtorEq]
    exact .inr h1
/- mizmaze/check.middles -/
def c53 : VCfg := ⟨⟨[], [], [], [0, 1, 2, 3, 4]⟩, [], [], []⟩
theorem f53 (k n : Nat) : ACall Try.prog 53 [.int .i64 k, .int .i64 n] (fun r objs => r = .clo 74 [.fref [.int .i64 k], .fref [.int .i64 n]] ∧ objs = []) := by
  refine acall_intro (tyP_ok _) c53 2000 [.tmp 4] Try.func53 rfl (by rfl) rfl (by kernel_rfl) ?_
  unfold Try.f53
  simp (config := {implicitDefEqProofs := false, maxSteps := 4000000}) (disch := omega) only [push_cast, c53, Nat.reduceAdd, Nat.reduceSub, Nat.reduceMul, Nat.reduceBEq, Int.reduceToNat, Int.reduceNeg, Int.reduceLE, Int.reduceLT, Int.reduceBEq, Int.reduceBNe, Int.reduceEq, Bool.not_true, Bool.not_false, eq_self, reduceCtorEq]
end Go.AM
end
