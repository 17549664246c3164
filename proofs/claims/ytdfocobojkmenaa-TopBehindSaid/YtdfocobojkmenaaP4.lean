/-
  Plain facts on tries and the words of a suite; no program in sight.
-/
import Derived.Test.YtdfocobojkmenaaF2b
import Derived.Test.YtdfocobojkmenaaP3
set_option linter.unusedVariables false
set_option linter.unusedSimpArgs false
set_option linter.unusedSectionVars false
set_option linter.unnecessarySimpa false

/-! text PlTrie -/
section
namespace Go.AM
open Go
/-! tries as lists of words -/
structure WT (T : List TN) : Prop where
  nd : (T.map (·.path)).Nodup
  bd : (T.map (·.blk)).Nodup
  pc : ∀ q z, (lkT T (q ++ [z])).isSome = true → (lkT T q).isSome = true
  ltr : ∀ t ∈ T, ∀ x ∈ t.path, 0 ≤ x ∧ x < 6
  fin : ∃ D, ∀ t ∈ T, t.path.length ≤ D
theorem ndT_of {T : List TN} (h : (T.map (·.blk)).Nodup) {t : TN} (ht : t ∈ T) : ndT T t.blk = some t := by
  induction T with
  | nil => cases ht
  | cons a r ih =>
    rw [List.map_cons, List.nodup_cons] at h
    unfold ndT
    rcases List.mem_cons.1 ht with rfl | ht
    · simp
    · have : a.blk ≠ t.blk := fun e => h.1 (by rw [e]; exact List.mem_map_of_mem ht)
      rw [if_neg this]
      exact ih h.2 ht
theorem ndT_none {T : List TN} {b : Nat} (h : ndT T b = none) : ∀ t ∈ T, t.blk ≠ b := by
  induction T with
  | nil => exact fun t ht => by cases ht
  | cons a r ih =>
    unfold ndT at h
    split at h
    · cases h
    · rename_i hne
      intro t ht
      rcases List.mem_cons.1 ht with rfl | ht
      · exact hne
      · exact ih h t ht
/-- whether a word is marked -/
def mkT (T : List TN) (p : List Int) : Bool := match lkT T p with | some t => t.word | none => false
/-- whether a word is the way to a node -/
def dmT (T : List TN) (p : List Int) : Prop := (lkT T p).isSome = true
/-- nodes stay -/
def ExtT (T T' : List TN) : Prop := ∀ t ∈ T, t ∈ T'
theorem dmT_iff {T : List TN} (h : WT T) {p : List Int} : dmT T p ↔ ∃ t ∈ T, t.path = p := by
  unfold dmT
  constructor
  · intro hs
    obtain ⟨t, e⟩ := Option.isSome_iff_exists.1 hs
    obtain ⟨h1, h2⟩ := lkT_some e
    exact ⟨t, h1, h2⟩
  · rintro ⟨t, ht, rfl⟩
    rw [lkT_mem h.nd ht]; rfl
section
variable {T : List TN} {t : TN} {b x bk : Nat}
theorem chT_at (h : ndT T b = some t) : chT T b x = kidT T t.path x := by simp [chT, h]
theorem kidT_some {p : List Int} (h : kidT T p x = some bk) : ∃ u ∈ T, u.path = p ++ [(x : Int)] ∧ u.blk = bk := by
  unfold kidT at h
  cases e : lkT T (p ++ [(x : Int)]) with
  | none => rw [e] at h; cases h
  | some u =>
    rw [e] at h
    obtain ⟨h1, h2⟩ := lkT_some e
    exact ⟨u, h1, h2, by simpa using h⟩
theorem kidT_none {p : List Int} (h : kidT T p x = none) : ¬ dmT T (p ++ [(x : Int)]) := by
  unfold kidT at h
  unfold dmT
  cases e : lkT T (p ++ [(x : Int)]) with
  | none => simp
  | some u => rw [e] at h; cases h
/-- a node more -/
theorem addN_at (h : ndT T b = some t) : addN T b x bk = T ++ [⟨t.path ++ [(x : Int)], bk, false⟩] := by simp [addN, h]
theorem WT.add (hw : WT T) (h : ndT T b = some t) (hx : x < 6) (hn : kidT T t.path x = none) (hb : ndT T bk = none) : WT (addN T b x bk) := by
  rw [addN_at h]
  have ht := (ndT_mem h).1
  have hno : lkT T (t.path ++ [(x : Int)]) = none := by
    cases e : lkT T (t.path ++ [(x : Int)]) with
    | none => rfl
    | some u => exact absurd (show dmT T (t.path ++ [(x : Int)]) by unfold dmT; rw [e]; rfl) (kidT_none hn)
  refine ⟨?_, ?_, fun q z hq => ?_, fun u hu y hy => ?_, ?_⟩
  · rw [List.map_append, List.nodup_append]
    refine ⟨hw.nd, by simp, fun p hp p' hp' => ?_⟩
    obtain ⟨u, hu, rfl⟩ := List.mem_map.1 hp
    simp only [List.map_cons, List.map_nil, List.mem_singleton] at hp'
    rw [hp']
    exact lkT_none hno u hu
  · rw [List.map_append, List.nodup_append]
    refine ⟨hw.bd, by simp, fun p hp p' hp' => ?_⟩
    obtain ⟨u, hu, rfl⟩ := List.mem_map.1 hp
    simp only [List.map_cons, List.map_nil, List.mem_singleton] at hp'
    rw [hp']
    exact ndT_none hb u hu
  · rw [lkT_append] at hq ⊢
    cases hl : lkT T (q ++ [z]) with
    | some u =>
      have := hw.pc q z (by rw [hl]; rfl)
      obtain ⟨u', e⟩ := Option.isSome_iff_exists.1 this
      rw [e]; rfl
    | none =>
      rw [hl] at hq
      simp only at hq
      split at hq
      · rename_i e
        have e3 := List.append_inj' e rfl
        rw [← e3.1, lkT_mem hw.nd ht]; rfl
      · cases hq
  · rcases List.mem_append.1 hu with hu | hu
    · exact hw.ltr u hu y hy
    · simp only [List.mem_singleton] at hu
      subst hu
      rcases List.mem_append.1 hy with hy | hy
      · exact hw.ltr t ht y hy
      · simp at hy; omega
  · obtain ⟨D, hD⟩ := hw.fin
    refine ⟨D + 1, fun u hu => ?_⟩
    rcases List.mem_append.1 hu with hu | hu
    · have := hD u hu; omega
    · simp only [List.mem_singleton] at hu
      subst hu
      have := hD t ht
      simp; omega
theorem ExtT.add : ExtT T (addN T b x bk) := fun u hu => by
  unfold addN
  split
  · simp [hu]
  · exact hu
theorem mkT_add (h : ndT T b = some t) (p : List Int) : mkT (addN T b x bk) p = mkT T p := by
  rw [addN_at h]
  unfold mkT
  rw [lkT_append]
  cases lkT T p with
  | some u => rfl
  | none =>
    simp only []
    by_cases e : t.path ++ [(x : Int)] = p
    · rw [if_pos e]
    · rw [if_neg e]
theorem nd_add (hw : WT (addN T b x bk)) (h : ndT T b = some t) : ndT (addN T b x bk) bk = some ⟨t.path ++ [(x : Int)], bk, false⟩ := by
  have := ndT_of hw.bd (t := ⟨t.path ++ [(x : Int)], bk, false⟩) (by rw [addN_at h]; simp)
  exact this
theorem ExtT.nd {T' : List TN} (hw : WT T') (he : ExtT T T') (h : ndT T b = some t) : ndT T' b = some t := by
  obtain ⟨h1, h2⟩ := ndT_mem h
  have := ndT_of hw.bd (he t h1)
  rw [h2] at this; exact this
/-- a mark more -/
theorem WT.set (hw : WT T) (b : Nat) (v : Bool) : WT (setW T b v) := by
  refine ⟨by rw [setW_paths]; exact hw.nd, ?_, fun q z hq => ?_, fun u hu y hy => ?_, ?_⟩
  · have : (setW T b v).map (·.blk) = T.map (·.blk) := by
      unfold setW
      rw [List.map_map]
      refine List.map_congr_left fun t _ => ?_
      simp only [Function.comp]
      split <;> rfl
    rw [this]; exact hw.bd
  · rw [lkT_setW, Option.isSome_map] at hq ⊢
    exact hw.pc q z hq
  · obtain ⟨t, ht, rfl⟩ := List.mem_map.1 hu
    refine hw.ltr t ht y ?_
    split at hy <;> exact hy
  · obtain ⟨D, hD⟩ := hw.fin
    refine ⟨D, fun u hu => ?_⟩
    obtain ⟨t, ht, rfl⟩ := List.mem_map.1 hu
    have := hD t ht
    split <;> exact this
theorem mkT_set (hw : WT T) (h : ndT T b = some t) (p : List Int) : mkT (setW T b true) p = (mkT T p || decide (p = t.path)) := by
  obtain ⟨h1, h2⟩ := ndT_mem h
  unfold mkT
  rw [lkT_setW]
  cases e : lkT T p with
  | none =>
    have : p ≠ t.path := fun e2 => by rw [e2, lkT_mem hw.nd h1] at e; cases e
    simp [this]
  | some u =>
    obtain ⟨h3, h4⟩ := lkT_some e
    simp only [Option.map_some]
    by_cases hb : u.blk = b
    · have : u = t := by
        have e1 := ndT_of hw.bd h3
        rw [hb, h] at e1
        exact (Option.some.inj e1).symm
      subst this
      simp [hb, ← h4]
    · have : p ≠ t.path := fun e2 => by
        rw [e2, lkT_mem hw.nd h1] at e
        cases e
        exact hb h2
      simp [hb, this]
end
/-- the marked words below a node, in order -/
def dfsT (T : List TN) : Nat → List Int → List (List Int)
  | 0, u => if mkT T u = true then [u] else []
  | f + 1, u => (if mkT T u = true then [u] else []) ++ (List.range 6).flatMap fun x : Nat => if (lkT T (u ++ [(x : Int)])).isSome = true then dfsT T f (u ++ [(x : Int)]) else []
theorem dm_pre {T : List TN} (hw : WT T) {u : List Int} : ∀ {v : List Int}, dmT T (u ++ v) → dmT T u := by
  intro v
  generalize hn : v.length = n
  induction n generalizing v with
  | zero =>
    have : v = [] := List.length_eq_zero_iff.1 hn
    subst this; simp
  | succ n ih =>
    intro h
    obtain ⟨v', y, rfl⟩ : ∃ v' y, v = v' ++ [y] := ⟨v.dropLast, v.getLast (fun e => by simp [e] at hn), (List.dropLast_concat_getLast _).symm⟩
    rw [← List.append_assoc] at h
    exact ih (by simp at hn; omega) (hw.pc _ _ h)
theorem mk_dm {T : List TN} {p : List Int} (h : mkT T p = true) : dmT T p := by
  unfold mkT at h
  unfold dmT
  cases e : lkT T p with
  | none => rw [e] at h; cases h
  | some t => rfl
theorem mem_dfs {T : List TN} (hw : WT T) {D : Nat} (hD : ∀ t ∈ T, t.path.length ≤ D) : ∀ (f : Nat) (u : List Int), D ≤ u.length + f → ∀ p, p ∈ dfsT T f u ↔ mkT T p = true ∧ ∃ v, p = u ++ v
  | 0, u, hf, p => by
    unfold dfsT
    constructor
    · intro h
      split at h
      · simp only [List.mem_singleton] at h; subst h; exact ⟨by assumption, [], by simp⟩
      · cases h
    · rintro ⟨h, v, rfl⟩
      obtain ⟨t, ht, e⟩ := (dmT_iff hw).1 (mk_dm h)
      have := hD t ht
      rw [e, List.length_append] at this
      have : v = [] := List.length_eq_zero_iff.1 (by omega)
      subst this
      rw [List.append_nil] at h ⊢
      rw [if_pos h]; simp
  | f + 1, u, hf, p => by
    unfold dfsT
    rw [List.mem_append, List.mem_flatMap]
    constructor
    · rintro (h | ⟨x, hx, h⟩)
      · split at h
        · simp only [List.mem_singleton] at h; subst h; exact ⟨by assumption, [], by simp⟩
        · cases h
      · split at h
        · obtain ⟨h1, v, rfl⟩ := (mem_dfs hw hD f _ (by simp; omega) p).1 h
          exact ⟨h1, x :: v, by simp⟩
        · cases h
    · rintro ⟨h, v, rfl⟩
      cases v with
      | nil =>
        left
        rw [List.append_nil] at h ⊢
        rw [if_pos h]; simp
      | cons y v =>
        right
        have hd := mk_dm h
        have e : u ++ y :: v = (u ++ [y]) ++ v := by simp
        rw [e] at hd h ⊢
        have hd2 := dm_pre hw hd
        obtain ⟨t, ht, et⟩ := (dmT_iff hw).1 hd2
        have hy := hw.ltr t ht y (by rw [et]; simp)
        refine ⟨y.toNat, by simp; omega, ?_⟩
        have ey : ((y.toNat : Nat) : Int) = y := by omega
        rw [ey, if_pos (show (lkT T (u ++ [y])).isSome = true from hd2)]
        exact (mem_dfs hw hD f _ (by simp; omega) _).2 ⟨h, v, rfl⟩
theorem befB_app (u : List Int) : ∀ (v w : List Int), befB (u ++ v) (u ++ w) = befB v w := by
  intro v w
  induction u with
  | nil => rfl
  | cons a u ih => simp only [List.cons_append, befB, if_true]; exact ih
theorem befB_ext (u : List Int) (x : Int) (v : List Int) : befB u (u ++ x :: v) = true := by
  have := befB_app u [] (x :: v)
  rw [List.append_nil] at this
  rw [this]; rfl
theorem dfs_ss {T : List TN} (hw : WT T) {D : Nat} (hD : ∀ t ∈ T, t.path.length ≤ D) : ∀ (f : Nat) (u : List Int), D ≤ u.length + f → SS (dfsT T f u)
  | 0, u, hf => by
    unfold dfsT
    split <;> simp
  | f + 1, u, hf => by
    unfold dfsT
    refine List.pairwise_append.2 ⟨by split <;> simp, ?_, fun p hp q hq => ?_⟩
    · rw [List.pairwise_flatMap]
      refine ⟨fun x hx => ?_, ?_⟩
      · split
        · exact dfs_ss hw hD f _ (by simp; omega)
        · exact .nil
      · refine List.pairwise_lt_range.imp ?_
        intro x y hxy p hp q hq
        split at hp
        · split at hq
          · obtain ⟨_, v, rfl⟩ := (mem_dfs hw hD f _ (by simp; omega) p).1 hp
            obtain ⟨_, v', rfl⟩ := (mem_dfs hw hD f _ (by simp; omega) q).1 hq
            rw [List.append_assoc, List.append_assoc, befB_app]
            have : ¬ (x : Int) = (y : Int) := by omega
            simp only [List.singleton_append, befB, if_neg this]
            exact decide_eq_true (by omega)
          · cases hq
        · cases hp
    · split at hp
      · simp only [List.mem_singleton] at hp
        subst hp
        obtain ⟨x, _, hq⟩ := List.mem_flatMap.1 hq
        split at hq
        · obtain ⟨_, v, rfl⟩ := (mem_dfs hw hD f _ (by simp; omega) q).1 hq
          rw [List.append_assoc]
          exact befB_ext _ _ _
        · cases hq
      · cases hp
end Go.AM
end

/-! text PlSuite -/
section
namespace Go.AM
open Go
theorem insW_new {x : List Int} : ∀ {l : List (List Int)}, x ∉ l → (insW x l).length = l.length + 1
  | [], _ => rfl
  | y :: r, h => by
    have h1 : ¬ x = y := fun e => h (by simp [e])
    have h2 : x ∉ r := fun e => h (by simp [e])
    unfold insW
    split
    · simp
    · rw [List.length_cons, insW_new h2, List.length_cons]
/-- how many words there are, each counted once -/
def cntW (l : List (List Int)) : Nat := (onceL l).length
theorem once_snoc (l : List (List Int)) (p : List Int) : onceL (l ++ [p]) = insW p (onceL l) := by
  refine (onceL_eq (insW_ss (onceL_ss l)) fun x => ?_).symm
  rw [mem_insW, mem_onceL, List.mem_append, List.mem_singleton]
  exact Or.comm
theorem cntW_new {l : List (List Int)} {p : List Int} (h : p ∉ l) : cntW (l ++ [p]) = cntW l + 1 := by
  unfold cntW
  rw [once_snoc, insW_new (by rw [mem_onceL]; exact h)]
theorem cntW_old {l : List (List Int)} {p : List Int} (h : p ∈ l) : cntW (l ++ [p]) = cntW l := by
  unfold cntW
  rw [onceL_congr (l := l ++ [p]) (m := l) fun x => ?_]
  rw [List.mem_append, List.mem_singleton]
  constructor
  · rintro (h1 | rfl)
    · exact h1
    · exact h
  · exact .inl
theorem cntW_mono (l : List (List Int)) : ∀ m : List (List Int), cntW l ≤ cntW (l ++ m) := by
  intro m
  induction m generalizing l with
  | nil => simp
  | cons p m ih =>
    have e : l ++ p :: m = (l ++ [p]) ++ m := by simp
    rw [e]
    refine Nat.le_trans ?_ (ih (l ++ [p]))
    by_cases h : p ∈ l
    · rw [cntW_old h]; exact Nat.le_refl _
    · rw [cntW_new h]; omega
theorem cntW_le (l : List (List Int)) : cntW l ≤ l.length := onceL_length_le l
/-! the words of a suite, as they are met -/
def wE (u v : List Int) (E : List (List Int)) : List (List Int) := E.map fun w => u ++ v ++ w
def wM (u : List Int) (M E : List (List Int)) : List (List Int) := M.flatMap fun v => wE u v E
def wB (B M E : List (List Int)) : List (List Int) := B.flatMap fun u => wM u M E
theorem wE_take {u v : List Int} {E : List (List Int)} {e : Nat} (h : e < E.length) : wE u v (E.take (e + 1)) = wE u v (E.take e) ++ [u ++ v ++ E.getD e []] := by
  have e1 : E.getD e [] = E[e] := by simp [List.getD, h]
  rw [List.take_succ_eq_append_getElem h, e1]
  simp only [wE, List.map_append, List.map_cons, List.map_nil]
theorem wM_take {u : List Int} {M E : List (List Int)} {j : Nat} (h : j < M.length) : wM u (M.take (j + 1)) E = wM u (M.take j) E ++ wE u (M.getD j []) E := by
  have e1 : M.getD j [] = M[j] := by simp [List.getD, h]
  rw [List.take_succ_eq_append_getElem h, e1]
  simp only [wM, List.flatMap_append, List.flatMap_cons, List.flatMap_nil, List.append_nil]
theorem wB_take {B M E : List (List Int)} {i : Nat} (h : i < B.length) : wB (B.take (i + 1)) M E = wB (B.take i) M E ++ wM (B.getD i []) M E := by
  have e1 : B.getD i [] = B[i] := by simp [List.getD, h]
  rw [List.take_succ_eq_append_getElem h, e1]
  simp only [wB, List.flatMap_append, List.flatMap_cons, List.flatMap_nil, List.append_nil]
theorem mem_wB {B M E : List (List Int)} {p : List Int} : p ∈ wB B M E ↔ ∃ u ∈ B, ∃ v ∈ M, ∃ w ∈ E, p = u ++ v ++ w := by
  simp only [wB, wM, wE, List.mem_flatMap, List.mem_map]
  constructor
  · rintro ⟨u, hu, v, hv, w, hw, rfl⟩; exact ⟨u, hu, v, hv, w, hw, rfl⟩
  · rintro ⟨u, hu, v, hv, w, hw, rfl⟩; exact ⟨u, hu, v, hv, w, hw, rfl⟩
theorem wE_pre (u v : List Int) (E : List (List Int)) (e : Nat) : ∃ r, wE u v E = wE u v (E.take e) ++ r := ⟨wE u v (E.drop e), by simp only [wE, ← List.map_append, List.take_append_drop]⟩
theorem wM_pre (u : List Int) (M E : List (List Int)) (j : Nat) : ∃ r, wM u M E = wM u (M.take j) E ++ r := ⟨wM u (M.drop j) E, by simp only [wM, ← List.flatMap_append, List.take_append_drop]⟩
theorem wB_pre (B M E : List (List Int)) (i : Nat) : ∃ r, wB B M E = wB (B.take i) M E ++ r := ⟨wB (B.drop i) M E, by simp only [wB, ← List.flatMap_append, List.take_append_drop]⟩
/-- what has been met so far is no more than all -/
theorem met_le {B M E : List (List Int)} {i j e : Nat} (hi : i < B.length) (hj : j < M.length) : cntW (wB (B.take i) M E ++ wM (B.getD i []) (M.take j) E ++ wE (B.getD i []) (M.getD j []) (E.take e)) ≤ cntW (wB B M E) := by
  obtain ⟨r1, h1⟩ := wE_pre (B.getD i []) (M.getD j []) E e
  obtain ⟨r2, h2⟩ := wM_pre (B.getD i []) M E (j + 1)
  obtain ⟨r3, h3⟩ := wB_pre B M E (i + 1)
  rw [h3, wB_take hi, h2, wM_take hj, h1]
  have e : wB (B.take i) M E ++ (wM (B.getD i []) (M.take j) E ++ (wE (B.getD i []) (M.getD j []) (E.take e) ++ r1) ++ r2) ++ r3 = (wB (B.take i) M E ++ wM (B.getD i []) (M.take j) E ++ wE (B.getD i []) (M.getD j []) (E.take e)) ++ (r1 ++ r2 ++ r3) := by simp [List.append_assoc]
  rw [e]
  exact cntW_mono _ _
/-! a trie that holds words -/
structure TrS (T : List TN) (b0 : Nat) (W : List (List Int)) : Prop where
  wt : WT T
  root : ∃ t, ndT T b0 = some t ∧ t.path = []
  mrk : ∀ p, mkT T p = decide (p ∈ W)
  dep : ∀ s ∈ T, s.path.length ≤ 10000
theorem ndT_setW {T : List TN} {b b' : Nat} {v : Bool} {t : TN} (h : ndT T b' = some t) : ∃ t', ndT (setW T b v) b' = some t' ∧ t'.path = t.path := by
  induction T with
  | nil => cases h
  | cons a r ih =>
    have e : setW (a :: r) b v = (if a.blk = b then { a with word := v } else a) :: setW r b v := rfl
    rw [e]
    unfold ndT at h ⊢
    have e2 : (if a.blk = b then { a with word := v } else a : TN).blk = a.blk := by split <;> rfl
    rw [e2]
    split at h
    · rename_i hb
      cases h
      rw [if_pos hb]
      exact ⟨_, rfl, by split <;> rfl⟩
    · rename_i hb
      rw [if_neg hb]
      exact ih h
theorem TrS.mark {T : List TN} {b0 b : Nat} {W : List (List Int)} {t : TN} (h : TrS T b0 W) (ht : ndT T b = some t) : TrS (setW T b true) b0 (W ++ [t.path]) := by
  refine ⟨h.wt.set b true, ?_, fun p => ?_, fun s hs => ?_⟩
  · obtain ⟨r, h1, h2⟩ := h.root
    obtain ⟨r', h3, h4⟩ := ndT_setW (b := b) (v := true) h1
    exact ⟨r', h3, h4.trans h2⟩
  · rw [mkT_set h.wt ht p, h.mrk p]
    rw [Bool.eq_iff_iff]
    simp [List.mem_append]
  · obtain ⟨u, hu, rfl⟩ := List.mem_map.1 hs
    have := h.dep u hu
    split <;> exact this
theorem TrS.same {T : List TN} {b0 : Nat} {W : List (List Int)} {p : List Int} (h : TrS T b0 W) (hp : p ∈ W) : TrS T b0 (W ++ [p]) := by
  refine ⟨h.wt, h.root, fun q => ?_, h.dep⟩
  rw [h.mrk q, decide_eq_decide, List.mem_append, List.mem_singleton]
  constructor
  · exact .inl
  · rintro (h1 | rfl)
    · exact h1
    · exact hp
theorem wordT_at {T : List TN} {b0 b : Nat} {W : List (List Int)} {t : TN} (h : TrS T b0 W) (ht : ndT T b = some t) : wordT T b = decide (t.path ∈ W) := by
  rw [← h.mrk]
  unfold wordT mkT
  rw [ht, lkT_mem h.wt.nd (ndT_mem ht).1]
theorem TrS.dfs {T : List TN} {b0 f : Nat} {W : List (List Int)} (h : TrS T b0 W) (hf : 10000 ≤ f) : dfsT T f [] = onceL W := by
  refine onceL_eq (dfs_ss h.wt h.dep f [] (by simpa using hf)) fun x => ?_
  rw [mem_dfs h.wt h.dep f [] (by simpa using hf), h.mrk, decide_eq_true_eq]
  constructor
  · exact fun h => h.1
  · exact fun h => ⟨h, x, by simp⟩
end Go.AM
end

/-! text PlSuit2 -/
section
namespace Go.AM
open Go
theorem TrS.init (b0 : Nat) : TrS [⟨[], b0, false⟩] b0 [] := by
  refine ⟨⟨by simp, by simp, fun q z h => ?_, fun t ht x hx => ?_, ⟨0, fun t ht => ?_⟩⟩, ⟨⟨[], b0, false⟩, by simp [ndT], rfl⟩, fun p => ?_, fun s hs => ?_⟩
  · exfalso
    simp [lkT] at h
  · simp only [List.mem_singleton] at ht
    subst ht; cases hx
  · simp only [List.mem_singleton] at ht
    subst ht; simp
  · unfold mkT
    simp only [lkT]
    by_cases h : [] = p <;> simp [h]
  · simp only [List.mem_singleton] at hs
    subst hs; simp
theorem BInv.lets {σ : Type} [DecidableEq σ] {δ : σ → Nat → σ} {s : σ} {k i x : Nat} {q : List σ × Stp} (h : BInv δ s k i x q) : ∀ m, m < q.1.length → ∀ z ∈ wordOf q.2 m, 0 ≤ z ∧ z < k := by
  intro m
  induction m using Nat.strongRecOn with
  | _ m ih =>
    intro hm
    rcases h.word hm with ⟨rfl, e⟩ | ⟨j, y, h1, h2, _, _, e⟩
    · rw [e]; simp
    · rw [e]
      intro z hz
      rcases List.mem_append.1 hz with hz | hz
      · exact ih j h1 (by omega) z hz
      · simp only [List.mem_singleton] at hz; omega
theorem TellR.lets {N O M Q : List (List Int)} {x y : Int} {k : Nat} {w : List Int} {ok : Bool} (h : TellR N O M Q x y k w ok) : ∀ z ∈ w, 0 ≤ z ∧ z < k := by
  have hb : BInv (dltP N M) (x, y) k (N.length * M.length) 0 (finP N M x y k) := bfs_inv _
  rcases h with ⟨i, c, h1, h2, _, _, _, rfl, _⟩ | ⟨_, rfl, _⟩
  · intro z hz
    rcases List.mem_append.1 hz with hz | hz
    · exact hb.lets i h1 z hz
    · simp only [List.mem_singleton] at hz; omega
  · simp
theorem tellW_lets {N O : List (List Int)} {k : Nat} {x y : Int} : ∀ z ∈ tellW N O k x y, 0 ≤ z ∧ z < k := by
  unfold tellW
  split
  · rename_i h
    obtain ⟨ok', h'⟩ := h.choose_spec
    exact h'.lets
  · simp
theorem telL_mem {N O : List (List Int)} {k : Nat} (hV : VM N O k) {w : List Int} (h : w ∈ telL N O k) : (∀ z ∈ w, 0 ≤ z ∧ z < k) ∧ w.length ≤ 3600 := by
  unfold telL at h
  split at h
  · simp only [List.mem_singleton] at h
    subst h; simp
  · rw [mem_onceL] at h
    have h1 := tws_sm hV (y := N.length) (x := 0) (Nat.le_refl _) (Nat.zero_le _) (.inl rfl) w h
    obtain ⟨p, _, rfl⟩ := List.mem_map.1 h
    exact ⟨tellW_lets, h1⟩
theorem telL_len {N O : List (List Int)} {k : Nat} (hV : VM N O k) : (telL N O k).length ≤ 3600 := by
  unfold telL
  split
  · simp
  · refine Nat.le_trans (onceL_length_le _) ?_
    rw [tws_len]
    have := prs_len N.length 0 hV.v.n2 (by omega)
    have := hV.v.n2
    omega
theorem covL_mem {N O : List (List Int)} {k : Nat} (hV : VM N O k) (h : allC N k = true) {w : List Int} (hw : w ∈ covL N k) : (∀ z ∈ w, 0 ≤ z ∧ z < k) ∧ w.length ≤ 60 := by
  have h1 := (cov_done hV).inv
  refine ⟨?_, ?_⟩
  · obtain ⟨t, ht, rfl⟩ := List.getElem_of_mem hw
    have ht' := ht
    rw [cov_len] at ht'
    have h4 := (cov_spec hV h (t := (t : Int)) ⟨by omega, by omega⟩).2
    have e : (covL N k).getD (t : Int).toNat [] = (covL N k)[t] := by simp [List.getD, ht]
    rw [e] at h4
    exact h4
  · have h2 := cvO_short hV h1 hw
    have h3 : (finN N k 0).1.length = N.length := by simpa [allC] using h
    have := hV.v.n2
    omega
end Go.AM
end
