/-
  Plain facts on the order of words, the words of a cover and the words that tell states apart; no program in sight.
-/
import Derived.Test.YtdfocobojkmenaaP2
set_option linter.unusedVariables false
set_option linter.unusedSimpArgs false
set_option linter.unusedSectionVars false
set_option linter.unnecessarySimpa false

/-! text PlRows -/
section
namespace Go.AM
open Go
/-! the order of words -/
theorem befB_irrefl : ∀ x : List Int, befB x x = false
  | [] => rfl
  | a :: x => by simp [befB, befB_irrefl x]
theorem befB_trans : ∀ {x y z : List Int}, befB x y = true → befB y z = true → befB x z = true
  | [], [], _, h, _ => by simp [befB] at h
  | [], _ :: _, [], _, h => by simp [befB] at h
  | [], _ :: _, _ :: _, _, _ => rfl
  | _ :: _, [], _, h, _ => by simp [befB] at h
  | _ :: _, _ :: _, [], _, h => by simp [befB] at h
  | a :: x, b :: y, c :: z, h, h' => by
    simp only [befB] at h h' ⊢
    by_cases e1 : a = b
    · subst e1
      by_cases e2 : a = c
      · subst e2; simp only [if_true] at *; exact befB_trans h h'
      · simp only [if_true, if_neg e2] at *; exact h'
    · by_cases e2 : b = c
      · subst e2; simp only [if_true, if_neg e1] at *; exact h
      · simp only [if_neg e1, if_neg e2, decide_eq_true_eq] at h h'
        have : a ≠ c := by omega
        simp only [if_neg this, decide_eq_true_eq]; omega
theorem befB_tri : ∀ x y : List Int, befB x y = true ∨ x = y ∨ befB y x = true
  | [], [] => .inr (.inl rfl)
  | [], _ :: _ => .inl rfl
  | _ :: _, [] => .inr (.inr rfl)
  | a :: x, b :: y => by
    simp only [befB]
    by_cases e : a = b
    · subst e
      simp only [if_true]
      rcases befB_tri x y with h | h | h
      · exact .inl h
      · exact .inr (.inl (by rw [h]))
      · exact .inr (.inr h)
    · simp only [if_neg e, if_neg (Ne.symm e), decide_eq_true_eq]
      omega
theorem befB_asymm {x y : List Int} (h : befB x y = true) : befB y x = false := by
  cases e : befB y x with
  | false => rfl
  | true => have := befB_trans h e; rw [befB_irrefl] at this; cases this
/-- what comparing two words gives -/
def cmpL (x y : List Int) : Int := if befB x y = true then -1 else if x = y then 0 else 1
theorem cmpL_lt {x y : List Int} : cmpL x y < 0 ↔ befB x y = true := by
  unfold cmpL
  split
  · simp [*]
  · split <;> simp [*, befB_irrefl]
theorem cmpL_eq {x y : List Int} {i : Nat} (h : ∀ j, j < i → x.getD j 0 = y.getD j 0) (h1 : i < x.length) (h2 : i < y.length) (hne : ¬ x.getD i 0 = y.getD i 0) : cmpL x y = if x.getD i 0 < y.getD i 0 then -1 else 1 := by
  unfold cmpL
  have hxy : x ≠ y := fun e => hne (by rw [e])
  rw [befB_ne h h1 h2 hne, if_neg hxy]
  simp
theorem cmpL_end {x y : List Int} {i : Nat} (h : ∀ j, j < i → x.getD j 0 = y.getD j 0) (h1 : i ≤ x.length) (h2 : i ≤ y.length) (he : x.length ≤ i ∨ y.length ≤ i) : cmpL x y = if x.length < y.length then -1 else if x.length = y.length then 0 else 1 := by
  unfold cmpL
  rw [befB_end h h1 h2 he]
  by_cases hl : x.length < y.length
  · simp [hl]
  · by_cases hl2 : x.length = y.length
    · have : x = y := by
        refine List.ext_getElem hl2 fun j a b => ?_
        have := h j (by omega)
        simpa [List.getD, a, b] using this
      simp [hl, hl2, this]
    · have : x ≠ y := fun e => hl2 (by rw [e])
      simp [hl, hl2, this]
/-! strictly sorted lists of words -/
abbrev SS (l : List (List Int)) : Prop := l.Pairwise (fun x y => befB x y = true)
theorem SS.ext : ∀ {l m : List (List Int)}, SS l → SS m → (∀ x, x ∈ l ↔ x ∈ m) → l = m
  | [], [], _, _, _ => rfl
  | [], y :: m, _, _, h => absurd ((h y).2 (by simp)) (by simp)
  | x :: l, [], _, _, h => absurd ((h x).1 (by simp)) (by simp)
  | x :: l, y :: m, hl, hm, h => by
    obtain ⟨h1, h2⟩ := List.pairwise_cons.1 hl
    obtain ⟨h3, h4⟩ := List.pairwise_cons.1 hm
    have e : x = y := by
      have a := (h x).1 (by simp)
      have b := (h y).2 (by simp)
      rcases List.mem_cons.1 a with a | a
      · exact a
      · rcases List.mem_cons.1 b with b | b
        · exact b.symm
        · have := befB_trans (h3 x a) (h1 y b)
          rw [befB_irrefl] at this; cases this
    subst e
    rw [SS.ext h2 h4 fun z => ?_]
    constructor
    · intro hz
      rcases List.mem_cons.1 ((h z).1 (by simp [hz])) with e | e
      · have := h1 z hz; rw [e, befB_irrefl] at this; cases this
      · exact e
    · intro hz
      rcases List.mem_cons.1 ((h z).2 (by simp [hz])) with e | e
      · have := h3 z hz; rw [e, befB_irrefl] at this; cases this
      · exact e
/-- a word more, in order -/
def insW (x : List Int) : List (List Int) → List (List Int)
  | [] => [x]
  | y :: r => if befB x y = true then x :: y :: r else if x = y then y :: r else y :: insW x r
theorem mem_insW {x z : List Int} : ∀ {l : List (List Int)}, z ∈ insW x l ↔ z = x ∨ z ∈ l
  | [] => by simp [insW]
  | y :: r => by
    unfold insW
    split
    · simp
    · split
      · rename_i h; subst h; simp
      · simp only [List.mem_cons, mem_insW (l := r)]
        constructor
        · rintro (h | h | h) <;> simp [h]
        · rintro (h | h | h) <;> simp [h]
theorem insW_ss {x : List Int} : ∀ {l : List (List Int)}, SS l → SS (insW x l)
  | [], _ => by simp [insW]
  | y :: r, h => by
    unfold insW
    obtain ⟨h1, h2⟩ := List.pairwise_cons.1 h
    split
    · rename_i hxy
      refine List.pairwise_cons.2 ⟨fun z hz => ?_, h⟩
      rcases List.mem_cons.1 hz with e | e
      · rw [e]; exact hxy
      · exact befB_trans hxy (h1 z e)
    · split
      · exact h
      · rename_i ha hb
        refine List.pairwise_cons.2 ⟨fun z hz => ?_, insW_ss h2⟩
        rcases mem_insW.1 hz with e | e
        · rw [e]
          rcases befB_tri x y with g | g | g
          · exact absurd g ha
          · exact absurd g hb
          · exact g
        · exact h1 z e
/-- words in order, each once -/
def onceL : List (List Int) → List (List Int)
  | [] => []
  | x :: r => insW x (onceL r)
theorem mem_onceL {z : List Int} : ∀ {l : List (List Int)}, z ∈ onceL l ↔ z ∈ l
  | [] => Iff.rfl
  | x :: r => by rw [onceL, mem_insW, mem_onceL, List.mem_cons]
theorem onceL_ss : ∀ (l : List (List Int)), SS (onceL l)
  | [] => List.Pairwise.nil
  | x :: r => insW_ss (onceL_ss r)
theorem onceL_eq {l m : List (List Int)} (h : SS m) (hm : ∀ x, x ∈ m ↔ x ∈ l) : m = onceL l := h.ext (onceL_ss l) fun x => (hm x).trans mem_onceL.symm
theorem onceL_congr {l m : List (List Int)} (h : ∀ x, x ∈ l ↔ x ∈ m) : onceL l = onceL m := onceL_eq (onceL_ss l) fun x => mem_onceL.trans (h x)
theorem onceL_length_le : ∀ (l : List (List Int)), (onceL l).length ≤ l.length
  | [] => Nat.le_refl _
  | x :: r => by
    have h : ∀ (y : List Int) (m : List (List Int)), (insW y m).length ≤ m.length + 1 := fun y m => by
      induction m with
      | nil => simp [insW]
      | cons a b ih =>
        unfold insW
        split
        · simp
        · split
          · simp
          · simp; omega
    have := h x (onceL r)
    have := onceL_length_le r
    simp only [onceL, List.length_cons]; omega
/-- neighbours that are equal are taken once -/
def keptR (l : List (List Int)) (j : Nat) : Bool := decide (j = 0 ∨ l.getD j [] ≠ l.getD (j - 1) [])
def compR (l : List (List Int)) : List (List Int) := ((List.range l.length).filter (keptR l)).map (l.getD · [])
theorem compR_once {l : List (List Int)} (h : l.Pairwise (fun x y => befB y x = false)) : compR l = onceL l := by
  have mono : ∀ a b, a < b → b < l.length → befB (l.getD b []) (l.getD a []) = false := fun a b hab hb => by
    have := List.pairwise_iff_getElem.1 h a b (by omega) hb hab
    simpa [List.getD, hb, show a < l.length by omega] using this
  refine onceL_eq ?_ fun x => ?_
  · show (compR l).Pairwise _
    unfold compR
    rw [List.pairwise_map, List.pairwise_filter]
    refine List.Pairwise.imp_of_mem ?_ List.pairwise_lt_range
    intro i j hi hj hij ki kj
    have hj' : j < l.length := by simpa using hj
    simp only [keptR, decide_eq_true_eq] at kj
    rcases kj with rfl | kj
    · omega
    have h1 := mono (j - 1) j (by omega) hj'
    have h2 : befB (l.getD (j - 1) []) (l.getD j []) = true := by
      rcases befB_tri (l.getD (j - 1) []) (l.getD j []) with g | g | g
      · exact g
      · exact absurd g.symm kj
      · rw [h1] at g; cases g
    by_cases e : i = j - 1
    · rw [e]; exact h2
    · have h3 := mono i (j - 1) (by omega) (by omega)
      rcases befB_tri (l.getD i []) (l.getD (j - 1) []) with g | g | g
      · exact befB_trans g h2
      · rw [g]; exact h2
      · rw [h3] at g; cases g
  · unfold compR
    simp only [List.mem_map, List.mem_filter, List.mem_range, keptR, decide_eq_true_eq]
    constructor
    · rintro ⟨j, ⟨h1, _⟩, rfl⟩
      simp [List.getD, h1]
    · intro hx
      obtain ⟨j, hj, hx⟩ := List.getElem_of_mem hx
      have hx : l.getD j [] = x := by simpa [List.getD, hj] using hx
      have key : ∀ j, j < l.length → ∃ i, i < l.length ∧ (i = 0 ∨ l.getD i [] ≠ l.getD (i - 1) []) ∧ l.getD i [] = l.getD j [] := by
        intro j
        induction j with
        | zero => exact fun h => ⟨0, h, .inl rfl, rfl⟩
        | succ j ih =>
          intro hj
          by_cases e : l.getD (j + 1) [] = l.getD j []
          · obtain ⟨i, a, b, c⟩ := ih (by omega)
            exact ⟨i, a, b, c.trans e.symm⟩
          · exact ⟨j + 1, hj, .inr (by simpa using e), rfl⟩
      obtain ⟨i, a, b, c⟩ := key j hj
      exact ⟨i, ⟨a, b⟩, c.trans hx⟩
end Go.AM
namespace Go.AM
open Go
/-- of the first m words those that are kept -/
def kpR (l : List (List Int)) (m : Nat) : List (List Int) := ((List.range m).filter (keptR l)).map (l.getD · [])
theorem kpR_all (l : List (List Int)) : kpR l l.length = compR l := rfl
theorem kpR_succ (l : List (List Int)) (m : Nat) : kpR l (m + 1) = kpR l m ++ (if keptR l m = true then [l.getD m []] else []) := by
  unfold kpR
  rw [List.range_succ, List.filter_append, List.map_append]
  congr 1
  by_cases h : keptR l m = true <;> simp [h]
theorem kpR_len (l : List (List Int)) : ∀ m, (kpR l m).length ≤ m
  | 0 => by simp [kpR]
  | m + 1 => by
    rw [kpR_succ, List.length_append]
    have := kpR_len l m
    split <;> simp <;> omega
theorem kpR_take {l : List (List Int)} {m : Nat} (hm : m ≤ l.length) (h : ∀ j, j < m → keptR l j = true) : kpR l m = l.take m := by
  unfold kpR
  rw [List.filter_eq_self.2 (fun j hj => h j (List.mem_range.1 hj))]
  refine List.ext_getElem (by simp; omega) fun i h1 h2 => ?_
  have : i < l.length := by simp at h2; omega
  simp [List.getD, this]
theorem keptR_zero (l : List (List Int)) : keptR l 0 = true := by simp [keptR]
/-- how the row stands when m words have been looked at -/
def cpR (l : List (List Int)) (m : Nat) : List (List Int) := kpR l m ++ l.drop (kpR l m).length
theorem cpR_len {l : List (List Int)} {m : Nat} (hm : m ≤ l.length) : (cpR l m).length = l.length := by
  have := kpR_len l m
  simp only [cpR, List.length_append, List.length_drop]; omega
theorem cpR_high {l : List (List Int)} {m j : Nat} (h : (kpR l m).length ≤ j) : (cpR l m).getD j [] = l.getD j [] := by
  unfold cpR
  rw [List.getD_eq_getElem?_getD, List.getElem?_append_right h, List.getElem?_drop, List.getD_eq_getElem?_getD]
  congr 2; omega
theorem cpR_keep {l : List (List Int)} {m : Nat} (hm : m < l.length) (hk : keptR l m = true) : (cpR l m).set (kpR l m).length (l.getD m []) = cpR l (m + 1) := by
  have h1 := kpR_len l m
  have e : kpR l (m + 1) = kpR l m ++ [l.getD m []] := by rw [kpR_succ, if_pos hk]
  unfold cpR
  rw [e, List.set_append_right _ _ (Nat.le_refl _), Nat.sub_self, List.length_append, List.length_singleton, List.append_assoc]
  congr 1
  rw [List.drop_eq_getElem_cons (show (kpR l m).length < l.length by omega)]
  rfl
theorem cpR_skip {l : List (List Int)} {m : Nat} (hk : keptR l m = false) : cpR l (m + 1) = cpR l m := by
  have e : kpR l (m + 1) = kpR l m := by rw [kpR_succ, if_neg (by simp [hk])]; simp
  unfold cpR
  rw [e]
theorem kpR_skip {l : List (List Int)} {m : Nat} (hk : keptR l m = false) : kpR l (m + 1) = kpR l m := by rw [kpR_succ, if_neg (by simp [hk])]; simp
theorem kpR_keep {l : List (List Int)} {m : Nat} (hk : keptR l m = true) : (kpR l (m + 1)).length = (kpR l m).length + 1 := by rw [kpR_succ, if_pos hk]; simp
theorem compR_short {l : List (List Int)} (h : l.length < 2) : compR l = l := by
  rw [← kpR_all, kpR_take (Nat.le_refl _) fun j hj => ?_, List.take_length]
  have : j = 0 := by omega
  subst this
  exact keptR_zero l
end Go.AM
end

/-! text PlCover -/
section
namespace Go.AM
open Go
/-! words that lead to the states -/
def cvM (N : List (List Int)) (q : List Int × Stp) : List Bool := (List.range N.length).map fun t : Nat => decide ((t : Int) ∈ q.1)
def cvW (q : List Int × Stp) (t : Int) : List Int := if t ∈ q.1 then wordOf q.2 (q.1.idxOf t) else []
def cvO (N : List (List Int)) (q : List Int × Stp) : List (List Int) := (List.range N.length).map fun t : Nat => cvW q t
theorem cvM_len {N : List (List Int)} {q : List Int × Stp} : (cvM N q).length = N.length := by simp [cvM]
theorem cvO_len {N : List (List Int)} {q : List Int × Stp} : (cvO N q).length = N.length := by simp [cvO]
theorem cvM_get {N : List (List Int)} {q : List Int × Stp} {t : Int} (h : 0 ≤ t ∧ t < N.length) : (cvM N q).getD t.toNat false = decide (t ∈ q.1) := by
  have : t.toNat < N.length := by omega
  simp [cvM, List.getD, this, show ((t.toNat : Nat) : Int) = t by omega]
theorem cvO_get {N : List (List Int)} {q : List Int × Stp} {t : Int} (h : 0 ≤ t ∧ t < N.length) : (cvO N q).getD t.toNat [] = cvW q t := by
  have : t.toNat < N.length := by omega
  simp [cvO, List.getD, this, show ((t.toNat : Nat) : Int) = t by omega]
theorem cvM_new {N : List (List Int)} {q : List Int × Stp} {t : Int} {e : Int × Int} (h : 0 ≤ t ∧ t < N.length) : cvM N (q.1 ++ [t], q.2 ++ [e]) = (cvM N q).set t.toNat true := by
  refine List.ext_getElem (by simp [cvM]) fun u h1 h2 => ?_
  rw [List.getElem_set]
  simp only [cvM, List.getElem_map, List.getElem_range, List.mem_append, List.mem_singleton]
  split
  · have : (u : Int) = t := by omega
    simp [this]
  · have : ¬ (u : Int) = t := by omega
    simp [this]
section
variable {N O : List (List Int)} {k i x : Nat} {s : Int} {q : List Int × Stp}
theorem BInv.nd (h : BInv (dlN N) s k i x q) : q.1.Nodup := by
  refine List.pairwise_iff_getElem.2 fun a b ha hb hab he => ?_
  have h1 := h.nodup a b ha hb (by simp [List.getD, ha, hb, he])
  omega
theorem BInv.idx (h : BInv (dlN N) s k i x q) {m : Nat} (hm : m < q.1.length) {d : Int} : q.1.idxOf (q.1.getD m d) = m := by
  have : q.1.getD m d = q.1[m] := by simp [List.getD, hm]
  rw [this]
  exact h.nd.idxOf_getElem m hm
theorem cvW_at (h : BInv (dlN N) s k i x q) {m : Nat} (hm : m < q.1.length) {d : Int} : cvW q (q.1.getD m d) = wordOf q.2 m := by
  unfold cvW
  have hmem : q.1.getD m d ∈ q.1 := by
    have e : q.1.getD m d = q.1[m] := by simp [List.getD, hm]
    rw [e]; exact List.getElem_mem hm
  rw [if_pos hmem, h.idx hm]
theorem cvO_new (hV : VM N O k) (h : BInv (dlN N) s k i x q) (hi : i < q.1.length) (hx : x < k) {t : Int} (ht : 0 ≤ t ∧ t < N.length) (hn : t ∉ q.1) :
    cvO N (q.1 ++ [t], q.2 ++ [((i : Int), (x : Int))]) = (cvO N q).set t.toNat (wordOf q.2 i ++ [(x : Int)]) := by
  refine List.ext_getElem (by simp [cvO]) fun u h1 h2 => ?_
  have hu : u < N.length := by simpa [cvO] using h1
  rw [List.getElem_set]
  simp only [cvO, List.getElem_map, List.getElem_range]
  have hT := h.tree
  have hql : q.2.length = q.1.length := h.len
  split
  · rename_i e
    have e : (u : Int) = t := by omega
    rw [e]
    unfold cvW
    rw [if_pos (by simp)]
    have e1 : (q.1 ++ [t]).idxOf t = q.1.length := by
      rw [List.idxOf_append, if_neg hn]; simp
    simp only [e1]
    have hT2 : Tree (q.2 ++ [((i : Int), (x : Int))]) := fun m hm => by
      by_cases hlt : m < q.2.length
      · rw [getD_append_left hlt]; exact hT m hlt
      · have : m = q.2.length := by simp at hm; omega
        subst this
        rw [getD_append_last]
        exact .inr ⟨i, x, rfl, by omega⟩
    rw [wordOf_step (i := q.1.length) (j := i) (y := x) hT2 (by simp; omega) (by rw [← hql, getD_append_last]) hi, wordOf_append _ hT (by omega)]
  · rename_i e
    have e : ¬ (u : Int) = t := by omega
    unfold cvW
    by_cases hm : (u : Int) ∈ q.1
    · rw [if_pos (by simp [hm]), if_pos hm]
      have e1 : (q.1 ++ [t]).idxOf (u : Int) = q.1.idxOf (u : Int) := by rw [List.idxOf_append, if_pos hm]
      simp only [e1]
      have := List.idxOf_lt_length_of_mem hm
      rw [wordOf_append _ hT (by omega)]
    · rw [if_neg (by simp [hm, e]), if_neg hm]
theorem cvM_zero : cvM N ([0], [(-1, 0)]) = (List.replicate N.length false).set 0 true := by
  refine List.ext_getElem (by simp [cvM]) fun u h1 h2 => ?_
  rw [List.getElem_set]
  simp only [cvM, List.getElem_map, List.getElem_range, List.mem_singleton, List.getElem_replicate]
  split
  · rename_i e; subst e; simp
  · rename_i e; simp; omega
theorem cvO_zero : cvO N ([0], [(-1, 0)]) = List.replicate N.length [] := by
  refine List.ext_getElem (by simp [cvO]) fun u h1 h2 => ?_
  simp only [cvO, List.getElem_map, List.getElem_range, List.getElem_replicate, cvW]
  split
  · rename_i e
    have e : (u : Int) = 0 := by simpa using e
    rw [e]
    simp [wordOf, upW]
  · rfl
end
/-- for each state the first shortest word that leads to it from state 0 -/
def covL (N : List (List Int)) (k : Nat) : List (List Int) := cvO N (finN N k 0)
/-- whether all states are reached from state 0 -/
def allC (N : List (List Int)) (k : Nat) : Bool := decide ((finN N k 0).1.length = N.length)
theorem runW_dl (N : List (List Int)) : ∀ (w : List Int) (s : Int), (∀ x ∈ w, 0 ≤ x) → runW (dlN N) s w = leadG N s w
  | [], _, _ => rfl
  | x :: w, s, h => by
    have h0 := h x (by simp)
    simp only [runW, leadG, dlN, nxG]
    rw [runW_dl N w _ fun y hy => h y (by simp [hy])]
    congr 1
    try omega
section
variable {N O : List (List Int)} {k : Nat}
theorem cov_len : (covL N k).length = N.length := cvO_len
theorem cov_done (hV : VM N O k) : Done (dlN N) 0 k (finN N k 0) := ⟨finN_inv hV ⟨Int.le_refl _, by have := hV.v.n1; omega⟩⟩
theorem all_mem (hV : VM N O k) (h : allC N k = true) {t : Int} (ht : 0 ≤ t ∧ t < N.length) : t ∈ (finN N k 0).1 := by
  have hd := (cov_done hV).inv
  have hin := state_in hV ⟨Int.le_refl _, by have := hV.v.n1; omega⟩ hd
  have hl : (finN N k 0).1.length = N.length := by simpa [allC] using h
  refine Classical.byContradiction fun hn => ?_
  -- the entries and t are n + 1 numbers below n
  have := pigeon N.length (N.length + 1) (fun m => if m < N.length then ((finN N k 0).1.getD m 0).toNat else t.toNat) (fun m hm => ?_) (fun m m' hm hm' e => ?_)
  · omega
  · show (if m < N.length then ((finN N k 0).1.getD m 0).toNat else t.toNat) < N.length
    split
    · have := hin m (by omega); omega
    · omega
  · have e : (if m < N.length then ((finN N k 0).1.getD m 0).toNat else t.toNat) = (if m' < N.length then ((finN N k 0).1.getD m' 0).toNat else t.toNat) := e
    have hne : ∀ m, m < N.length → ((finN N k 0).1.getD m 0).toNat ≠ t.toNat := fun m hm e => by
      have := hin m (by omega)
      exact hn (by rw [show t = (finN N k 0).1.getD m 0 by omega]; simpa [List.getD, show m < (finN N k 0).1.length by omega] using List.getElem_mem _)
    split at e <;> split at e
    · have h1 := hin m (by omega)
      have h2 := hin m' (by omega)
      exact hd.nodup m m' (by omega) (by omega) (by omega)
    · rename_i a b; exact absurd e (hne m a)
    · rename_i a b; exact absurd e.symm (hne m' b)
    · omega
theorem cov_spec (hV : VM N O k) (h : allC N k = true) {t : Int} (ht : 0 ≤ t ∧ t < N.length) : leadG N 0 ((covL N k).getD t.toNat []) = t ∧ ∀ x ∈ (covL N k).getD t.toNat [], 0 ≤ x ∧ x < k := by
  have hd := cov_done hV
  obtain ⟨m, hm, e⟩ := mem_of_getD (d := 0) (all_mem hV h ht)
  have h1 := hd.reach m hm
  have h2 := cvW_at hd.inv hm (d := 0)
  rw [covL, cvO_get ht, ← e, h2]
  refine ⟨?_, h1.2⟩
  rw [← runW_dl N _ _ fun x hx => (h1.2 x hx).1]
  exact h1.1
theorem cov_short (hV : VM N O k) {w : List Int} (hw : ∀ x ∈ w, 0 ≤ x ∧ x < k) : ((covL N k).getD (leadG N 0 w).toNat []).length ≤ w.length := by
  have hd := cov_done hV
  have hn := hV.v.n1
  obtain ⟨m, hm, e, hle⟩ := hd.first w hw
  rw [runW_dl N _ _ fun x hx => (hw x hx).1] at e
  have ht := hV.v.lead w (Int.le_refl 0) (by omega) hw
  rw [covL, cvO_get ht, e, cvW_at hd.inv hm (d := 0)]
  unfold leB comesB at hle
  split at hle
  · omega
  · have := of_decide_eq_false hle; omega
theorem cov_zero (hV : VM N O k) : (covL N k).getD 0 [] = [] := by
  have := cov_short hV (w := []) (by simp)
  simpa [leadG] using this
theorem word_len (hV : VM N O k) {i x : Nat} {q : List Int × Stp} (h : BInv (dlN N) 0 k i x q) : ∀ m, m < q.1.length → (wordOf q.2 m).length ≤ m := by
  intro m
  induction m using Nat.strongRecOn with
  | _ m ih =>
    intro hm
    rcases h.word hm with ⟨rfl, e⟩ | ⟨j, y, h1, _, _, _, e⟩
    · rw [e]; simp
    · rw [e, List.length_append, List.length_singleton]
      have := ih j h1 (by omega)
      omega
theorem cvO_short (hV : VM N O k) {i x : Nat} {q : List Int × Stp} (h : BInv (dlN N) 0 k i x q) {r : List Int} (hr : r ∈ cvO N q) : r.length ≤ q.1.length := by
  obtain ⟨t, ht, rfl⟩ := List.mem_map.1 hr
  unfold cvW
  split
  · rename_i hm
    have hl := List.idxOf_lt_length_of_mem hm
    have := word_len hV h _ hl
    omega
  · simp
end
end Go.AM
end

/-! text PlShort -/
section
namespace Go.AM
open Go
/-! what the shortest word is, and how long -/
theorem nxG_nat (N : List (List Int)) (s x : Int) : nxG N s ((x.toNat : Nat) : Int) = nxG N s x := by simp only [nxG, Int.toNat_natCast]
theorem outG_nat (O : List (List Int)) (s x : Int) : outG O s ((x.toNat : Nat) : Int) = outG O s x := by simp only [outG, Int.toNat_natCast]
theorem nxG_st (N : List (List Int)) (s x : Int) : nxG N ((s.toNat : Nat) : Int) x = nxG N s x := by simp only [nxG, Int.toNat_natCast]
theorem outG_st (O : List (List Int)) (s x : Int) : outG O ((s.toNat : Nat) : Int) x = outG O s x := by simp only [outG, Int.toNat_natCast]
theorem outsG_st (N O : List (List Int)) (s : Int) (w : List Int) : outsG N O ((s.toNat : Nat) : Int) w = outsG N O s w := by
  cases w with
  | nil => rfl
  | cons x w => simp only [outsG, nxG_st, outG_st]
theorem runW_lead (N M : List (List Int)) : ∀ (w : List Int) (p : Int × Int), runW (dltP N M) p w = (leadG N p.1 w, leadG M p.2 w)
  | [], _ => rfl
  | x :: w, p => by
    show runW (dltP N M) (dltP N M p x.toNat) w = _
    rw [runW_lead N M w]
    simp only [dltP, nxG_nat]; rfl
theorem outsG_snoc (N O : List (List Int)) (s : Int) (w : List Int) (x : Int) : outsG N O s (w ++ [x]) = outsG N O s w ++ [outG O (leadG N s w) x] := by rw [outsG_append]; rfl
/-- outputs that differ differ at a first letter -/
theorem first_dif {N O M Q : List (List Int)} {x y : Int} : ∀ (n : Nat) (v : List Int), v.length = n → outsG N O x v ≠ outsG M Q y v → ∃ u d t, v = u ++ d :: t ∧ outG O (leadG N x u) d ≠ outG Q (leadG M y u) d := by
  intro n
  induction n with
  | zero => intro v hv h; rw [List.length_eq_zero_iff.1 hv] at h; exact absurd rfl h
  | succ n ih =>
    intro v hv h
    obtain ⟨u, d, rfl⟩ : ∃ u d, v = u ++ [d] := ⟨v.dropLast, v.getLast (fun e => by simp [e] at hv), (List.dropLast_concat_getLast _).symm⟩
    rw [outsG_snoc, outsG_snoc] at h
    by_cases e : outsG N O x u = outsG M Q y u
    · exact ⟨u, d, [], rfl, fun e2 => h (by rw [e, e2])⟩
    · obtain ⟨u', d', t, e1, e2⟩ := ih u (by simpa using hv) e
      exact ⟨u', d', t ++ [d], by rw [e1]; simp, e2⟩
theorem leB_pre (u : List Int) (d : Int) (t : List Int) : leB (u ++ [d]) (u ++ d :: t) := by
  cases t with
  | nil => exact leB_refl _
  | cons a t => exact leB_of (by unfold comesB; rw [if_neg (by simp)]; simp)
/-- what Told answers is the first of all words that tell the states apart -/
theorem TellR.first {N O M Q : List (List Int)} {x y : Int} {k : Nat} {w : List Int} (hN : VM N O k) (hM : VM M Q k) (hx : 0 ≤ x ∧ x < N.length) (hy : 0 ≤ y ∧ y < M.length) (h : TellR N O M Q x y k w true) :
    (∀ c ∈ w, 0 ≤ c ∧ c < k) ∧ w ≠ [] ∧ outsG N O x w ≠ outsG M Q y w ∧ ∀ v : List Int, (∀ c ∈ v, 0 ≤ c ∧ c < k) → outsG N O x v ≠ outsG M Q y v → leB w v := by
  have hb : BInv (dltP N M) (x, y) k (N.length * M.length) 0 (finP N M x y k) := bfs_inv _
  have hd : Done (dltP N M) (x, y) k (finP N M x y k) := ⟨hb.done (pair_len hN hM hx hy hb)⟩
  rcases h with ⟨i, c, h1, h2, h3, h4, h5, rfl, _⟩ | ⟨_, _, h⟩
  case inr => cases h
  obtain ⟨r1, r2⟩ := hd.reach i h1
  rw [runW_lead] at r1
  refine ⟨fun z hz => ?_, by simp, ?_, ?_⟩
  · rcases List.mem_append.1 hz with hz | hz
    · exact r2 z hz
    · simp at hz; subst hz; omega
  · rw [outsG_snoc, outsG_snoc]
    intro e
    have := List.append_inj_right e (by rw [outsG_len, outsG_len])
    simp only [List.cons.injEq, and_true] at this
    unfold difP at h3
    rw [← r1] at h3
    exact h3 this
  · intro v hv he
    obtain ⟨u, d, t, rfl, h6⟩ := first_dif v.length v rfl he
    have hu : ∀ z ∈ u, 0 ≤ z ∧ z < k := fun z hz => hv z (by simp [hz])
    have hdk := hv d (by simp)
    obtain ⟨m, m1, m2, m3⟩ := hd.first u hu
    rw [runW_lead] at m2
    have hdif : difP O Q ((finP N M x y k).1.getD m (x, y)) d.toNat := by
      rw [← m2]; show outG O _ _ ≠ outG Q _ _
      rw [outG_nat, outG_nat]; exact h6
    have hmi : i ≤ m := by
      rcases Nat.lt_or_ge m i with g | g
      · exact absurd hdif (h5 m d.toNat g (by omega))
      · exact g
    refine leB_trans ?_ (leB_pre u d t)
    rcases leB_iff.1 m3 with e | e
    · rcases Nat.lt_or_ge i m with g | g
      · refine leB_of (comesB_snoc _ _ ?_)
        rw [← e]; exact hb.sorted i m g m1
      · obtain rfl : i = m := by omega
        rw [e]
        have hcd : ¬ d.toNat < c := fun g => h4 _ g hdif
        rcases Nat.lt_or_ge c d.toNat with g2 | g2
        · exact leB_of (comesB_last u (by omega))
        · rw [show (c : Int) = d by omega]; exact leB_refl _
    · refine leB_of (comesB_snoc _ _ ?_)
      rcases Nat.lt_or_ge i m with g | g
      · exact comesB_trans (hb.sorted i m g m1) e
      · obtain rfl : i = m := by omega
        exact e
theorem TellR.none {N O M Q : List (List Int)} {x y : Int} {k : Nat} {w : List Int} (hN : VM N O k) (hM : VM M Q k) (hx : 0 ≤ x ∧ x < N.length) (hy : 0 ≤ y ∧ y < M.length) (h : TellR N O M Q x y k w false) :
    ∀ v : List Int, (∀ c ∈ v, 0 ≤ c ∧ c < k) → outsG N O x v = outsG M Q y v := by
  have hb : BInv (dltP N M) (x, y) k (N.length * M.length) 0 (finP N M x y k) := bfs_inv _
  have hd : Done (dltP N M) (x, y) k (finP N M x y k) := ⟨hb.done (pair_len hN hM hx hy hb)⟩
  rcases h with ⟨_, _, _, _, _, _, _, _, h⟩ | ⟨h1, _, _⟩
  · cases h
  intro v hv
  by_cases he : outsG N O x v = outsG M Q y v
  · exact he
  obtain ⟨u, d, t, rfl, h6⟩ := first_dif v.length v rfl he
  obtain ⟨m, m1, m2, m3⟩ := hd.first u fun z hz => hv z (by simp [hz])
  rw [runW_lead] at m2
  have hdk := hv d (by simp)
  refine absurd ?_ (h1 m d.toNat m1 (by omega))
  rw [← m2]; show outG O _ _ ≠ outG Q _ _
  rw [outG_nat, outG_nat]; exact h6
/-! classes and words -/
/-- all that the classes need of a machine -/
structure CM (N : List (List Int)) (k : Nat) : Prop where
  n1 : 1 ≤ N.length
  nx : ∀ (s : Int) (x : Nat), 0 ≤ s → s < N.length → x < k → 0 ≤ nxG N s x ∧ nxG N s x < N.length
theorem VM.cm {N O : List (List Int)} {k : Nat} (h : VM N O k) : CM N k := ⟨h.v.n1, fun _ _ h1 h2 h3 => h.nx h1 h2 h3⟩
section
variable {N O : List (List Int)} {k : Nat}
theorem CM.nat (hN : CM N k) {s x : Nat} (hs : s < N.length) (hx : x < k) : (nxG N s x).toNat < N.length := by
  have := hN.nx (s : Int) x (by omega) (by omega) hx; omega
theorem CM.mono (hN : CM N k) : ∀ (i : Nat) {s t : Nat}, s < N.length → t < N.length → atC (clsI N O k (i + 1)) s = atC (clsI N O k (i + 1)) t → atC (clsI N O k i) s = atC (clsI N O k i) t
  | 0, s, t, hs, ht, _ => by simp [clsI, atC, List.getD, hs, ht]
  | i + 1, s, t, hs, ht, h => by
    rw [clsI_succ hs ht]
    rw [clsI_succ hs ht, kF_eq] at h
    rw [kF_eq]
    intro x hx
    obtain ⟨h1, h2⟩ := h x hx
    exact ⟨h1, CM.mono hN i (hN.nat hs hx) (hN.nat ht hx) h2⟩
theorem CM.stable (hN : CM N k) {i : Nat} (h : cntI N O k (i + 1) = cntI N O k i) : clsI N O k (i + 1) = clsI N O k i := by
  have := same_count (f := atC (clsI N O k (i + 1))) (g := atC (clsI N O k i)) (n := N.length) (fun s t hs ht => hN.mono i hs ht) h
  refine list_ext_at (clsI_len _) (clsI_len _) fun s hs => ?_
  rw [clsI_canon (i + 1) hs, clsI_canon i hs, Int.natCast_inj]
  exact numF_congr (n := N.length) (fun s t hs ht => by simp only [keyE, decide_eq_decide]; exact this s t hs ht) hs
theorem CM.grow (hN : CM N k) : ∀ i, (∀ j, j < i → cntI N O k (j + 1) ≠ cntI N O k j) → i + 1 ≤ cntI N O k i
  | 0, _ => by rw [cntI_zero hN.n1]; exact Nat.le_refl _
  | i + 1, h => by
    have h1 := CM.grow hN i fun j hj => h j (by omega)
    have h2 : cntI N O k i ≤ cntI N O k (i + 1) := count_le fun s t hs ht h => hN.mono i hs ht h
    have h3 := h i (by omega)
    omega
/-- where the classes stop -/
theorem CM.stop (hN : CM N k) : ∃ i, i + 1 ≤ cntT N O k ∧ clsI N O k i = clsT N O k ∧ clsI N O k (i + 1) = clsI N O k i := by
  have hex : ∃ j, cntI N O k (j + 1) = cntI N O k j := Classical.byContradiction fun h => by
    have := hN.grow (O := O) N.length fun j _ e => h ⟨j, e⟩
    have := cntI_le (N := N) (O := O) (k := k) N.length
    omega
  obtain ⟨i, h1, h2⟩ : ∃ i, cntI N O k (i + 1) = cntI N O k i ∧ ∀ j, j < i → cntI N O k (j + 1) ≠ cntI N O k j := by
    obtain ⟨j, hj⟩ := hex
    induction j using Nat.strongRecOn with
    | _ j ih =>
      by_cases g : ∃ m, m < j ∧ cntI N O k (m + 1) = cntI N O k m
      · obtain ⟨m, m1, m2⟩ := g; exact ih m m1 m2
      · exact ⟨j, hj, fun m hm e => g ⟨m, hm, e⟩⟩
  have h3 := hN.grow i h2
  have h4 := cntI_le (N := N) (O := O) (k := k) i
  have h5 := hN.stable h1
  have h6 := clsI_from h5 (N.length - i)
  rw [show i + (N.length - i) = N.length by omega] at h6
  refine ⟨i, ?_, h6.symm, h5⟩
  unfold cntT cntI; rw [h6]; exact h3
theorem CM.word (hN : CM N k) : ∀ (i s t : Nat), s < N.length → t < N.length → atC (clsI N O k i) s ≠ atC (clsI N O k i) t → ∃ w : List Int, w.length ≤ i ∧ (∀ c ∈ w, 0 ≤ c ∧ c < k) ∧ outsG N O s w ≠ outsG N O t w
  | 0, s, t, hs, ht, h => absurd (by simp [clsI, atC, List.getD, hs, ht]) h
  | i + 1, s, t, hs, ht, h => by
    rw [Ne, clsI_succ hs ht, kF_eq] at h
    obtain ⟨x, hx⟩ := Classical.not_forall.1 h
    obtain ⟨hx, h⟩ := Classical.not_imp.1 hx
    by_cases e : outG O s x = outG O t x
    · have h2 : atC (clsI N O k i) (nxG N s x).toNat ≠ atC (clsI N O k i) (nxG N t x).toNat := fun g => h ⟨e, g⟩
      obtain ⟨w, w1, w2, w3⟩ := CM.word hN i _ _ (hN.nat hs hx) (hN.nat ht hx) h2
      rw [outsG_st, outsG_st] at w3
      refine ⟨(x : Int) :: w, by simp; omega, fun c hc => ?_, fun g => ?_⟩
      · rcases List.mem_cons.1 hc with rfl | hc
        · omega
        · exact w2 c hc
      · simp only [outsG, List.cons.injEq] at g
        exact w3 g.2
    · exact ⟨[(x : Int)], by simp, fun c hc => by simp at hc; subst hc; omega, fun g => e (by simpa [outsG] using g)⟩
theorem CM.cls (hN : CM N k) : ∀ (w : List Int) (i s t : Nat), s < N.length → t < N.length → w.length ≤ i → (∀ c ∈ w, 0 ≤ c ∧ c < k) → atC (clsI N O k i) s = atC (clsI N O k i) t → outsG N O s w = outsG N O t w
  | [], _, _, _, _, _, _, _, _ => rfl
  | x :: w, 0, _, _, _, _, h, _, _ => by simp at h
  | x :: w, i + 1, s, t, hs, ht, hl, hw, h => by
    obtain ⟨h0, h1⟩ := hw x (by simp)
    rw [clsI_succ hs ht, kF_eq] at h
    obtain ⟨a, b⟩ := h x.toNat (by omega)
    rw [outG_nat, outG_nat] at a
    have hx : x.toNat < k := by omega
    have := CM.cls hN w i _ _ (hN.nat hs hx) (hN.nat ht hx) (by simpa using hl) (fun c hc => hw c (by simp [hc])) b
    rw [outsG_st, outsG_st, nxG_nat, nxG_nat] at this
    simp only [outsG, a, this]
/-- the classes part the states that a word tells apart -/
theorem CM.iff (hN : CM N k) {s t : Nat} (hs : s < N.length) (ht : t < N.length) : atC (clsT N O k) s = atC (clsT N O k) t ↔ ∀ w : List Int, (∀ c ∈ w, 0 ≤ c ∧ c < k) → outsG N O s w = outsG N O t w := by
  constructor
  · intro h w hw
    obtain ⟨i, h1, h2, h3⟩ := hN.stop (O := O)
    refine hN.cls w (i + w.length) s t hs ht (by omega) hw ?_
    rw [clsI_from h3 w.length, h2]; exact h
  · intro h
    refine Classical.byContradiction fun g => ?_
    obtain ⟨w, _, w2, w3⟩ := hN.word _ _ _ hs ht g
    exact w3 (h w w2)
/-- Moore: a short word does -/
theorem CM.moore (hN : CM N k) {s t : Nat} (hs : s < N.length) (ht : t < N.length) {w : List Int} (hw : ∀ c ∈ w, 0 ≤ c ∧ c < k) (h : outsG N O s w ≠ outsG N O t w) :
    ∃ v : List Int, v.length + 1 ≤ cntT N O k ∧ (∀ c ∈ v, 0 ≤ c ∧ c < k) ∧ outsG N O s v ≠ outsG N O t v := by
  obtain ⟨i, h1, h2, _⟩ := hN.stop (O := O)
  have : atC (clsI N O k i) s ≠ atC (clsI N O k i) t := fun g => by
    rw [h2] at g
    exact h ((hN.iff hs ht).1 g w hw)
  obtain ⟨v, v1, v2, v3⟩ := hN.word _ _ _ hs ht this
  exact ⟨v, by omega, v2, v3⟩
end
/-! two machines side by side -/
def sumN (N M : List (List Int)) : List (List Int) := N ++ M.map fun r => r.map (· + (N.length : Int))
section
variable {N O M Q : List (List Int)} {k : Nat}
theorem sumN_len : (sumN N M).length = N.length + M.length := by simp [sumN]
theorem sumN_l {s x : Int} (h0 : 0 ≤ s) (h : s < N.length) : nxG (sumN N M) s x = nxG N s x := by
  unfold nxG sumN
  rw [getD_append_left (by omega)]
theorem sumO_l {s x : Int} (h0 : 0 ≤ s) (h : s < O.length) : outG (O ++ Q) s x = outG O s x := by
  unfold outG
  rw [getD_append_left (by omega)]
theorem getD_append_right' {α : Type} {l l' : List α} {i : Nat} {d : α} : (l ++ l').getD (l.length + i) d = l'.getD i d := by
  rw [List.getD, List.getElem?_append_right (by omega), Nat.add_sub_cancel_left]; rfl
theorem sumN_r (hM : VM M Q k) {s x : Int} (h0 : 0 ≤ s) (h : s < M.length) (hx : 0 ≤ x ∧ x < k) : nxG (sumN N M) (s + N.length) x = nxG M s x + N.length := by
  unfold nxG sumN
  rw [show (s + (N.length : Int)).toNat = N.length + s.toNat by omega, getD_append_right']
  have hs : s.toNat < M.length := by omega
  have hr := (hM.v.row _ (getD_mem' hs)).1
  rw [show (M.map fun r => r.map (· + (N.length : Int))).getD s.toNat [] = (M.getD s.toNat []).map (· + (N.length : Int)) by simp [List.getD, hs]]
  have hx2 : x.toNat < (M.getD s.toNat []).length := by omega
  generalize M.getD s.toNat [] = r at hx2 ⊢
  simp [List.getD, hx2]
theorem sumO_r {s x : Int} (hO : O.length = N.length) (h0 : 0 ≤ s) : outG (O ++ Q) (s + N.length) x = outG Q s x := by
  unfold outG
  rw [show (s + (N.length : Int)).toNat = O.length + s.toNat by omega, getD_append_right']
theorem sum_cm (hN : VM N O k) (hM : VM M Q k) : CM (sumN N M) k := by
  have h1 := hN.v.n1
  refine ⟨by rw [sumN_len]; omega, fun s x h0 h2 hx => ?_⟩
  rw [sumN_len] at h2 ⊢
  rcases Int.lt_or_le s N.length with g | g
  · rw [sumN_l h0 g]
    have := hN.nx h0 g hx; omega
  · obtain ⟨t, rfl⟩ : ∃ t, s = t + (N.length : Int) := ⟨s - N.length, by omega⟩
    rw [sumN_r hM (by omega) (by omega) (by omega)]
    have := hM.nx (s := t) (c := x) (by omega) (by omega) hx; omega
theorem sum_l (hN : VM N O k) : ∀ (w : List Int) {s : Int}, 0 ≤ s → s < N.length → (∀ c ∈ w, 0 ≤ c ∧ c < k) → outsG (sumN N M) (O ++ Q) s w = outsG N O s w
  | [], _, _, _, _ => rfl
  | x :: w, s, h0, h1, hw => by
    obtain ⟨x0, x1⟩ := hw x (by simp)
    have hx := hN.nx (c := x.toNat) h0 h1 (by omega)
    rw [nxG_nat] at hx
    have := hN.ol
    simp only [outsG, sumN_l h0 h1, sumO_l h0 (show s < O.length by omega), sum_l hN w hx.1 hx.2 fun c hc => hw c (by simp [hc])]
theorem sum_r (hN : VM N O k) (hM : VM M Q k) : ∀ (w : List Int) {s : Int}, 0 ≤ s → s < M.length → (∀ c ∈ w, 0 ≤ c ∧ c < k) → outsG (sumN N M) (O ++ Q) (s + N.length) w = outsG M Q s w
  | [], _, _, _, _ => rfl
  | x :: w, s, h0, h1, hw => by
    obtain ⟨x0, x1⟩ := hw x (by simp)
    have hx := hM.nx (c := x.toNat) h0 h1 (by omega)
    rw [nxG_nat] at hx
    simp only [outsG, sumN_r hM h0 h1 ⟨x0, x1⟩, sumO_r hN.ol h0, sum_r hN hM w hx.1 hx.2 fun c hc => hw c (by simp [hc])]
theorem leB_len {a b : List Int} (h : leB a b) : a.length ≤ b.length := by
  unfold leB comesB at h
  split at h
  · omega
  · simp at h; omega
/-- how long the first word is: fewer letters than classes -/
theorem TellR.moore {x y : Int} {w : List Int} (hN : VM N O k) (hx : 0 ≤ x ∧ x < N.length) (hy : 0 ≤ y ∧ y < N.length) (h : TellR N O N O x y k w true) : w.length + 1 ≤ cntT N O k := by
  obtain ⟨h1, _, h3, h4⟩ := h.first hN hN hx hy
  have e1 : ((x.toNat : Nat) : Int) = x := by omega
  have e2 : ((y.toNat : Nat) : Int) = y := by omega
  obtain ⟨v, v1, v2, v3⟩ := hN.cm.moore (O := O) (s := x.toNat) (t := y.toNat) (by omega) (by omega) h1 (by rw [e1, e2]; exact h3)
  rw [e1, e2] at v3
  have := leB_len (h4 v v2 v3); omega
/-- fewer letters than states of both machines -/
theorem TellR.states {x y : Int} {w : List Int} (hN : VM N O k) (hM : VM M Q k) (hx : 0 ≤ x ∧ x < N.length) (hy : 0 ≤ y ∧ y < M.length) (h : TellR N O M Q x y k w true) : w.length + 1 ≤ N.length + M.length := by
  obtain ⟨h1, _, h3, h4⟩ := h.first hN hM hx hy
  have e1 : ((x.toNat : Nat) : Int) = x := by omega
  have e2 : (((y + N.length).toNat : Nat) : Int) = y + N.length := by omega
  obtain ⟨v, v1, v2, v3⟩ := (sum_cm hN hM).moore (O := O ++ Q) (s := x.toNat) (t := (y + N.length).toNat) (by rw [sumN_len]; omega) (by rw [sumN_len]; omega) h1 (by
    rw [e1, e2, sum_l hN w hx.1 hx.2 h1, sum_r hN hM w hy.1 hy.2 h1]; exact h3)
  rw [e1, e2, sum_l hN v hx.1 hx.2 v2, sum_r hN hM v hy.1 hy.2 v2] at v3
  have := leB_len (h4 v v2 v3)
  have h5 : cntT (sumN N M) (O ++ Q) k ≤ (sumN N M).length := cntI_le _
  rw [sumN_len] at h5
  omega
end
/-! shorter words, or words that come before -/
end Go.AM
end

/-! text PlTell -/
section
namespace Go.AM
open Go
/-! words that tell the states apart -/
open Classical in
/-- the word that tells two states apart -/
noncomputable def tellW (N O : List (List Int)) (k : Nat) (x y : Int) : List Int := if h : ∃ w ok, TellR N O N O x y k w ok then h.choose else []
theorem tellW_eq {N O : List (List Int)} {k : Nat} {x y : Int} {w : List Int} {ok : Bool} (h : TellR N O N O x y k w ok) : w = tellW N O k x y := by
  have hex : ∃ w ok, TellR N O N O x y k w ok := ⟨w, ok, h⟩
  unfold tellW
  rw [dif_pos hex]
  obtain ⟨ok', h'⟩ := hex.choose_spec
  exact (h.uniq h').1
/-- the pairs of states, those of a smaller second one first -/
def prs (y x : Nat) : List (Nat × Nat) := ((List.range y).flatMap fun b => (List.range b).map fun a => (a, b)) ++ (List.range x).map fun a => (a, y)
theorem prs_x (y x : Nat) : prs y (x + 1) = prs y x ++ [(x, y)] := by simp [prs, List.range_succ]
theorem prs_y (y : Nat) : prs (y + 1) 0 = prs y y := by simp [prs, List.range_succ]
theorem mem_prs {n a b : Nat} : (a, b) ∈ prs n 0 ↔ a < b ∧ b < n := by
  simp [prs]
  constructor
  · rintro ⟨b', h1, a', h2, rfl, rfl⟩; exact ⟨h2, h1⟩
  · rintro ⟨h1, h2⟩; exact ⟨b, h2, a, h1, rfl, rfl⟩
theorem prs_len : ∀ (y x : Nat), y ≤ 60 → x ≤ 60 → (prs y x).length ≤ y * 60 + x := by
  intro y x hy hx
  induction y generalizing x with
  | zero => simp [prs]
  | succ y ih =>
    have h1 := ih y (by omega) (by omega)
    have h2 : prs (y + 1) x = prs y y ++ (List.range x).map fun a => (a, y + 1) := by
      rw [← prs_y]; simp [prs]
    rw [h2, List.length_append, List.length_map, List.length_range]
    omega
noncomputable def tws (N O : List (List Int)) (k : Nat) (l : List (Nat × Nat)) : List (List Int) := l.map fun p => tellW N O k p.1 p.2
/-- what Tellers answers -/
noncomputable def telL (N O : List (List Int)) (k : Nat) : List (List Int) := if N.length = 1 then [[]] else onceL (tws N O k (prs N.length 0))
theorem TellR.len {N O M Q : List (List Int)} {x y : Int} {k : Nat} {w : List Int} {ok : Bool} (hN : VM N O k) (hM : VM M Q k) (hx : 0 ≤ x ∧ x < N.length) (hy : 0 ≤ y ∧ y < M.length) (h : TellR N O M Q x y k w ok) : w.length ≤ N.length * M.length := by
  have hb : BInv (dltP N M) (x, y) k (N.length * M.length) 0 (finP N M x y k) := bfs_inv _
  have hl := pair_len hN hM hx hy hb
  rcases h with ⟨i, c, h1, _, _, _, _, rfl, _⟩ | ⟨_, rfl, _⟩
  · have hs : (finP N M x y k).2.length = (finP N M x y k).1.length := hb.len
    have := wordOf_len hb.tree i (by omega)
    simp; omega
  · simp
theorem TellR.sm {N O M Q : List (List Int)} {x y : Int} {k : Nat} {w : List Int} {ok : Bool} (hN : VM N O k) (hM : VM M Q k) (hx : 0 ≤ x ∧ x < N.length) (hy : 0 ≤ y ∧ y < M.length) (h : TellR N O M Q x y k w ok) : w.length ≤ 3600 := by
  have h1 := h.len hN hM hx hy
  have h2 : N.length * M.length ≤ 60 * 60 := Nat.mul_le_mul hN.v.n2 hM.v.n2
  omega
theorem tellW_sm {N O : List (List Int)} {k : Nat} (hV : VM N O k) {x y : Int} (hx : 0 ≤ x ∧ x < N.length) (hy : 0 ≤ y ∧ y < N.length) : (tellW N O k x y).length ≤ 3600 := by
  unfold tellW
  split
  · rename_i h
    obtain ⟨ok, h'⟩ := h.choose_spec
    exact h'.sm hV hV hx hy
  · simp
theorem tws_snoc {N O : List (List Int)} {k : Nat} {l : List (Nat × Nat)} {p : Nat × Nat} : tws N O k (l ++ [p]) = tws N O k l ++ [tellW N O k p.1 p.2] := by simp [tws]
theorem tws_sm {N O : List (List Int)} {k : Nat} (hV : VM N O k) {y x : Nat} (hy : y ≤ N.length) (hx : x ≤ y) (hxy : x = 0 ∨ y < N.length) : ∀ r ∈ tws N O k (prs y x), r.length ≤ 3600 := fun r hr => by
  obtain ⟨⟨a, b⟩, hp, rfl⟩ := List.mem_map.1 hr
  simp only [prs, List.mem_append, List.mem_flatMap, List.mem_map, List.mem_range, Prod.mk.injEq] at hp
  rcases hp with ⟨b', h1, a', h2, rfl, rfl⟩ | ⟨a', h1, rfl, rfl⟩
  · exact tellW_sm hV ⟨by simp only; omega, by simp only; omega⟩ ⟨by simp only; omega, by simp only; omega⟩
  · exact tellW_sm hV ⟨by simp only; omega, by simp only; omega⟩ ⟨by simp only; omega, by simp only; omega⟩
theorem tws_len {N O : List (List Int)} {k : Nat} {l : List (Nat × Nat)} : (tws N O k l).length = l.length := by simp [tws]
end Go.AM
end
