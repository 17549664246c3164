/-
  Contracts of the small functions that the two laws reach, and the plain theory of the search; conditions in each statement.
-/
import Derived.Test.YtcinbejnepgojaaF4
import Derived.Test.YtcinbejnepgojaaProg
import Derived.KernelRfl
set_option linter.unusedVariables false
set_option linter.unusedSimpArgs false
set_option linter.unusedSectionVars false

/-! text Bfs -/
section
namespace Go.AM

/-! words in order: the shorter first, and as long ones by their letters -/
def lexB : List Int → List Int → Bool
  | x :: a, y :: b => if x = y then lexB a b else decide (x < y)
  | _, _ => false
def comesB (a b : List Int) : Bool := if a.length = b.length then lexB a b else decide (a.length < b.length)
theorem lexB_irrefl : ∀ a : List Int, lexB a a = false
  | [] => rfl
  | x :: a => by simp [lexB, lexB_irrefl a]
theorem lexB_trans : ∀ a b c : List Int, lexB a b = true → lexB b c = true → lexB a c = true
  | [], _, _, h, _ => by simp [lexB] at h
  | _ :: _, [], _, h, _ => by simp [lexB] at h
  | _ :: _, _ :: _, [], _, h => by simp [lexB] at h
  | x :: a, y :: b, z :: c, h, k => by
    simp only [lexB] at *
    by_cases h1 : x = y
    · subst h1
      rw [if_pos rfl] at h
      by_cases h2 : x = z
      · rw [if_pos h2] at k ⊢; exact lexB_trans a b c h k
      · rw [if_neg h2] at k ⊢; exact k
    · rw [if_neg h1] at h
      simp only [decide_eq_true_eq] at h
      by_cases h2 : y = z
      · subst h2; rw [if_neg h1]; simpa using h
      · rw [if_neg h2] at k
        simp only [decide_eq_true_eq] at k
        rw [if_neg (by omega)]; simp; omega
theorem lexB_total : ∀ a b : List Int, a.length = b.length → lexB a b = false → lexB b a = false → a = b
  | [], [], _, _, _ => rfl
  | x :: a, y :: b, hl, h, k => by
    simp only [lexB] at h k
    by_cases h1 : x = y
    · subst h1
      rw [if_pos rfl] at h k
      rw [lexB_total a b (by simpa using hl) h k]
    · rw [if_neg h1] at h
      rw [if_neg (Ne.symm h1)] at k
      simp at h k
      omega
theorem lexB_append : ∀ (a b : List Int) (x y : Int), a.length = b.length → lexB (a ++ [x]) (b ++ [y]) = if a = b then decide (x < y) else lexB a b
  | [], [], x, y, _ => by by_cases h : x = y <;> simp [lexB, h]
  | u :: a, v :: b, x, y, hl => by
    have hl' : a.length = b.length := by simpa using hl
    have ih := lexB_append a b x y hl'
    simp only [List.cons_append, lexB]
    by_cases h : u = v
    · subst h
      simp only [if_true, ih]
      by_cases h2 : a = b <;> simp [h2]
    · simp [h]
theorem comesB_irrefl (a : List Int) : comesB a a = false := by simp [comesB, lexB_irrefl]
theorem comesB_trans {a b c : List Int} (h : comesB a b = true) (k : comesB b c = true) : comesB a c = true := by
  unfold comesB at *
  by_cases h1 : a.length = b.length
  · rw [if_pos h1] at h
    by_cases h2 : b.length = c.length
    · rw [if_pos h2] at k; rw [if_pos (h1.trans h2)]; exact lexB_trans _ _ _ h k
    · rw [if_neg h2] at k; rw [if_neg (by omega)]; simp at k ⊢; omega
  · rw [if_neg h1] at h
    simp at h
    by_cases h2 : b.length = c.length
    · rw [if_neg (by omega)]; simp; omega
    · rw [if_neg h2] at k; simp at k; rw [if_neg (by omega)]; simp; omega
theorem comesB_total {a b : List Int} (h : comesB a b = false) (k : comesB b a = false) : a = b := by
  unfold comesB at *
  by_cases h1 : a.length = b.length
  · rw [if_pos h1] at h; rw [if_pos h1.symm] at k; exact lexB_total _ _ h1 h k
  · rw [if_neg h1] at h; rw [if_neg (Ne.symm h1)] at k; simp at h k; omega
/-- not after -/
def leB (a b : List Int) : Prop := comesB b a = false
theorem leB_refl (a : List Int) : leB a a := comesB_irrefl a
theorem leB_of {a b : List Int} (h : comesB a b = true) : leB a b := by
  unfold leB
  cases e : comesB b a with
  | false => rfl
  | true => have := comesB_trans h e; rw [comesB_irrefl] at this; cases this
theorem leB_iff {a b : List Int} : leB a b ↔ a = b ∨ comesB a b = true := by
  constructor
  · intro h
    cases e : comesB a b with
    | true => exact .inr rfl
    | false => exact .inl (comesB_total e h)
  · rintro (rfl | h)
    · exact leB_refl _
    · exact leB_of h
theorem leB_trans {a b c : List Int} (h : leB a b) (k : leB b c) : leB a c := by
  rcases leB_iff.1 h with rfl | h
  · exact k
  · rcases leB_iff.1 k with rfl | k
    · exact leB_of h
    · exact leB_of (comesB_trans h k)
theorem comesB_snoc {u v : List Int} (x y : Int) (h : comesB u v = true) : comesB (u ++ [x]) (v ++ [y]) = true := by
  unfold comesB at *
  simp only [List.length_append, List.length_singleton]
  by_cases h1 : u.length = v.length
  · rw [if_pos h1] at h
    rw [if_pos (by omega), lexB_append _ _ _ _ h1, if_neg (fun e => by rw [e, lexB_irrefl] at h; cases h)]
    exact h
  · rw [if_neg h1] at h
    rw [if_neg (by omega)]
    simp at h ⊢
    omega
theorem comesB_last (u : List Int) {x y : Int} (h : x < y) : comesB (u ++ [x]) (u ++ [y]) = true := by
  unfold comesB
  rw [if_pos (by simp), lexB_append _ _ _ _ rfl, if_pos rfl]
  simpa using h
theorem leB_snoc {u v : List Int} (x : Int) (h : leB u v) : leB (u ++ [x]) (v ++ [x]) := by
  rcases leB_iff.1 h with rfl | h
  · exact leB_refl _
  · exact leB_of (comesB_snoc x x h)
theorem comesB_nil (u : List Int) (x : Int) : comesB [] (u ++ [x]) = true := by
  unfold comesB
  rw [if_neg (by simp)]
  simp

theorem pigeon : ∀ (N len : Nat) (f : Nat → Nat), (∀ m, m < len → f m < N) → (∀ m m', m < len → m' < len → f m = f m' → m = m') → len ≤ N := by
  intro N
  induction N with
  | zero =>
    intro len f h1 _
    rcases Nat.eq_zero_or_pos len with h | h
    · omega
    · have := h1 0 h; omega
  | succ N ih =>
    intro len f h1 h2
    by_cases h : ∃ m, m < len ∧ f m = N
    · obtain ⟨m0, hm0, e0⟩ := h
      have := ih (len - 1) (fun m => if m < m0 then f m else f (m + 1)) (fun m hm => by
        show (if m < m0 then f m else f (m + 1)) < N
        split
        · have a := h1 m (by omega)
          have b : f m ≠ N := fun e => by have := h2 m m0 (by omega) hm0 (by omega); omega
          omega
        · have a := h1 (m + 1) (by omega)
          have b : f (m + 1) ≠ N := fun e => by have := h2 (m + 1) m0 (by omega) hm0 (by omega); omega
          omega) (fun m m' hm hm' e => by
        have e : (if m < m0 then f m else f (m + 1)) = (if m' < m0 then f m' else f (m' + 1)) := e
        split at e <;> split at e
        · exact h2 _ _ (by omega) (by omega) e
        · have := h2 _ _ (by omega) (by omega) e; omega
        · have := h2 _ _ (by omega) (by omega) e; omega
        · have := h2 _ _ (by omega) (by omega) e; omega)
      omega
    · have := ih len f (fun m hm => by
        have a := h1 m hm
        have b : f m ≠ N := fun e => h ⟨m, hm, e⟩
        omega) h2
      omega
/-! a search by first shortest words -/
abbrev Stp := List (Int × Int)
section
variable {σ : Type} [DecidableEq σ] (δ : σ → Nat → σ) (s0 : σ) (k : Nat)
def inn (i : Nat) (q : List σ × Stp) : Nat → List σ × Stp
  | 0 => q
  | x + 1 => if δ ((inn i q x).1.getD i s0) x ∈ (inn i q x).1 then inn i q x else ((inn i q x).1 ++ [δ ((inn i q x).1.getD i s0) x], (inn i q x).2 ++ [((i : Int), (x : Int))])
def bfs : Nat → List σ × Stp
  | 0 => ([s0], [(-1, 0)])
  | i + 1 => if i < (bfs i).1.length then inn δ s0 i (bfs i) k else bfs i
/-- the letters that lead to an entry, the last first -/
def upW (S : Stp) : Nat → Nat → List Int
  | 0, _ => []
  | f + 1, i => if (S.getD i (-1, 0)).1 < 0 then [] else (S.getD i (-1, 0)).2 :: upW S f (S.getD i (-1, 0)).1.toNat
def wordOf (S : Stp) (i : Nat) : List Int := (upW S (i + 1) i).reverse
/-- where a word leads -/
def runW (s : σ) : List Int → σ
  | [] => s
  | x :: w => runW (δ s x.toNat) w
omit [DecidableEq σ] in
theorem runW_snoc : ∀ (w : List Int) (s : σ) (x : Int), runW δ s (w ++ [x]) = δ (runW δ s w) x.toNat
  | [], _, _ => rfl
  | y :: w, s, x => by simp only [List.cons_append, runW]; exact runW_snoc w _ x

/-- what holds of the entries, when the letters below x of entry i have been looked at -/
structure BInv (i x : Nat) (q : List σ × Stp) : Prop where
  len : q.2.length = q.1.length
  pos : 0 < q.1.length
  zero : q.1.getD 0 s0 = s0
  root : q.2.getD 0 (-1, 0) = (-1, 0)
  ent : ∀ m, 0 < m → m < q.1.length → ∃ j y : Nat, q.2.getD m (-1, 0) = ((j : Int), (y : Int)) ∧ j < m ∧ y < k ∧ (j < i ∨ j = i ∧ y < x) ∧ q.1.getD m s0 = δ (q.1.getD j s0) y
  nodup : ∀ m m', m < q.1.length → m' < q.1.length → q.1.getD m s0 = q.1.getD m' s0 → m = m'
  sorted : ∀ m m', m < m' → m' < q.1.length → comesB (wordOf q.2 m) (wordOf q.2 m') = true
  closed : ∀ j y, j < q.1.length → y < k → (j < i ∨ j = i ∧ y < x) → ∃ m, m < q.1.length ∧ q.1.getD m s0 = δ (q.1.getD j s0) y ∧ leB (wordOf q.2 m) (wordOf q.2 j ++ [(y : Int)])
end

theorem getD_append_left {α : Type} {l l' : List α} {i : Nat} {d : α} (h : i < l.length) : (l ++ l').getD i d = l.getD i d := by
  simp [List.getD, List.getElem?_append_left h]
theorem getD_append_last {α : Type} {l : List α} {a d : α} : (l ++ [a]).getD l.length d = a := by simp [List.getD]
/-- parents lie ahead -/
def Tree (S : Stp) : Prop := ∀ m, m < S.length → (S.getD m (-1, 0)).1 < 0 ∨ ∃ j y : Nat, S.getD m (-1, 0) = ((j : Int), (y : Int)) ∧ j < m
theorem upW_fuel {S : Stp} (h : Tree S) : ∀ (f g i : Nat), i < f → i < g → i < S.length → upW S f i = upW S g i := by
  intro f
  induction f with
  | zero => intro g i hi; omega
  | succ f ih =>
    intro g i hi hg hl
    cases g with
    | zero => omega
    | succ g =>
      simp only [upW]
      rcases h i hl with h1 | ⟨j, y, h1, h2⟩
      · rw [if_pos h1, if_pos h1]
      · rw [h1]
        have e : ¬ ((j : Int) < 0) := by omega
        simp only [e, if_false, Int.toNat_natCast]
        rw [ih g j (by omega) (by omega) (by omega)]
theorem wordOf_root {S : Stp} (i : Nat) (h : (S.getD i (-1, 0)).1 < 0) : wordOf S i = [] := by
  unfold wordOf upW
  rw [if_pos h]; rfl
theorem wordOf_step {S : Stp} (h : Tree S) {i j y : Nat} (hi : i < S.length) (e : S.getD i (-1, 0) = ((j : Int), (y : Int))) (hj : j < i) : wordOf S i = wordOf S j ++ [(y : Int)] := by
  have h1 : upW S (i + 1) i = (y : Int) :: upW S i j := by
    simp only [upW]
    rw [e]
    have h2 : ¬ ((j : Int) < 0) := by omega
    simp only [h2, if_false, Int.toNat_natCast]
  unfold wordOf
  rw [h1, List.reverse_cons, upW_fuel h i (j + 1) j hj (by omega) (by omega)]
theorem upW_append {S : Stp} (e : Int × Int) : ∀ (f i : Nat), Tree S → i < S.length → upW (S ++ [e]) f i = upW S f i := by
  intro f
  induction f with
  | zero => intro i _ _; rfl
  | succ f ih =>
    intro i h hi
    simp only [upW]
    rw [getD_append_left hi]
    rcases h i hi with h1 | ⟨j, y, h1, h2⟩
    · rw [if_pos h1, if_pos h1]
    · rw [h1]
      have e : ¬ ((j : Int) < 0) := by omega
      simp only [e, if_false, Int.toNat_natCast]
      rw [ih j h (by omega)]
theorem wordOf_append {S : Stp} (e : Int × Int) {i : Nat} (h : Tree S) (hi : i < S.length) : wordOf (S ++ [e]) i = wordOf S i := by
  unfold wordOf; rw [upW_append e _ i h hi]

section
variable {σ : Type} [DecidableEq σ] {δ : σ → Nat → σ} {s0 : σ} {k : Nat}
theorem BInv.tree {i x : Nat} {q : List σ × Stp} (h : BInv δ s0 k i x q) : Tree q.2 := fun m hm => by
  rw [h.len] at hm
  by_cases h0 : 0 < m
  · obtain ⟨j, y, h1, h2, _⟩ := h.ent m h0 hm
    exact .inr ⟨j, y, h1, h2⟩
  · have : m = 0 := by omega
    subst this
    rw [h.root]; exact .inl (by decide)
/-- a word of an entry is the root's, or its parent's and a letter -/
theorem BInv.word {i x : Nat} {q : List σ × Stp} (h : BInv δ s0 k i x q) {m : Nat} (hm : m < q.1.length) : (m = 0 ∧ wordOf q.2 m = []) ∨ ∃ j y : Nat, j < m ∧ y < k ∧ (j < i ∨ j = i ∧ y < x) ∧ q.1.getD m s0 = δ (q.1.getD j s0) y ∧ wordOf q.2 m = wordOf q.2 j ++ [(y : Int)] := by
  by_cases h0 : 0 < m
  · obtain ⟨j, y, h1, h2, h3, h4, h5⟩ := h.ent m h0 hm
    exact .inr ⟨j, y, h2, h3, h4, h5, wordOf_step h.tree (by rw [h.len]; exact hm) h1 h2⟩
  · have : m = 0 := by omega
    subst this
    exact .inl ⟨rfl, wordOf_root 0 (by rw [h.root]; decide)⟩
/-- the words so far come before the next one -/
theorem BInv.next {i x : Nat} {q : List σ × Stp} (h : BInv δ s0 k i x q) (hi : i < q.1.length) {m : Nat} (hm : m < q.1.length) : comesB (wordOf q.2 m) (wordOf q.2 i ++ [(x : Int)]) = true := by
  rcases h.word hm with ⟨_, e⟩ | ⟨j, y, h1, h2, h3, h4, e⟩
  · rw [e]; exact comesB_nil _ _
  · rw [e]
    rcases h3 with h3 | ⟨rfl, h3⟩
    · exact comesB_snoc _ _ (h.sorted j i h3 hi)
    · exact comesB_last _ (by omega)
theorem binv_zero : BInv δ s0 k 0 0 ([s0], [(-1, 0)]) := by
  refine ⟨rfl, by simp, rfl, rfl, fun m h0 h1 => ?_, fun m m' h1 h2 _ => ?_, fun m m' h1 h2 => ?_, fun j y _ _ h => by omega⟩
  · simp at h1; omega
  · simp at h1 h2; omega
  · simp at h2; omega
/-- one letter more -/
theorem BInv.step {i x : Nat} {q : List σ × Stp} (h : BInv δ s0 k i x q) (hi : i < q.1.length) (hx : x < k) :
    BInv δ s0 k i (x + 1) (if δ (q.1.getD i s0) x ∈ q.1 then q else (q.1 ++ [δ (q.1.getD i s0) x], q.2 ++ [((i : Int), (x : Int))])) := by
  split
  · rename_i hm
    obtain ⟨m, hm1, hm2⟩ := List.getElem_of_mem hm
    refine ⟨h.len, h.pos, h.zero, h.root, fun m h0 h1 => ?_, h.nodup, h.sorted, fun j y hj hy hc => ?_⟩
    · obtain ⟨j, y, a1, a2, a3, a4, a5⟩ := h.ent m h0 h1
      exact ⟨j, y, a1, a2, a3, by omega, a5⟩
    · by_cases hc' : j < i ∨ j = i ∧ y < x
      · exact h.closed j y hj hy hc'
      · obtain ⟨rfl, rfl⟩ : j = i ∧ y = x := by omega
        exact ⟨m, hm1, by simp [List.getD, hm1, hm2], leB_of (h.next hi hm1)⟩
  · rename_i hm
    have ht := h.tree
    have hl2 : ∀ {m}, m < q.1.length → m < q.2.length := fun hm => by rw [h.len]; exact hm
    have g1 : ∀ {m}, m < q.1.length → (q.1 ++ [δ (q.1.getD i s0) x]).getD m s0 = q.1.getD m s0 := fun hm => getD_append_left hm
    have g2 : ∀ {m}, m < q.1.length → (q.2 ++ [((i : Int), (x : Int))]).getD m (-1, 0) = q.2.getD m (-1, 0) := fun hm => getD_append_left (hl2 hm)
    have w2 : ∀ {m}, m < q.1.length → wordOf (q.2 ++ [((i : Int), (x : Int))]) m = wordOf q.2 m := fun hm => wordOf_append _ ht (hl2 hm)
    have gl1 : (q.1 ++ [δ (q.1.getD i s0) x]).getD q.1.length s0 = δ (q.1.getD i s0) x := getD_append_last
    have gl2 : (q.2 ++ [((i : Int), (x : Int))]).getD q.1.length (-1, 0) = ((i : Int), (x : Int)) := by rw [← h.len]; exact getD_append_last
    have ht' : Tree (q.2 ++ [((i : Int), (x : Int))]) := fun m hm => by
      by_cases hlt : m < q.2.length
      · rw [getD_append_left hlt]; exact ht m hlt
      · have : m = q.1.length := by simp at hm; rw [h.len] at hlt hm; omega
        subst this
        rw [gl2]; exact .inr ⟨i, x, rfl, hi⟩
    have wl : wordOf (q.2 ++ [((i : Int), (x : Int))]) q.1.length = wordOf q.2 i ++ [(x : Int)] := by
      rw [wordOf_step ht' (by simp [h.len]) gl2 hi, w2 hi]
    have hnm : ∀ m, m < q.1.length → q.1.getD m s0 ≠ δ (q.1.getD i s0) x := fun m hm1 e => hm (by
      rw [← e]
      have : q.1.getD m s0 = q.1[m] := by simp [List.getD, hm1]
      rw [this]; exact List.getElem_mem hm1)
    refine ⟨by simp [h.len], by simp, by rw [g1 h.pos]; exact h.zero, by rw [g2 h.pos]; exact h.root, fun m h0 h1 => ?_, fun m m' h1 h2 he => ?_, fun m m' h1 h2 => ?_, fun j y hj hy hc => ?_⟩
    · simp at h1
      by_cases hlt : m < q.1.length
      · obtain ⟨j, y, a1, a2, a3, a4, a5⟩ := h.ent m h0 hlt
        exact ⟨j, y, by rw [g2 hlt]; exact a1, a2, a3, by omega, by rw [g1 hlt, g1 (by omega)]; exact a5⟩
      · have : m = q.1.length := by omega
        subst this
        exact ⟨i, x, gl2, hi, hx, .inr ⟨rfl, by omega⟩, by rw [gl1, g1 hi]⟩
    · simp at h1 h2
      by_cases hlt : m < q.1.length <;> by_cases hlt' : m' < q.1.length
      · rw [g1 hlt, g1 hlt'] at he; exact h.nodup m m' hlt hlt' he
      · have : m' = q.1.length := by omega
        subst this
        rw [g1 hlt, gl1] at he; exact absurd he (hnm m hlt)
      · have : m = q.1.length := by omega
        subst this
        rw [g1 hlt', gl1] at he; exact absurd he.symm (hnm m' hlt')
      · omega
    · simp at h2
      by_cases hlt' : m' < q.1.length
      · rw [w2 (by omega), w2 hlt']; exact h.sorted m m' h1 hlt'
      · have : m' = q.1.length := by omega
        subst this
        rw [w2 h1, wl]; exact h.next hi h1
    · simp at hj
      have key : ∀ m, m < q.1.length → q.1.getD m s0 = δ (q.1.getD j s0) y → j < q.1.length → leB (wordOf q.2 m) (wordOf q.2 j ++ [(y : Int)]) → ∃ m, m < (q.1 ++ [δ (q.1.getD i s0) x]).length ∧ (q.1 ++ [δ (q.1.getD i s0) x]).getD m s0 = δ ((q.1 ++ [δ (q.1.getD i s0) x]).getD j s0) y ∧ leB (wordOf (q.2 ++ [((i : Int), (x : Int))]) m) (wordOf (q.2 ++ [((i : Int), (x : Int))]) j ++ [(y : Int)]) := fun m a1 a2 a3 a4 =>
        ⟨m, by simp; omega, by rw [g1 a1, g1 a3]; exact a2, by rw [w2 a1, w2 a3]; exact a4⟩
      by_cases hc' : j < i ∨ j = i ∧ y < x
      · obtain ⟨m, a1, a2, a3⟩ := h.closed j y (by omega) hy hc'
        exact key m a1 a2 (by omega) a3
      · obtain ⟨rfl, rfl⟩ : j = i ∧ y = x := by omega
        exact ⟨q.1.length, by simp, by rw [gl1, g1 hi], by rw [wl, w2 hi]; exact leB_refl _⟩
theorem inn_inv {i : Nat} {q : List σ × Stp} (h : BInv δ s0 k i 0 q) (hi : i < q.1.length) : ∀ x, x ≤ k → BInv δ s0 k i x (inn δ s0 i q x) ∧ q.1.length ≤ (inn δ s0 i q x).1.length
  | 0, _ => ⟨h, Nat.le_refl _⟩
  | x + 1, hx => by
    obtain ⟨h1, h2⟩ := inn_inv h hi x (by omega)
    refine ⟨h1.step (by omega) (by omega), ?_⟩
    unfold inn
    split
    · exact h2
    · simp; omega
theorem BInv.up {i : Nat} {q : List σ × Stp} (h : BInv δ s0 k i k q) : BInv δ s0 k (i + 1) 0 q := by
  refine ⟨h.len, h.pos, h.zero, h.root, fun m h0 h1 => ?_, h.nodup, h.sorted, fun j y hj hy hc => h.closed j y hj hy (by omega)⟩
  obtain ⟨j, y, a1, a2, a3, a4, a5⟩ := h.ent m h0 h1
  exact ⟨j, y, a1, a2, a3, by omega, a5⟩
theorem BInv.mono {i i' : Nat} {q : List σ × Stp} (h : BInv δ s0 k i 0 q) (hi : q.1.length ≤ i) (hii : i ≤ i') : BInv δ s0 k i' 0 q := by
  refine ⟨h.len, h.pos, h.zero, h.root, fun m h0 h1 => ?_, h.nodup, h.sorted, fun j y hj hy hc => h.closed j y hj hy (by omega)⟩
  obtain ⟨j, y, a1, a2, a3, a4, a5⟩ := h.ent m h0 h1
  exact ⟨j, y, a1, a2, a3, by omega, a5⟩
theorem bfs_inv : ∀ i, BInv δ s0 k i 0 (bfs δ s0 k i)
  | 0 => binv_zero
  | i + 1 => by
    have h := bfs_inv i
    unfold bfs
    split
    · rename_i hi
      exact (inn_inv h hi k (Nat.le_refl _)).1.up
    · rename_i hi
      exact h.mono (by omega) (by omega)

theorem BInv.done {i : Nat} {q : List σ × Stp} (h : BInv δ s0 k i 0 q) (hi : q.1.length ≤ i) : BInv δ s0 k q.1.length 0 q := by
  refine ⟨h.len, h.pos, h.zero, h.root, fun m h0 h1 => ?_, h.nodup, h.sorted, fun j y hj hy hc => h.closed j y hj hy (by omega)⟩
  obtain ⟨j, y, a1, a2, a3, a4, a5⟩ := h.ent m h0 h1
  exact ⟨j, y, a1, a2, a3, by omega, a5⟩
/-- more entries -/
structure More (s0 : σ) (q q' : List σ × Stp) : Prop where
  len : q.1.length ≤ q'.1.length
  l1 : ∀ m, m < q.1.length → q'.1.getD m s0 = q.1.getD m s0
  l2 : ∀ m, m < q.1.length → q'.2.getD m (-1, 0) = q.2.getD m (-1, 0)
theorem More.refl (q : List σ × Stp) : More s0 q q := ⟨Nat.le_refl _, fun _ _ => rfl, fun _ _ => rfl⟩
theorem More.trans {q q' q'' : List σ × Stp} (h : More s0 q q') (h' : More s0 q' q'') : More s0 q q'' :=
  ⟨Nat.le_trans h.len h'.len, fun m hm => (h'.l1 m (Nat.lt_of_lt_of_le hm h.len)).trans (h.l1 m hm), fun m hm => (h'.l2 m (Nat.lt_of_lt_of_le hm h.len)).trans (h.l2 m hm)⟩
theorem inn_more {i : Nat} {q : List σ × Stp} (hq : q.2.length = q.1.length) : ∀ x, More s0 q (inn δ s0 i q x) ∧ (inn δ s0 i q x).2.length = (inn δ s0 i q x).1.length
  | 0 => ⟨More.refl _, hq⟩
  | x + 1 => by
    obtain ⟨h1, h2⟩ := inn_more (i := i) hq x
    unfold inn
    split
    · exact ⟨h1, h2⟩
    · refine ⟨h1.trans ⟨by simp, fun m hm => getD_append_left hm, fun m hm => getD_append_left (by rw [h2]; exact hm)⟩, by simp [h2]⟩
theorem bfs_more {i : Nat} : ∀ d, More s0 (bfs δ s0 k i) (bfs δ s0 k (i + d))
  | 0 => More.refl _
  | d + 1 => by
    refine (bfs_more d).trans ?_
    show More s0 _ (bfs δ s0 k (i + d + 1))
    rw [bfs]
    split
    · exact (inn_more (bfs_inv (i + d)).len k).1
    · exact More.refl _
theorem bfs_stop {i : Nat} (h : (bfs δ s0 k i).1.length ≤ i) : ∀ d, bfs δ s0 k (i + d) = bfs δ s0 k i
  | 0 => rfl
  | d + 1 => by
    show bfs δ s0 k (i + d + 1) = _
    rw [bfs, bfs_stop h d, if_neg (by omega)]
theorem upW_more {q q' : List σ × Stp} (h : More s0 q q') (ht : Tree q.2) (hl : q.2.length = q.1.length) : ∀ (f i : Nat), i < q.1.length → upW q'.2 f i = upW q.2 f i := by
  intro f
  induction f with
  | zero => intro i _; rfl
  | succ f ih =>
    intro i hi
    simp only [upW]
    rw [h.l2 i hi]
    rcases ht i (by omega) with h1 | ⟨j, y, h1, h2⟩
    · rw [if_pos h1, if_pos h1]
    · rw [h1]
      have e : ¬ ((j : Int) < 0) := by omega
      simp only [e, if_false, Int.toNat_natCast]
      rw [ih j (by omega)]
theorem wordOf_more {q q' : List σ × Stp} (h : More s0 q q') (ht : Tree q.2) (hl : q.2.length = q.1.length) {i : Nat} (hi : i < q.1.length) : wordOf q'.2 i = wordOf q.2 i := by
  unfold wordOf; rw [upW_more h ht hl _ i hi]
/-- the search has come to an end -/
structure Done (δ : σ → Nat → σ) (s0 : σ) (k : Nat) (q : List σ × Stp) : Prop where
  inv : BInv δ s0 k q.1.length 0 q
theorem Done.reach {q : List σ × Stp} (h : Done δ s0 k q) : ∀ m, m < q.1.length → runW δ s0 (wordOf q.2 m) = q.1.getD m s0 ∧ ∀ x ∈ wordOf q.2 m, 0 ≤ x ∧ x < k := by
  intro m
  induction m using Nat.strongRecOn with
  | _ m ih =>
    intro hm
    rcases h.inv.word hm with ⟨rfl, e⟩ | ⟨j, y, h1, h2, _, h4, e⟩
    · rw [e, h.inv.zero]; exact ⟨rfl, fun x hx => by cases hx⟩
    · obtain ⟨i1, i2⟩ := ih j h1 (by omega)
      rw [e, runW_snoc, i1, h4]
      refine ⟨by simp, fun x hx => ?_⟩
      rcases List.mem_append.1 hx with hx | hx
      · exact i2 x hx
      · simp at hx; subst hx; omega
/-- every word leads to an entry, whose word does not come after it -/
theorem Done.first {q : List σ × Stp} (h : Done δ s0 k q) : ∀ w : List Int, (∀ x ∈ w, 0 ≤ x ∧ x < k) → ∃ m, m < q.1.length ∧ runW δ s0 w = q.1.getD m s0 ∧ leB (wordOf q.2 m) w := by
  intro w
  generalize hn : w.length = n
  induction n generalizing w with
  | zero =>
    intro _
    have : w = [] := List.length_eq_zero_iff.1 hn
    subst this
    exact ⟨0, h.inv.pos, h.inv.zero.symm, by rw [wordOf_root 0 (by rw [h.inv.root]; decide)]; exact leB_refl _⟩
  | succ n ih =>
    intro hw
    obtain ⟨u, x, rfl⟩ : ∃ u x, w = u ++ [x] := by
      refine ⟨w.dropLast, w.getLast (fun e => by simp [e] at hn), (List.dropLast_concat_getLast _).symm⟩
    obtain ⟨m, h1, h2, h3⟩ := ih u (by simp at hn; omega) (fun y hy => hw y (by simp [hy]))
    have hx := hw x (by simp)
    obtain ⟨m', a1, a2, a3⟩ := h.inv.closed m x.toNat h1 (by omega) (.inl h1)
    refine ⟨m', a1, by rw [runW_snoc, h2, a2], leB_trans a3 ?_⟩
    have : ((x.toNat : Nat) : Int) = x := by omega
    rw [this]
    exact leB_snoc x h3
end
end Go.AM
end

/-! text TaT -/
section
namespace Go.AM
open Go Go.Proofs

theorem t3 : tyP Try.prog 3 = some ⟨1, 8, .int .i64, .int .i64 0⟩ := by kernel_rfl
theorem t4 : tyP Try.prog 4 = some ⟨1, 1, .bool, .bool false⟩ := by kernel_rfl
theorem t5 : tyP Try.prog 5 = some ⟨1, 1, .int .u8, .int .u8 0⟩ := by kernel_rfl
theorem t9 : tyP Try.prog 9 = some ⟨1, 16, .str, .str ByteArray.empty⟩ := by kernel_rfl
theorem t22 : tyP Try.prog 22 = some ⟨8, 64, .array 8 3, .agg [.int .i64 0, .int .i64 0, .int .i64 0, .int .i64 0, .int .i64 0, .int .i64 0, .int .i64 0, .int .i64 0]⟩ := by kernel_rfl
theorem t24 : tyP Try.prog 24 = some ⟨1, 24, .slice 27, .lit (.slice none 0 0)⟩ := by kernel_rfl
theorem t26 : tyP Try.prog 26 = some ⟨1, 24, .struct [(0, 24)], .agg [.lit (.slice none 0 0)]⟩ := by kernel_rfl
theorem t27 : tyP Try.prog 27 = some ⟨1, 24, .slice 3, .lit (.slice none 0 0)⟩ := by kernel_rfl
theorem t28 : tyP Try.prog 28 = some ⟨1, 8, .int .i64, .int .i64 0⟩ := by kernel_rfl
theorem t43 : tyP Try.prog 43 = some ⟨1, 2, .int .u16, .int .u16 0⟩ := by kernel_rfl
theorem t44 : tyP Try.prog 44 = some ⟨1, 2, .int .u16, .int .u16 0⟩ := by kernel_rfl
theorem t46 : tyP Try.prog 46 = some ⟨1, 24, .slice 4, .lit (.slice none 0 0)⟩ := by kernel_rfl
theorem t49 : tyP Try.prog 49 = some ⟨1, 24, .slice 44, .lit (.slice none 0 0)⟩ := by kernel_rfl
theorem t51 : tyP Try.prog 51 = some ⟨2, 16, .struct [(0, 3), (1, 3)], .agg [.int .i64 0, .int .i64 0]⟩ := by kernel_rfl
theorem t52 : tyP Try.prog 52 = some ⟨1, 24, .slice 51, .lit (.slice none 0 0)⟩ := by kernel_rfl
theorem t53 : tyP Try.prog 53 = some ⟨1, 8, .map 44 4, .lit (.map none)⟩ := by kernel_rfl
theorem t62 : tyP Try.prog 62 = some ⟨1, 8, .int .u64, .int .u64 0⟩ := by kernel_rfl
attribute [push_cast] t3 t4 t5 t9 t22 t24 t26 t27 t28 t43 t44 t46 t49 t51 t52 t53 t62
end Go.AM
end

/-! text Ta1 -/
section
namespace Go.AM
open Go Go.Proofs

/- mizmaze/mizmazetop.cycle -/
def c5 : VCfg := ⟨⟨[], [], [], [0, 1, 4]⟩, [], [], []⟩
theorem f5 (i n : Int) (hn : 0 < n) (hn2 : n ≤ 4611686018427387904) :
    ACall Try.prog 5 [.int .i64 i, .int .i64 n] (fun r objs => r = .int .i64 (i % n) ∧ objs = []) := by
  refine acall_intro (tyP_ok _) c5 100 [.tmp 4] Try.func5 rfl (by rfl) rfl (by kernel_rfl) ?_
  unfold Try.f5
  simp (config := {implicitDefEqProofs := false}) only [push_cast, c5, Nat.reduceAdd, Nat.reduceSub]
  exact ⟨by omega, by omega, cyc hn hn2⟩

/- mizmaze/mizmazetop.sameInts -/
def c17 : VCfg := ⟨⟨[], [], [], [0, 1, 4, 5, 10, 14, 25]⟩, [(6, (.op 0 .loose (.op 1 .loose (.op 2 .loose (.op 3 .loose (.op 4 .loose (.op 5 .loose (.op 6 .loose (.op 7 .loose (.op 8 .loose .nil))))))))))], [], []⟩
theorem f17 (x y : List Int) (z z' : Bool) (hx : x.length ≤ 4611686018427387904) :
    ACall Try.prog 17 [.pay (.ints .i64 x) z, .pay (.ints .i64 y) z'] (fun r objs => r = .bool (decide (x = y)) ∧ objs = []) := by
  refine acall_intro (tyP_ok _) c17 2000 [.tmp 4] Try.func17 rfl (by rfl) rfl (by kernel_rfl) ?_
  unfold Try.f17
  simp (config := {implicitDefEqProofs := false, maxSteps := 4000000}) (disch := omega) only [push_cast, c17, Nat.reduceAdd, Nat.reduceSub, Nat.reduceMul, Nat.reduceBEq, Int.reduceToNat, Int.reduceNeg, Int.reduceLE, Int.reduceLT, reduceCtorEq]
  refine ⟨fun hne => ?_, fun heq => ?_⟩
  · have : x ≠ y := fun e => by subst e; simp at hne
    simp [this]
  · refine awp_upto (tyP_ok _) c17 2000 [0, 1, 4, 5] (x.length) (fun i => ∀ j, j < i → x.getD j 0 = y.getD j 0) (fun i => ⟨26, [(0, .pay (.ints .i64 x) z), (1, .pay (.ints .i64 y) z'), (4, .bool false), (5, .int .i64 i)], []⟩) (by kernel_rfl) rfl ?_ ?_
    · exact fun j hj => by omega
    · intro i hi hp
      simp (config := {implicitDefEqProofs := false, maxSteps := 4000000}) (disch := omega) only [push_cast, c17, Nat.reduceAdd, Nat.reduceSub, Nat.reduceMul, Nat.reduceBEq, Int.reduceToNat, Int.reduceNeg, Int.reduceLE, Int.reduceLT, reduceCtorEq]
      refine ⟨fun hlt => ⟨hlt, by omega, fun hne => ?_, fun he => ⟨hlt, fun j hj => ?_⟩⟩, fun hge => ?_⟩
      · have : x ≠ y := fun e => hne (by rw [e])
        simp [this]
      · rcases Nat.lt_succ_iff_lt_or_eq.1 hj with hj | rfl
        · exact hp j hj
        · exact he
      · have : x = y := ints_eq heq fun j hj => hp j (by omega)
        simp [this]
/- mizmaze/mizmazetop.lead -/
def c18 : VCfg := ⟨⟨[], [], [], [0, 1, 2, 3, 6, 7, 11]⟩, [(4, (.op 0 .loose (.op 1 .loose (.op 2 .loose (.op 3 .loose (.op 4 .loose (.op 5 .loose (.op 6 .loose (.op 7 .loose (.op 8 .loose (.op 9 .loose (.op 10 .loose (.op 11 .loose .nil)))))))))))))], [], []⟩
/-- where a word leads -/
def leadG (a : List (List Int)) (s : Int) : List Int → Int
  | [] => s
  | x :: r => leadG a ((a.getD s.toNat []).getD x.toNat 0) r
theorem leadG_snoc (a : List (List Int)) : ∀ (w : List Int) (s : Int) (x : Int), leadG a s (w ++ [x]) = (a.getD (leadG a s w).toNat []).getD x.toNat 0
  | [], _, _ => rfl
  | y :: w, s, x => by simp only [List.cons_append, leadG]; exact leadG_snoc a w _ x
theorem leadG_take (a : List (List Int)) (s : Int) (w : List Int) (i : Nat) (h : i < w.length) : leadG a s (w.take (i + 1)) = (a.getD (leadG a s (w.take i)).toNat []).getD (w.getD i 0).toNat 0 := by
  rw [List.take_succ_eq_append_getElem h, leadG_snoc]
  simp [h]
/-- a valid automaton with k letters -/
structure Vld (a : List (List Int)) (k : Nat) : Prop where
  n1 : 1 ≤ a.length
  n2 : a.length ≤ 60
  k1 : 1 ≤ k
  k2 : k ≤ 6
  row : ∀ r ∈ a, r.length = k ∧ ∀ t ∈ r, 0 ≤ t ∧ t < a.length
theorem Vld.at {a : List (List Int)} {k : Nat} (h : Vld a k) {s x : Int} (h1 : 0 ≤ s) (h2 : s < a.length) (h3 : 0 ≤ x) (h4 : x < k) : (a.getD s.toNat []).length = k ∧ 0 ≤ (a.getD s.toNat []).getD x.toNat 0 ∧ (a.getD s.toNat []).getD x.toNat 0 < a.length := by
  have hs : s.toNat < a.length := by omega
  have e : a.getD s.toNat [] = a[s.toNat] := by simp [hs]
  have hr := h.row a[s.toNat] (List.getElem_mem hs)
  rw [e]
  refine ⟨hr.1, ?_⟩
  have hx : x.toNat < a[s.toNat].length := by rw [hr.1]; omega
  have e2 : a[s.toNat].getD x.toNat 0 = a[s.toNat][x.toNat] := by simp [hx]
  rw [e2]
  exact hr.2 _ (List.getElem_mem hx)
theorem Vld.lead {a : List (List Int)} {k : Nat} (h : Vld a k) : ∀ (w : List Int) {s : Int}, 0 ≤ s → s < a.length → (∀ x ∈ w, 0 ≤ x ∧ x < k) → 0 ≤ leadG a s w ∧ leadG a s w < a.length
  | [], s, h1, h2, _ => ⟨h1, h2⟩
  | x :: w, s, h1, h2, hw => by
    obtain ⟨h3, h4⟩ := hw x (by simp)
    obtain ⟨_, h5, h6⟩ := h.at h1 h2 h3 h4
    exact h.lead w h5 h6 fun y hy => hw y (by simp [hy])
theorem Vld.k0 {a : List (List Int)} {k : Nat} (h : Vld a k) : (a.getD 0 []).length = k := by
  have := (h.at (s := 0) (x := 0) (by omega) (by have := h.n1; omega) (by omega) (by have := h.k1; omega)).1
  simpa using this
theorem f18 (a : List (List Int)) (z z' : Bool) (s : Int) (word : List Int) (hx : word.length ≤ 4611686018427387904) (k : Nat) (hv : Vld a k) (hs : 0 ≤ s ∧ s < a.length) (hw : ∀ x ∈ word, 0 ≤ x ∧ x < k) :
    ACall Try.prog 18 [.agg [.pay (.rows a) z], .int .i64 s, .pay (.ints .i64 word) z'] (fun r objs => r = .int .i64 (leadG a s word) ∧ objs = []) := by
  refine acall_intro (tyP_ok _) c18 2000 [.tmp 6] Try.func18 rfl (by rfl) rfl (by kernel_rfl) ?_
  unfold Try.f18
  simp (config := {implicitDefEqProofs := false, maxSteps := 4000000}) (disch := omega) only [push_cast, c18, Nat.reduceAdd, Nat.reduceSub, Nat.reduceMul, Nat.reduceBEq, Int.reduceToNat, Int.reduceNeg, Int.reduceLE, Int.reduceLT, reduceCtorEq]
  refine awp_upto (tyP_ok _) c18 2000 [1, 2, 3, 6, 7] (word.length) (fun _ => True) (fun i => ⟨26, [(1, .int .i64 (leadG a s (word.take i))), (2, .pay (.ints .i64 word) z'), (3, .fref [.pay (.rows a) z]), (6, .int .i64 0), (7, .int .i64 i)], []⟩) (by kernel_rfl) rfl ?_ ?_
  · trivial
  intro i hi _
  simp (config := {implicitDefEqProofs := false, maxSteps := 4000000}) (disch := omega) only [push_cast, c18, Nat.reduceAdd, Nat.reduceSub, Nat.reduceMul, Nat.reduceBEq, Int.reduceToNat, Int.reduceNeg, Int.reduceLE, Int.reduceLT, reduceCtorEq]
  refine ⟨fun hlt => ?_, fun hge => by rw [List.take_of_length_le hge]⟩
  have hl := hv.lead (word.take i) hs.1 hs.2 fun x hx => hw x (List.mem_of_mem_take hx)
  have hx1 : 0 ≤ word.getD i 0 ∧ word.getD i 0 < k := by
    have : word.getD i 0 = word[i] := by simp [hlt]
    rw [this]; exact hw _ (List.getElem_mem hlt)
  have ha := (hv.at hl.1 hl.2 hx1.1 hx1.2).1
  exact ⟨hl, hlt, ⟨hx1.1, by rw [ha]; exact hx1.2⟩, hlt, (leadG_take a s word i hlt).symm⟩
/- mizmaze/mizmazetop.right -/
def c12 : VCfg := ⟨⟨[], [], [], [0, 1, 2, 4, 5, 9, 28]⟩, [(4, (.op 0 .loose (.op 1 .loose (.op 2 .loose (.op 3 .loose (.op 4 .loose (.op 5 .loose (.op 6 .loose (.op 7 .loose (.op 8 .loose (.op 9 .loose (.op 10 .loose (.op 11 .loose (.op 12 .loose (.op 13 .loose (.op 14 .loose (.op 15 .loose (.op 16 .loose .nil))))))))))))))))))], [], []⟩
def rightB (k : Nat) (word : List Int) : Bool := word.all (fun x => decide (0 ≤ x) && decide (x < k)) && decide (word.length ≤ 40000)
theorem getD_mem {l : List Int} {i : Nat} (h : i < l.length) : l.getD i 0 ∈ l := by
  have : l.getD i 0 = l[i] := by simp [h]
  rw [this]; exact List.getElem_mem h
theorem rightB_iff {k : Nat} {word : List Int} : rightB k word = true ↔ (∀ x ∈ word, 0 ≤ x ∧ x < k) ∧ word.length ≤ 40000 := by
  simp [rightB, List.all_eq_true]
theorem rightB_false {k : Nat} {word : List Int} {x : Int} (hx : x ∈ word) (h : x < 0 ∨ (k : Int) ≤ x) : false = rightB k word := by
  cases e : rightB k word with
  | false => rfl
  | true => have := (rightB_iff.1 e).1 x hx; omega
theorem f12 (a : List (List Int)) (z z' : Bool) (word : List Int) (hx : word.length ≤ 4611686018427387904) (ha : 0 < a.length) :
    ACall Try.prog 12 [.agg [.pay (.rows a) z], .pay (.ints .i64 word) z'] (fun r objs => r = .bool (rightB (a.getD 0 []).length word) ∧ objs = []) := by
  refine acall_intro (tyP_ok _) c12 2000 [.tmp 4] Try.func12 rfl (by rfl) rfl (by kernel_rfl) ?_
  unfold Try.f12
  simp (config := {implicitDefEqProofs := false, maxSteps := 4000000}) (disch := omega) only [push_cast, c12, Nat.reduceAdd, Nat.reduceSub, Nat.reduceMul, Nat.reduceBEq, Int.reduceToNat, Int.reduceNeg, Int.reduceLE, Int.reduceLT, reduceCtorEq]
  refine awp_upto (tyP_ok _) c12 2000 [1, 2, 4, 5] (word.length) (fun i => ∀ j, j < i → 0 ≤ word.getD j 0 ∧ word.getD j 0 < (a.getD 0 []).length) (fun i => ⟨32, [(1, .pay (.ints .i64 word) z'), (2, .fref [.pay (.rows a) z]), (4, .bool false), (5, .int .i64 i)], []⟩) (by kernel_rfl) rfl ?_ ?_
  · exact fun j hj => by omega
  intro i hi hr
  simp (config := {implicitDefEqProofs := false, maxSteps := 4000000}) (disch := omega) only [push_cast, c12, Nat.reduceAdd, Nat.reduceSub, Nat.reduceMul, Nat.reduceBEq, Int.reduceToNat, Int.reduceNeg, Int.reduceLE, Int.reduceLT, reduceCtorEq]
  refine ⟨fun hlt => ⟨hlt, fun h => rightB_false (getD_mem hlt) (.inl h), fun h => ⟨hlt, by omega, fun h2 => rightB_false (getD_mem hlt) (.inr h2), fun h2 => ⟨hlt, fun j hj => ?_⟩⟩⟩, fun hge => ?_⟩
  · rcases Nat.lt_succ_iff_lt_or_eq.1 hj with hj | rfl
    · exact hr j hj
    · exact ⟨h, h2⟩
  · have h1 : ∀ x ∈ word, 0 ≤ x ∧ x < ((a.getD 0 []).length : Int) := fun x hx => by
      obtain ⟨j, hj, rfl⟩ := List.getElem_of_mem hx
      have := hr j (by omega)
      have e : word.getD j 0 = word[j] := by simp [hj]
      rw [e] at this; exact this
    rw [Bool.eq_iff_iff, rightB_iff, decide_eq_true_eq]
    exact ⟨fun h => ⟨h1, by omega⟩, fun h => by have := h.2; omega⟩
end Go.AM
end

/-! text Ta2 -/
section
namespace Go.AM
open Go Go.Proofs

/- mizmaze/auto.Letters -/
def c23 : VCfg := ⟨⟨[], [], [], [0, 1, 2]⟩, [], [], []⟩
theorem f23 (a : List (List Int)) (z : Bool) (h : 0 < a.length) : ACall Try.prog 23 [.agg [.pay (.rows a) z]] (fun r objs => r = .int .i64 (a.getD 0 []).length ∧ objs = []) := by
  refine acall_intro (tyP_ok _) c23 2000 [.tmp 2] Try.func23 rfl (by rfl) rfl (by kernel_rfl) ?_
  unfold Try.f23
  simp (config := {implicitDefEqProofs := false, maxSteps := 4000000}) (disch := omega) only [push_cast, c23, Nat.reduceAdd, Nat.reduceSub, Nat.reduceMul, Nat.reduceBEq, Int.reduceToNat, Int.reduceNeg, Int.reduceLE, Int.reduceLT, reduceCtorEq]
  exact h
/- mizmaze/auto.within[[]int]$1 -/
def c31 : VCfg := ⟨⟨[], [], [], [0, 1, 3]⟩, [], [], []⟩
theorem f31 (x n : Int) : ACall Try.prog 31 [.int .i64 x, .fref [.int .i64 n]] (fun r objs => r = .bool (decide (x < 0 ∨ n ≤ x)) ∧ objs = []) := by
  refine acall_intro (tyP_ok _) c31 2000 [.tmp 3] Try.func31 rfl (by rfl) rfl (by kernel_rfl) ?_
  unfold Try.f31
  simp (config := {implicitDefEqProofs := false, maxSteps := 4000000}) (disch := omega) only [push_cast, c31, Nat.reduceAdd, Nat.reduceSub, Nat.reduceMul, Nat.reduceBEq, Int.reduceToNat, Int.reduceNeg, Int.reduceLE, Int.reduceLT, reduceCtorEq]
  exact ⟨fun h => by simp [h], fun h => by simp [show ¬ x < 0 by omega]⟩
/- slices.IndexFunc[[]int,int] -/
def c32 : VCfg := ⟨⟨[], [], [], [0, 1, 4, 5, 7, 8, 9, 16]⟩, [], [], []⟩
theorem f32 (l : List Int) (z : Bool) (hl : l.length ≤ 4611686018427387904) (g : FuncId) (caps : List AV) (p : Int → Bool) (hg : ∀ x, ACall Try.prog g (.int .i64 x :: caps) (fun r objs => r = .bool (p x) ∧ objs = [])) (hc : NoH caps) :
    ACall Try.prog 32 [.pay (.ints .i64 l) z, .clo g caps] (fun r objs => ∃ n : Int, (0 ≤ n ↔ ∃ x ∈ l, p x = true) ∧ r = .int .i64 n ∧ objs = []) := by
  refine acall_intro (tyP_ok _) c32 2000 [.tmp 4] Try.func32 rfl (by rfl) rfl (by kernel_rfl) ?_
  unfold Try.f32
  simp (config := {implicitDefEqProofs := false, maxSteps := 4000000}) (disch := omega) only [push_cast, c32, Nat.reduceAdd, Nat.reduceSub, Nat.reduceMul, Nat.reduceBEq, Int.reduceToNat, Int.reduceNeg, Int.reduceLE, Int.reduceLT, reduceCtorEq]
  refine awp_upto (tyP_ok _) c32 2000 [0, 1, 4, 7, 8] (l.length) (fun i => ∀ j, j < i → p (l.getD j 0) = false) (fun i => ⟨19, [(0, .pay (.ints .i64 l) z), (1, .clo g caps), (4, .int .i64 0), (7, .int .i64 l.length), (8, .int .i64 i)], []⟩) (by kernel_rfl) ?_ ?_ ?_
  · simp (config := {implicitDefEqProofs := false, maxSteps := 4000000}) (disch := omega) only [push_cast, c32, hc.hs, hc.mp, Nat.reduceAdd, Nat.reduceSub, Nat.reduceMul, Nat.reduceBEq, Int.reduceToNat, Int.reduceNeg, Int.reduceLE, Int.reduceLT, reduceCtorEq]
  · exact fun j hj => by omega
  intro i hi hr
  simp (config := {implicitDefEqProofs := false, maxSteps := 4000000}) (disch := omega) only [push_cast, c32, hc.hs, hc.mp, hc.no3, Nat.reduceAdd, Nat.reduceSub, Nat.reduceMul, Nat.reduceBEq, Int.reduceToNat, Int.reduceNeg, Int.reduceLE, Int.reduceLT, reduceCtorEq]
  refine ⟨fun hlt => ⟨hlt, ?_⟩, fun hge => ⟨-1, ?_, rfl⟩⟩
  · refine callW_eq _ _ (hg _) ?_
    simp (config := {implicitDefEqProofs := false, maxSteps := 4000000}) (disch := omega) only [push_cast, c32, hc.hs, hc.mp, hc.no3, Nat.reduceAdd, Nat.reduceSub, Nat.reduceMul, Nat.reduceBEq, Int.reduceToNat, Int.reduceNeg, Int.reduceLE, Int.reduceLT, reduceCtorEq]
    refine ⟨fun h => ⟨i, ⟨fun _ => ⟨_, getD_mem hlt, h⟩, fun _ => by omega⟩, rfl⟩, fun h => ⟨hlt, fun j hj => ?_⟩⟩
    rcases Nat.lt_succ_iff_lt_or_eq.1 hj with hj | rfl
    · exact hr j hj
    · exact h
  · refine ⟨fun h => by omega, fun ⟨x, hx, h⟩ => ?_⟩
    obtain ⟨j, hj, rfl⟩ := List.getElem_of_mem hx
    have := hr j (by omega)
    have e : l.getD j 0 = l[j] := by simp [hj]
    rw [e, h] at this
    cases this
/- slices.ContainsFunc[[]int,int] -/
def c30 : VCfg := ⟨⟨[], [], [], [0, 1, 4]⟩, [], [], []⟩
theorem f30 (l : List Int) (z : Bool) (hl : l.length ≤ 4611686018427387904) (g : FuncId) (caps : List AV) (p : Int → Bool) (hg : ∀ x, ACall Try.prog g (.int .i64 x :: caps) (fun r objs => r = .bool (p x) ∧ objs = [])) (hc : NoH caps) :
    ACall Try.prog 30 [.pay (.ints .i64 l) z, .clo g caps] (fun r objs => r = .bool (l.any p) ∧ objs = []) := by
  refine acall_intro (tyP_ok _) c30 2000 [.tmp 4] Try.func30 rfl (by rfl) rfl (by kernel_rfl) ?_
  unfold Try.f30
  simp (config := {implicitDefEqProofs := false, maxSteps := 4000000}) (disch := omega) only [push_cast, c30, hc.hs, hc.mp, hc.no2, hc.no3, Nat.reduceAdd, Nat.reduceSub, Nat.reduceMul, Nat.reduceBEq, Int.reduceToNat, Int.reduceNeg, Int.reduceLE, Int.reduceLT, reduceCtorEq]
  refine callW_rel (f32 l z hl g caps p hg hc) ?_
  rintro R O ⟨n, hn, rfl, rfl⟩
  simp (config := {implicitDefEqProofs := false, maxSteps := 4000000}) (disch := omega) only [push_cast, c30, hc.hs, hc.mp, hc.no2, hc.no3, Nat.reduceAdd, Nat.reduceSub, Nat.reduceMul, Nat.reduceBEq, Int.reduceToNat, Int.reduceNeg, Int.reduceLE, Int.reduceLT, reduceCtorEq]
  rw [Bool.eq_iff_iff, decide_eq_true_eq, hn, List.any_eq_true]
/- mizmaze/auto.within[[]int] -/
def c28 : VCfg := ⟨⟨[], [], [], [0, 1, 3, 4]⟩, [], [], []⟩
theorem f28 (l : List Int) (z : Bool) (n : Int) (hl : l.length ≤ 4611686018427387904) :
    ACall Try.prog 28 [.pay (.ints .i64 l) z, .int .i64 n] (fun r objs => r = .bool (l.all fun x => decide (0 ≤ x ∧ x < n)) ∧ objs = []) := by
  refine acall_intro (tyP_ok _) c28 2000 [.tmp 4] Try.func28 rfl (by rfl) rfl (by kernel_rfl) ?_
  unfold Try.f28
  simp (config := {implicitDefEqProofs := false, maxSteps := 4000000}) (disch := omega) only [push_cast, c28, Nat.reduceAdd, Nat.reduceSub, Nat.reduceMul, Nat.reduceBEq, Int.reduceToNat, Int.reduceNeg, Int.reduceLE, Int.reduceLT, reduceCtorEq]
  refine callW_eq _ _ (f30 l z hl 31 [.fref [.int .i64 n]] (fun x => decide (x < 0 ∨ n ≤ x)) (fun x => f31 x n) (NoH.of rfl rfl)) ?_
  simp (config := {implicitDefEqProofs := false, maxSteps := 4000000}) (disch := omega) only [push_cast, c28, Nat.reduceAdd, Nat.reduceSub, Nat.reduceMul, Nat.reduceBEq, Int.reduceToNat, Int.reduceNeg, Int.reduceLE, Int.reduceLT, reduceCtorEq]
  rw [Bool.eq_iff_iff]
  simp [List.all_eq_true, List.any_eq_false]
/- slices.IndexFunc[[][]int,[]int] -/
def c29 : VCfg := ⟨⟨[], [], [], [0, 1, 4, 5, 7, 8, 9, 16]⟩, [], [], []⟩
theorem f29 (l : List (List Int)) (z : Bool) (hl : l.length ≤ 4611686018427387904) (g : FuncId) (caps : List AV) (p : List Int → Bool) (hg : ∀ x, x ∈ l → ACall Try.prog g (.pay (.ints .i64 x) false :: caps) (fun r objs => r = .bool (p x) ∧ objs = [])) (hc : NoH caps) :
    ACall Try.prog 29 [.pay (.rows l) z, .clo g caps] (fun r objs => ∃ n : Int, (0 ≤ n ↔ ∃ x ∈ l, p x = true) ∧ r = .int .i64 n ∧ objs = []) := by
  refine acall_intro (tyP_ok _) c29 2000 [.tmp 4] Try.func29 rfl (by rfl) rfl (by kernel_rfl) ?_
  unfold Try.f29
  simp (config := {implicitDefEqProofs := false, maxSteps := 4000000}) (disch := omega) only [push_cast, c29, Nat.reduceAdd, Nat.reduceSub, Nat.reduceMul, Nat.reduceBEq, Int.reduceToNat, Int.reduceNeg, Int.reduceLE, Int.reduceLT, reduceCtorEq]
  refine awp_upto (tyP_ok _) c29 2000 [0, 1, 4, 7, 8] (l.length) (fun i => ∀ j, j < i → p (l.getD j []) = false) (fun i => ⟨19, [(0, .pay (.rows l) z), (1, .clo g caps), (4, .int .i64 0), (7, .int .i64 l.length), (8, .int .i64 i)], []⟩) (by kernel_rfl) ?_ ?_ ?_
  · simp (config := {implicitDefEqProofs := false, maxSteps := 4000000}) (disch := omega) only [push_cast, c29, hc.hs, hc.mp, Nat.reduceAdd, Nat.reduceSub, Nat.reduceMul, Nat.reduceBEq, Int.reduceToNat, Int.reduceNeg, Int.reduceLE, Int.reduceLT, reduceCtorEq]
  · exact fun j hj => by omega
  intro i hi hr
  simp (config := {implicitDefEqProofs := false, maxSteps := 4000000}) (disch := omega) only [push_cast, c29, hc.hs, hc.mp, hc.no3, Nat.reduceAdd, Nat.reduceSub, Nat.reduceMul, Nat.reduceBEq, Int.reduceToNat, Int.reduceNeg, Int.reduceLE, Int.reduceLT, reduceCtorEq]
  refine ⟨fun hlt => ⟨hlt, ?_⟩, fun hge => ⟨-1, ?_, rfl⟩⟩
  · have hm : l.getD i [] ∈ l := by
      have : l.getD i [] = l[i] := by simp [hlt]
      rw [this]; exact List.getElem_mem hlt
    refine callW_eq _ _ (hg _ hm) ?_
    simp (config := {implicitDefEqProofs := false, maxSteps := 4000000}) (disch := omega) only [push_cast, c29, hc.hs, hc.mp, hc.no3, Nat.reduceAdd, Nat.reduceSub, Nat.reduceMul, Nat.reduceBEq, Int.reduceToNat, Int.reduceNeg, Int.reduceLE, Int.reduceLT, reduceCtorEq]
    refine ⟨fun h => ⟨i, ⟨fun _ => ⟨_, hm, h⟩, fun _ => by omega⟩, rfl⟩, fun h => ⟨hlt, fun j hj => ?_⟩⟩
    rcases Nat.lt_succ_iff_lt_or_eq.1 hj with hj | rfl
    · exact hr j hj
    · exact h
  · refine ⟨fun h => by omega, fun ⟨x, hx, h⟩ => ?_⟩
    obtain ⟨j, hj, rfl⟩ := List.getElem_of_mem hx
    have := hr j (by omega)
    have e : l.getD j [] = l[j] := by simp [hj]
    rw [e, h] at this
    cases this
/- slices.ContainsFunc[[][]int,[]int] -/
def c26 : VCfg := ⟨⟨[], [], [], [0, 1, 4]⟩, [], [], []⟩
theorem f26 (l : List (List Int)) (z : Bool) (hl : l.length ≤ 4611686018427387904) (g : FuncId) (caps : List AV) (p : List Int → Bool) (hg : ∀ x, x ∈ l → ACall Try.prog g (.pay (.ints .i64 x) false :: caps) (fun r objs => r = .bool (p x) ∧ objs = [])) (hc : NoH caps) :
    ACall Try.prog 26 [.pay (.rows l) z, .clo g caps] (fun r objs => r = .bool (l.any p) ∧ objs = []) := by
  refine acall_intro (tyP_ok _) c26 2000 [.tmp 4] Try.func26 rfl (by rfl) rfl (by kernel_rfl) ?_
  unfold Try.f26
  simp (config := {implicitDefEqProofs := false, maxSteps := 4000000}) (disch := omega) only [push_cast, c26, hc.hs, hc.mp, hc.no2, hc.no3, Nat.reduceAdd, Nat.reduceSub, Nat.reduceMul, Nat.reduceBEq, Int.reduceToNat, Int.reduceNeg, Int.reduceLE, Int.reduceLT, reduceCtorEq]
  refine callW_rel (f29 l z hl g caps p hg hc) ?_
  rintro R O ⟨n, hn, rfl, rfl⟩
  simp (config := {implicitDefEqProofs := false, maxSteps := 4000000}) (disch := omega) only [push_cast, c26, hc.hs, hc.mp, hc.no2, hc.no3, Nat.reduceAdd, Nat.reduceSub, Nat.reduceMul, Nat.reduceBEq, Int.reduceToNat, Int.reduceNeg, Int.reduceLE, Int.reduceLT, reduceCtorEq]
  rw [Bool.eq_iff_iff, decide_eq_true_eq, hn, List.any_eq_true]
/- mizmaze/auto.Valid$1 -/
def c27 : VCfg := ⟨⟨[], [], [], [0, 1, 2, 4]⟩, [], [], []⟩
theorem f27 (row : List Int) (z z' : Bool) (k : Int) (a : List (List Int)) (hl : row.length ≤ 4611686018427387904) :
    ACall Try.prog 27 [.pay (.ints .i64 row) z, .fref [.int .i64 k], .fref [.pay (.rows a) z']] (fun r objs => r = .bool (!(decide ((row.length : Int) = k) && row.all fun x => decide (0 ≤ x ∧ x < a.length))) ∧ objs = []) := by
  refine acall_intro (tyP_ok _) c27 2000 [.tmp 4] Try.func27 rfl (by rfl) rfl (by kernel_rfl) ?_
  unfold Try.f27
  simp (config := {implicitDefEqProofs := false, maxSteps := 4000000}) (disch := omega) only [push_cast, c27, Nat.reduceAdd, Nat.reduceSub, Nat.reduceMul, Nat.reduceBEq, Int.reduceToNat, Int.reduceNeg, Int.reduceLE, Int.reduceLT, reduceCtorEq]
  refine ⟨fun h => by simp [h], fun h => ?_⟩
  refine callW_eq _ _ (f28 row z a.length hl) ?_
  simp (config := {implicitDefEqProofs := false, maxSteps := 4000000}) (disch := omega) only [push_cast, c27, Nat.reduceAdd, Nat.reduceSub, Nat.reduceMul, Nat.reduceBEq, Int.reduceToNat, Int.reduceNeg, Int.reduceLE, Int.reduceLT, reduceCtorEq]
  simp [h]
/- mizmaze/auto.Valid -/
def c19 : VCfg := ⟨⟨[], [], [], [0, 1, 2, 3, 13]⟩, [], [], []⟩
open Classical in
noncomputable def vldB (a : List (List Int)) : Bool := decide (Vld a (a.getD 0 []).length)
theorem vldB_iff {a : List (List Int)} : vldB a = true ↔ Vld a (a.getD 0 []).length := by
  simp only [vldB, decide_eq_true_eq]
theorem vldB_false {a : List (List Int)} (h : ¬ Vld a (a.getD 0 []).length) : false = vldB a := by
  cases e : vldB a with
  | false => rfl
  | true => exact absurd (vldB_iff.1 e) h
theorem f19 (a : List (List Int)) (z : Bool) (hl : a.length ≤ 4611686018427387904) (hl2 : ∀ r ∈ a, r.length ≤ 4611686018427387904) :
    ACall Try.prog 19 [.agg [.pay (.rows a) z]] (fun r objs => r = .bool (vldB a) ∧ objs = []) := by
  refine acall_intro (tyP_ok _) c19 2000 [.tmp 2] Try.func19 rfl (by rfl) rfl (by kernel_rfl) ?_
  unfold Try.f19
  simp (config := {implicitDefEqProofs := false, maxSteps := 4000000}) (disch := omega) only [push_cast, c19, Nat.reduceAdd, Nat.reduceSub, Nat.reduceMul, Nat.reduceBEq, Int.reduceToNat, Int.reduceNeg, Int.reduceLE, Int.reduceLT, reduceCtorEq]
  refine ⟨fun h => vldB_false fun hv => by have := hv.n1; omega, fun h => ⟨fun h2 => vldB_false fun hv => by have := hv.n2; omega, fun h2 => ⟨by omega, fun h3 => ⟨fun h4 => ?_, fun h4 => vldB_false fun hv => by have := hv.k2; omega⟩, fun h3 => vldB_false fun hv => by have := hv.k1; omega⟩⟩⟩
  refine callW_eq _ _ (f26 a z hl 27 _ (fun row => !(decide ((row.length : Int) = (a.getD 0 []).length) && row.all fun x => decide (0 ≤ x ∧ x < a.length))) (fun x hx => f27 x false z _ a (hl2 x hx)) (NoH.of rfl rfl)) ?_
  simp (config := {implicitDefEqProofs := false, maxSteps := 4000000}) (disch := omega) only [push_cast, c19, Nat.reduceAdd, Nat.reduceSub, Nat.reduceMul, Nat.reduceBEq, Int.reduceToNat, Int.reduceNeg, Int.reduceLE, Int.reduceLT, reduceCtorEq]
  rw [Bool.eq_iff_iff, vldB_iff]
  simp only [Bool.not_eq_true', List.any_eq_false, Bool.not_eq_true', Bool.not_eq_false, Bool.not_eq_true]
  constructor
  · intro h5
    refine ⟨by omega, by omega, by omega, by omega, fun r hr => ?_⟩
    have := h5 r hr
    simp only [Bool.not_eq_false', Bool.and_eq_true, decide_eq_true_eq, List.all_eq_true] at this
    exact ⟨by omega, this.2⟩
  · intro hv r hr
    have := hv.row r hr
    simp only [Bool.not_eq_false', Bool.and_eq_true, decide_eq_true_eq, List.all_eq_true]
    exact ⟨by omega, this.2⟩
/- mizmaze/short.check -/
def c14 : VCfg := ⟨⟨[], [], [], [0, 1, 2, 3, 7]⟩, [], [], []⟩
theorem f14 (a : List (List Int)) (z : Bool) (hl : a.length ≤ 4611686018427387904) (hl2 : ∀ r ∈ a, r.length ≤ 4611686018427387904) :
    ACall Try.prog 14 [.agg [.pay (.rows a) z]] (fun r objs => r = .int .i64 (if vldB a then (if a.length ≤ 12 then 0 else 3) else 1) ∧ objs = []) := by
  refine acall_intro (tyP_ok _) c14 2000 [.tmp 2] Try.func14 rfl (by rfl) rfl (by kernel_rfl) ?_
  unfold Try.f14
  simp (config := {implicitDefEqProofs := false, maxSteps := 4000000}) (disch := omega) only [push_cast, c14, Nat.reduceAdd, Nat.reduceSub, Nat.reduceMul, Nat.reduceBEq, Int.reduceToNat, Int.reduceNeg, Int.reduceLE, Int.reduceLT, reduceCtorEq]
  refine callW_eq _ _ (f19 a z hl hl2) ?_
  simp (config := {implicitDefEqProofs := false, maxSteps := 4000000}) (disch := omega) only [push_cast, c14, Nat.reduceAdd, Nat.reduceSub, Nat.reduceMul, Nat.reduceBEq, Int.reduceToNat, Int.reduceNeg, Int.reduceLE, Int.reduceLT, reduceCtorEq]
  exact ⟨fun h => by rw [h]; rfl, fun h => ⟨fun h2 => by rw [h, if_pos rfl, if_neg (by omega)], fun h2 => by rw [h, if_pos rfl, if_pos (by omega)]⟩⟩
end Go.AM
end

/-! text Ta3 -/
section
namespace Go.AM
open Go Go.Proofs
def pop8 (n : Nat) : Nat := (n.testBit 0).toNat + (n.testBit 1).toNat + (n.testBit 2).toNat + (n.testBit 3).toNat + (n.testBit 4).toNat + (n.testBit 5).toNat + (n.testBit 6).toNat + (n.testBit 7).toNat
def popN (n : Nat) : Nat := pop8 (n >>> 8) + pop8 n
theorem pop8_le (n : Nat) : pop8 n ≤ 8 := by
  unfold pop8
  have h : ∀ b : Bool, b.toNat ≤ 1 := fun b => by cases b <;> simp
  have := h (n.testBit 0); have := h (n.testBit 1); have := h (n.testBit 2); have := h (n.testBit 3); have := h (n.testBit 4); have := h (n.testBit 5); have := h (n.testBit 6); have := h (n.testBit 7)
  omega
theorem pop8_and (n : Nat) : pop8 (n &&& 255) = pop8 n := by
  simp [pop8, Nat.testBit_and, show Nat.testBit 255 1 = true from rfl, show Nat.testBit 255 2 = true from rfl, show Nat.testBit 255 3 = true from rfl, show Nat.testBit 255 4 = true from rfl, show Nat.testBit 255 5 = true from rfl, show Nat.testBit 255 6 = true from rfl, show Nat.testBit 255 7 = true from rfl]
/- math/bits.OnesCount16 -/
def c25 : VCfg := ⟨⟨[], [], [], [0, 2]⟩, [(1, (.op 0 .loose (.op 1 .loose (.op 2 .loose (.op 3 .loose (.op 4 .loose (.op 5 .loose (.op 6 .loose (.op 7 .loose (.op 8 .loose .nil))))))))))], [], []⟩
set_option maxRecDepth 100000 in
theorem f25 (n : Nat) (h : n < 65536) : ACall Try.prog 25 [.int .u16 n] (fun r objs => r = .int .i64 (popN n) ∧ objs = []) := by
  refine acall_intro (tyP_ok _) c25 2000 [.tmp 2] Try.func25 rfl (by rfl) rfl (by kernel_rfl) ?_
  unfold Try.f25
  simp (config := {implicitDefEqProofs := false, maxSteps := 4000000}) (disch := omega) only [push_cast, c25, Nat.reduceAdd, Nat.reduceSub, Nat.reduceMul, Nat.reduceBEq, Int.reduceToNat, Int.reduceNeg, Int.reduceLE, Int.reduceLT, reduceCtorEq]
  generalize hL : List.append (List.append _ _) (List.append _ _) = L
  have h256 : L.length = 256 := by rw [← hL]; rfl
  have hk : ∀ j, j < 256 → (L.getD j 0).toNat = pop8 j := by rw [← hL]; decide +kernel
  clear hL
  have e1 : (n : Int).fdiv (2 ^ min 8 IntKind.u16.bits) = ((n >>> 8 : Nat) : Int) := u16_shr (a := n) (b := 8)
  have e2 := u16_and h (show 255 < 65536 by omega)
  rw [e1]
  simp only [Int.cast_ofNat_Int] at e2
  rw [e2]
  have b1 : n >>> 8 < 256 := by rw [Nat.shiftRight_eq_div_pow]; omega
  have b2 : n &&& 255 < 256 := by have : n &&& 255 ≤ 255 := Nat.and_le_right; omega
  have hs : ({ data := L.toArray } : ByteArray).size = 256 := by show L.toArray.size = 256; simpa using h256
  rw [hs]
  refine ⟨by omega, by omega, ?_⟩
  simp only [Int.toNat_natCast]
  rw [hk _ b1, hk _ b2, pop8_and]
  have := pop8_le n
  have := pop8_le (n >>> 8)
  unfold popN
  have e3 : IntKind.u8.wrap ((pop8 (n >>> 8) : Int) + (pop8 n : Int)) = ((pop8 (n >>> 8) + pop8 n : Nat) : Int) := by
    simp only [IntKind.wrap, IntKind.signed, IntKind.bits]
    simp
    omega
  rw [e3, wrap_i64 (by omega) (by omega)]
/- (mizmaze/short.set).size -/
def c16 : VCfg := ⟨⟨[], [], [], [0, 2]⟩, [], [], []⟩
theorem f16 (n : Nat) (h : n < 65536) : ACall Try.prog 16 [.int .u16 n] (fun r objs => r = .int .i64 (popN n) ∧ objs = []) := by
  refine acall_intro (tyP_ok _) c16 2000 [.tmp 2] Try.func16 rfl (by rfl) rfl (by kernel_rfl) ?_
  unfold Try.f16
  simp (config := {implicitDefEqProofs := false, maxSteps := 4000000}) (disch := omega) only [push_cast, c16, Nat.reduceAdd, Nat.reduceSub, Nat.reduceMul, Nat.reduceBEq, Int.reduceToNat, Int.reduceNeg, Int.reduceLE, Int.reduceLT, reduceCtorEq]
  refine callW_eq _ _ (f25 n h) ?_
  simp (config := {implicitDefEqProofs := false, maxSteps := 4000000}) (disch := omega) only [push_cast, c16, Nat.reduceAdd, Nat.reduceSub, Nat.reduceMul, Nat.reduceBEq, Int.reduceToNat, Int.reduceNeg, Int.reduceLE, Int.reduceLT, reduceCtorEq]
/- (mizmaze/short.set).to -/
def c24 : VCfg := ⟨⟨[], [], [], [0, 1, 2, 4, 6, 7, 8, 9, 11, 12, 13, 14, 22]⟩, [], [], []⟩
/-- to which set of the first m states a letter leads -/
def toN (a : List (List Int)) (s x : Nat) : Nat → Nat
  | 0 => 0
  | m + 1 => if s.testBit m then toN a s x m ||| 2 ^ ((a.getD m []).getD x 0).toNat else toN a s x m
theorem toN_lt {a : List (List Int)} {k : Nat} (hv : Vld a k) (s x : Nat) (hx : x < k) : ∀ m, m ≤ a.length → toN a s x m < 2 ^ a.length
  | 0, _ => Nat.two_pow_pos _
  | m + 1, h => by
    unfold toN
    have ih := toN_lt hv s x hx m (by omega)
    split
    · refine Nat.or_lt_two_pow ih ?_
      have := (hv.at (s := m) (x := x) (by omega) (by omega) (by omega) (by omega)).2
      simp only [Int.toNat_natCast] at this
      exact Nat.pow_lt_pow_right (by omega) (by omega)
    · exact ih
theorem f24 (a : List (List Int)) (z : Bool) (s x k : Nat) (hv : Vld a k) (h12 : a.length ≤ 12) (hx : x < k) (hs : s < 65536) :
    ACall Try.prog 24 [.int .u16 s, .agg [.pay (.rows a) z], .int .i64 x] (fun r objs => r = .int .u16 (toN a s x a.length) ∧ objs = []) := by
  refine acall_intro (tyP_ok _) c24 2000 [.tmp 6] Try.func24 rfl (by rfl) rfl (by kernel_rfl) ?_
  unfold Try.f24
  simp (config := {implicitDefEqProofs := false, maxSteps := 4000000}) (disch := omega) only [push_cast, c24, Nat.reduceAdd, Nat.reduceSub, Nat.reduceMul, Nat.reduceBEq, Int.reduceToNat, Int.reduceNeg, Int.reduceLE, Int.reduceLT, reduceCtorEq]
  refine awp_upto (tyP_ok _) c24 2000 [0, 2, 4, 6, 7, 11, 12, 13] (a.length) (fun _ => True) (fun i => ⟨32, [(0, .int .u16 s), (2, .int .i64 x), (4, .fref [.pay (.rows a) z]), (6, .int .u16 0), (7, .int .u16 (toN a s x i)), (11, .pay (.rows a) z), (12, .int .i64 a.length), (13, .int .i64 i)], []⟩) (by kernel_rfl) rfl ?_ ?_
  · trivial
  intro i hi _
  simp (config := {implicitDefEqProofs := false, maxSteps := 4000000}) (disch := omega) only [push_cast, c24, Nat.reduceAdd, Nat.reduceSub, Nat.reduceMul, Nat.reduceBEq, Int.reduceToNat, Int.reduceNeg, Int.reduceLE, Int.reduceLT, reduceCtorEq]
  have eb : IntKind.u16.wrap ((BitVec.ofInt IntKind.u16.bits ((s : Int).fdiv (2 ^ min i IntKind.u16.bits)) &&& BitVec.ofInt IntKind.u16.bits 1).toNat : Int) = ((s >>> i &&& 1 : Nat) : Int) := by
    rw [u16_shr (a := s) (b := i), show min i 16 = i by omega]
    have h1 : s >>> i < 65536 := by rw [Nat.shiftRight_eq_div_pow]; exact Nat.lt_of_le_of_lt (Nat.div_le_self _ _) hs
    exact u16_and h1 (show 1 < 65536 by omega)
  have et : ((s >>> i &&& 1 : Nat) : Int) = 1 ↔ s.testBit i = true := by
    rw [Nat.testBit_eq_decide_div_mod_eq, Nat.and_one_is_mod, Nat.shiftRight_eq_div_pow]
    simp only [decide_eq_true_eq]
    omega
  rw [eb, et]
  refine ⟨fun hlt => ⟨hlt, fun hb => ?_, fun hb => ⟨hlt, by simp [toN, hb]⟩⟩, fun hge => by rw [show i = a.length by omega]⟩
  have hat := hv.at (s := i) (x := x) (by omega) (by omega) (by omega) (by omega)
  simp only [Int.toNat_natCast] at hat
  refine ⟨by omega, hat.2.1, hlt, ?_⟩
  have h2 := toN_lt hv s x hx i hi
  have h3 : (2 : Nat) ^ a.length ≤ 2 ^ 12 := Nat.pow_le_pow_right (by omega) h12
  have h4 : ((a.getD i []).getD x 0).toNat < 12 := by omega
  have h5 : (2 : Nat) ^ ((a.getD i []).getD x 0).toNat < 2 ^ 12 := Nat.pow_lt_pow_right (by omega) h4
  have e5 : IntKind.u16.wrap (1 * 2 ^ min ((a.getD i []).getD x 0).toNat IntKind.u16.bits) = ((2 ^ ((a.getD i []).getD x 0).toNat : Nat) : Int) := by
    rw [show min ((a.getD i []).getD x 0).toNat IntKind.u16.bits = ((a.getD i []).getD x 0).toNat by simp only [IntKind.bits]; omega]
    generalize ((a.getD i []).getD x 0).toNat = t at *
    have e6 : 1 * (2 : Int) ^ t = ((2 ^ t : Nat) : Int) := by simp
    rw [e6]
    generalize (2 : Nat) ^ t = m at *
    simp only [IntKind.wrap, IntKind.signed, IntKind.bits]
    simp
    omega
  rw [e5, u16_or (by omega) (by omega)]
  simp [toN, hb]
/- mizmaze/mizmazetop.proper -/
def c10 : VCfg := ⟨⟨[], [], [5], [0, 1, 2, 4, 5, 6, 14]⟩, [(5, (.op 0 .loose (.op 1 .strict (.op 2 .strict (.op 3 .strict (.op 4 .strict (.op 5 .strict (.op 6 .strict (.op 7 .strict (.op 8 .strict (.op 9 .strict (.op 10 .eff (.op 11 .eff (.op 12 .eff (.op 13 .loose .nil)))))))))))))))], [], []⟩
def properL (k : Int) (word : List Int) : List Int := (word.take 2000).map (· % k)
theorem f10 (a : List (List Int)) (z z' : Bool) (word : List Int) (h0 : 0 < a.length) (hk : 0 < (a.getD 0 []).length) (hk2 : (a.getD 0 []).length ≤ 100) (hx : word.length ≤ 4611686018427387904) :
    ACall Try.prog 10 [.agg [.pay (.rows a) z], .pay (.ints .i64 word) z'] (fun r objs => r = .own 0 ∧ objs = [.arr (.ints .i64 (properL (a.getD 0 []).length word)) ⟨3, true⟩]) := by
  refine acall_intro (tyP_ok _) c10 2000 [.tmp 4] Try.func10 rfl (by rfl) rfl (by kernel_rfl) ?_
  unfold Try.f10
  simp (config := {implicitDefEqProofs := false, maxSteps := 4000000}) (disch := omega) only [push_cast, c10, Nat.reduceAdd, Nat.reduceSub, Nat.reduceMul, Nat.reduceBEq, Int.reduceToNat, Int.reduceNeg, Int.reduceLE, Int.reduceLT, reduceCtorEq]
  refine awp_upto (tyP_ok _) c10 2000 [1, 2, 4, 5, 6] (min word.length 2000) (fun _ => True) (fun i => ⟨31, [(1, .pay (.ints .i64 word) z'), (2, .fref [.pay (.rows a) z]), (4, .pay (.ints .i64 []) true), (5, .own 0), (6, .int .i64 i)], [.arr (.ints .i64 ((word.take i).map (· % ((a.getD 0 []).length : Int)))) ⟨3, true⟩]⟩) (by kernel_rfl) rfl ?_ ?_
  · trivial
  intro i hi _
  simp (config := {implicitDefEqProofs := false, maxSteps := 4000000}) (disch := omega) only [push_cast, c10, Nat.reduceAdd, Nat.reduceSub, Nat.reduceMul, Nat.reduceBEq, Int.reduceToNat, Int.reduceNeg, Int.reduceLE, Int.reduceLT, reduceCtorEq]
  have hfin : ∀ m, m ≤ word.length → (word.length ≤ m ∨ m = 2000) → m ≤ 2000 → List.map (fun x => x % ((a.getD 0 []).length : Int)) (List.take m word) = properL ((a.getD 0 []).length) word := fun m h1 h2 h3 => by
    unfold properL
    rcases h2 with h2 | rfl
    · rw [List.take_of_length_le (by omega), List.take_of_length_le (by omega)]
    · rfl
  refine ⟨fun h1 => ⟨fun h2 => ⟨h1, h0, ?_⟩, fun h2 => hfin i (by omega) (.inr (by omega)) (by omega)⟩, fun h1 => hfin i (by omega) (.inl h1) (by omega)⟩
  refine callW_eq _ _ (f5 _ _ (by omega) (by omega)) ?_
  simp (config := {implicitDefEqProofs := false, maxSteps := 4000000}) (disch := omega) only [push_cast, c10, Nat.reduceAdd, Nat.reduceSub, Nat.reduceMul, Nat.reduceBEq, Int.reduceToNat, Int.reduceNeg, Int.reduceLE, Int.reduceLT, reduceCtorEq]
  refine ⟨by simp; omega, by omega, ?_⟩
  rw [List.take_succ_eq_append_getElem h1, List.map_append]
  simp [h1]
/- mizmaze/mizmazetop.comes -/
def c13 : VCfg := ⟨⟨[], [], [], [0, 1, 4, 5, 10, 19, 30]⟩, [(6, (.op 0 .loose (.op 1 .loose (.op 2 .loose (.op 3 .loose (.op 4 .loose (.op 5 .loose (.op 6 .loose (.op 7 .loose (.op 8 .loose .nil)))))))))), (7, (.op 0 .loose (.op 1 .loose (.op 2 .loose (.op 3 .loose (.op 4 .loose (.op 5 .loose (.op 6 .loose (.op 7 .loose (.op 8 .loose (.op 9 .loose .nil)))))))))))], [], []⟩
theorem drop_getD {l : List Int} {i : Nat} (h : i < l.length) : l.drop i = l.getD i 0 :: l.drop (i + 1) := by
  rw [List.drop_eq_getElem_cons h]
  simp [h]
theorem f13 (x y : List Int) (z z' : Bool) (hx : x.length ≤ 4611686018427387904) :
    ACall Try.prog 13 [.pay (.ints .i64 x) z, .pay (.ints .i64 y) z'] (fun r objs => r = .bool (comesB x y) ∧ objs = []) := by
  refine acall_intro (tyP_ok _) c13 2000 [.tmp 4] Try.func13 rfl (by rfl) rfl (by kernel_rfl) ?_
  unfold Try.f13
  simp (config := {implicitDefEqProofs := false, maxSteps := 4000000}) (disch := omega) only [push_cast, c13, Nat.reduceAdd, Nat.reduceSub, Nat.reduceMul, Nat.reduceBEq, Int.reduceToNat, Int.reduceNeg, Int.reduceLE, Int.reduceLT, reduceCtorEq]
  refine ⟨fun hne => by simp [comesB, hne], fun heq => ?_⟩
  refine awp_upto (tyP_ok _) c13 2000 [0, 1, 4, 5] (x.length) (fun i => lexB x y = lexB (x.drop i) (y.drop i)) (fun i => ⟨40, [(0, .pay (.ints .i64 x) z), (1, .pay (.ints .i64 y) z'), (4, .bool false), (5, .int .i64 i)], []⟩) (by kernel_rfl) rfl ?_ ?_
  · rfl
  intro i hi hr
  simp (config := {implicitDefEqProofs := false, maxSteps := 4000000}) (disch := omega) only [push_cast, c13, Nat.reduceAdd, Nat.reduceSub, Nat.reduceMul, Nat.reduceBEq, Int.reduceToNat, Int.reduceNeg, Int.reduceLE, Int.reduceLT, reduceCtorEq]
  have hc : comesB x y = lexB x y := by simp [comesB, heq]
  refine ⟨fun hlt => ⟨hlt, by omega, fun hne => ⟨hlt, by omega, ?_⟩, fun he => ⟨hlt, ?_⟩⟩, fun hge => ?_⟩
  · rw [hc, hr, drop_getD hlt, drop_getD (by omega : i < y.length)]
    simp only [lexB]
    rw [if_neg hne]
  · rw [hr, drop_getD hlt, drop_getD (by omega : i < y.length)]
    simp only [lexB]
    rw [if_pos he]
  · rw [hc, hr, List.drop_of_length_le hge]
    simp [lexB]
/- mizmaze/mizmazetop.spread -/
def c8 : VCfg := ⟨⟨[], [], [], [0, 1, 2, 4, 5, 6, 7, 8, 17, 28]⟩, [], [], []⟩
/-- the states met, and how many they are, behind a word from the first i states -/
def spreadS (a : List (List Int)) (w : List Int) : Nat → List Bool × Nat
  | 0 => (List.replicate a.length false, 0)
  | i + 1 => ((spreadS a w i).1.set (leadG a i w).toNat true, if (spreadS a w i).1.getD (leadG a i w).toNat false then (spreadS a w i).2 else (spreadS a w i).2 + 1)
theorem spreadS_len (a : List (List Int)) (w : List Int) : ∀ i, (spreadS a w i).1.length = a.length
  | 0 => by simp [spreadS]
  | i + 1 => by simp [spreadS, spreadS_len a w i]
theorem spreadS_le (a : List (List Int)) (w : List Int) : ∀ i, (spreadS a w i).2 ≤ i
  | 0 => by simp [spreadS]
  | i + 1 => by
    have := spreadS_le a w i
    unfold spreadS
    split <;> omega
theorem f8 (a : List (List Int)) (z z' : Bool) (word : List Int) (k : Nat) (hv : Vld a k) (hx : word.length ≤ 4611686018427387904) (hw : ∀ x ∈ word, 0 ≤ x ∧ x < k) :
    ACall Try.prog 8 [.agg [.pay (.rows a) z], .pay (.ints .i64 word) z'] (fun r objs => r = .int .i64 (spreadS a word a.length).2 ∧ objs = []) := by
  have hn := hv.n2
  refine acall_intro (tyP_ok _) c8 2000 [.tmp 4] Try.func8 rfl (by rfl) rfl (by kernel_rfl) ?_
  unfold Try.f8
  simp (config := {implicitDefEqProofs := false, maxSteps := 4000000}) (disch := omega) only [push_cast, c8, Nat.reduceAdd, Nat.reduceSub, Nat.reduceMul, Nat.reduceBEq, Int.reduceToNat, Int.reduceNeg, Int.reduceLE, Int.reduceLT, reduceCtorEq]
  refine ⟨by omega, ?_⟩
  refine awp_upto (tyP_ok _) c8 2000 [1, 2, 4, 5, 6, 7] (a.length) (fun _ => True) (fun i => ⟨35, [(1, .pay (.ints .i64 word) z'), (2, .fref [.pay (.rows a) z]), (4, .int .i64 0), (5, .own 0), (6, .int .i64 (spreadS a word i).2), (7, .int .i64 i)], [.arr (.bools (spreadS a word i).1) ⟨4, false⟩]⟩) (by kernel_rfl) rfl ?_ ?_
  · trivial
  intro i hi _
  simp (config := {implicitDefEqProofs := false, maxSteps := 4000000}) (disch := omega) only [push_cast, c8, Nat.reduceAdd, Nat.reduceSub, Nat.reduceMul, Nat.reduceBEq, Int.reduceToNat, Int.reduceNeg, Int.reduceLE, Int.reduceLT, reduceCtorEq]
  refine ⟨fun hlt => ?_, fun hge => by rw [show i = a.length by omega]⟩
  refine callW_eq _ _ (f18 a z z' i word hx k hv (by omega) hw) ?_
  simp (config := {implicitDefEqProofs := false, maxSteps := 4000000}) (disch := omega) only [push_cast, c8, Nat.reduceAdd, Nat.reduceSub, Nat.reduceMul, Nat.reduceBEq, Int.reduceToNat, Int.reduceNeg, Int.reduceLE, Int.reduceLT, reduceCtorEq]
  have hl := hv.lead word (s := i) (by omega) (by omega) hw
  have hle := spreadS_le a word i
  have hlen := spreadS_len a word i
  rw [hlen]
  refine ⟨hl, fun hm => ⟨hl, hlt, ?_, rfl⟩, fun hm => ⟨hl, hlt, ?_, rfl⟩⟩
  · simp only [spreadS, hm]
    rw [wrap_i64 (by omega) (by omega)]
    simp
  · simp only [spreadS, hm, if_true]
/- mizmaze/mizmazetop.valid -/
def c9 : VCfg := ⟨⟨[], [], [], [0, 1, 2, 3, 4, 5, 15, 25, 43, 46, 71]⟩, [(12, (.op 0 .loose (.op 1 .loose (.op 2 .loose (.op 3 .loose (.op 4 .loose (.op 5 .loose (.op 6 .loose (.op 7 .loose (.op 8 .loose (.op 9 .loose (.op 10 .loose (.op 11 .loose (.op 12 .loose (.op 13 .loose (.op 14 .loose (.op 15 .loose (.op 16 .loose (.op 17 .loose (.op 18 .loose (.op 19 .loose (.op 20 .loose (.op 21 .loose (.op 22 .loose .nil))))))))))))))))))))))))], [], []⟩
theorem f9 (a : List (List Int)) (z : Bool) (hl : a.length ≤ 4611686018427387904) (hl2 : ∀ r ∈ a, r.length ≤ 4611686018427387904) :
    ACall Try.prog 9 [.agg [.pay (.rows a) z]] (fun r objs => r = .bool (vldB a) ∧ objs = []) := by
  refine acall_intro (tyP_ok _) c9 2000 [.tmp 2] Try.func9 rfl (by rfl) rfl (by kernel_rfl) ?_
  unfold Try.f9
  simp (config := {implicitDefEqProofs := false, maxSteps := 4000000}) (disch := omega) only [push_cast, c9, Nat.reduceAdd, Nat.reduceSub, Nat.reduceMul, Nat.reduceBEq, Int.reduceToNat, Int.reduceNeg, Int.reduceLE, Int.reduceLT, reduceCtorEq]
  refine ⟨fun h => vldB_false fun hv => by have := hv.n1; omega, fun h => ⟨fun h2 => vldB_false fun hv => by have := hv.n2; omega, fun h2 => ⟨by omega, ?_⟩⟩⟩
  have h60 : a.length ≤ 60 := by omega
  have h1 : 1 ≤ a.length := by omega
  clear h h2
  generalize hk : (a.getD 0 []).length = k
  refine awp_upto (tyP_ok _) c9 2000 [1, 2, 3, 4] (a.length) (fun i => ∀ j, j < i → (a.getD j []).length = k ∧ 1 ≤ k ∧ k ≤ 6 ∧ ∀ x, x < k → 0 ≤ (a.getD j []).getD x 0 ∧ (a.getD j []).getD x 0 < a.length) (fun i => ⟨72, [(1, .fref [.pay (.rows a) z]), (2, .bool false), (3, .int .i64 k), (4, .int .i64 i)], []⟩) (by kernel_rfl) rfl ?_ ?_
  · exact fun j hj => by omega
  have hrow : ∀ {j : Nat}, j < a.length → a.getD j [] ∈ a := fun {j} hj => by
    have : a.getD j [] = a[j] := by simp [hj]
    rw [this]; exact List.getElem_mem hj
  intro i hi hr
  simp (config := {implicitDefEqProofs := false, maxSteps := 4000000}) (disch := omega) only [push_cast, c9, Nat.reduceAdd, Nat.reduceSub, Nat.reduceMul, Nat.reduceBEq, Int.reduceToNat, Int.reduceNeg, Int.reduceLE, Int.reduceLT, reduceCtorEq]
  refine ⟨fun hlt => ⟨hlt, fun h => vldB_false fun hv => h (by rw [(hv.row _ (hrow hlt)).1, hk]), fun hki => ⟨fun h => vldB_false fun hv => by have := hv.k1; omega, fun h3 => ⟨fun h => vldB_false fun hv => by have := hv.k2; omega, fun h4 => ?_⟩⟩⟩, fun hge => ?_⟩
  · refine awp_upto (tyP_ok _) c9 2000 [1, 2, 3, 4, 5] (k) (fun x => ∀ y, y < x → 0 ≤ (a.getD i []).getD y 0 ∧ (a.getD i []).getD y 0 < a.length) (fun x => ⟨72, [(1, .fref [.pay (.rows a) z]), (2, .bool false), (3, .int .i64 k), (4, .int .i64 i), (5, .int .i64 x)], []⟩) (by kernel_rfl) rfl ?_ ?_
    · exact fun y hy => by omega
    intro x hx hrx
    simp (config := {implicitDefEqProofs := false, maxSteps := 4000000}) (disch := omega) only [push_cast, c9, Nat.reduceAdd, Nat.reduceSub, Nat.reduceMul, Nat.reduceBEq, Int.reduceToNat, Int.reduceNeg, Int.reduceLE, Int.reduceLT, reduceCtorEq]
    have hbad : x < k → ((a.getD i []).getD x 0 < 0 ∨ (a.length : Int) ≤ (a.getD i []).getD x 0) → false = vldB a := fun hxk h => vldB_false fun hv => by
      have := (hv.row _ (hrow hlt)).2 _ (getD_mem (i := x) (by omega))
      omega
    refine ⟨fun hxk => ⟨hlt, by omega, fun h => hbad hxk (.inl h), fun h => ⟨hlt, by omega, fun h2 => hbad hxk (.inr h2), fun h2 => ⟨hxk, fun y hy => ?_⟩⟩⟩, fun hge => ⟨hlt, fun j hj => ?_⟩⟩
    · rcases Nat.lt_succ_iff_lt_or_eq.1 hy with hy | rfl
      · exact hrx y hy
      · exact ⟨h, h2⟩
    · rcases Nat.lt_succ_iff_lt_or_eq.1 hj with hj | rfl
      · exact hr j hj
      · exact ⟨hki, by omega, by omega, fun y hy => hrx y (by omega)⟩
  · have hv : Vld a (a.getD 0 []).length := by
      have h0 := hr 0 (by omega)
      refine ⟨h1, h60, by omega, by omega, fun r hrm => ?_⟩
      obtain ⟨j, hj, rfl⟩ := List.getElem_of_mem hrm
      have hj2 := hr j (by omega)
      have e : a.getD j [] = a[j] := by simp [hj]
      rw [e] at hj2
      refine ⟨by omega, fun t ht => ?_⟩
      obtain ⟨x, hx, rfl⟩ := List.getElem_of_mem ht
      have := hj2.2.2.2 x (by omega)
      have e2 : a[j].getD x 0 = a[j][x] := by simp [hx]
      rw [e2] at this
      exact this
    exact (vldB_iff.2 hv).symm
end Go.AM
end
