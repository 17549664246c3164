/-
  Plain facts on transducers: runs, words that tell apart, classes, the minimal machine, the states reached; no program in sight.
-/
import Derived.Test.YtkpoffjimfiabaaGreatP1
import Derived.Test.YtkpoffjimfiabaaGreatF2b
set_option linter.unusedVariables false
set_option linter.unusedSimpArgs false
set_option linter.unusedSectionVars false
set_option linter.unnecessarySimpa false

section
namespace Go.AM
open Go
structure VM (N O : List (List Int)) (k : Nat) : Prop where
 v : Vld N k
 ol : O.length = N.length
 orow : ∀ r ∈ O, r.length = k ∧ ∀ x ∈ r, 0 ≤ x ∧ x < 16
open Classical in
noncomputable def vmB (N O : List (List Int)) : Bool := decide (VM N O (N.getD 0 []).length)
theorem vmB_iff {N O : List (List Int)} : vmB N O = true ↔ VM N O (N.getD 0 []).length := by simp only [vmB, decide_eq_true_eq]
theorem vmB_false {N O : List (List Int)} (h : ¬ VM N O (N.getD 0 []).length) : false = vmB N O := by
 cases e : vmB N O with
 | false => rfl
 | true => exact absurd (vmB_iff.1 e) h
theorem vmB_true {N O : List (List Int)} (h : VM N O (N.getD 0 []).length) : true = vmB N O := (vmB_iff.2 h).symm
theorem map_take_succL' {α : Type} {f : List Int → α} {l : List (List Int)} {k : Nat} (h : k < l.length) : (l.take (k + 1)).map f = (l.take k).map f ++ [f (l.getD k [])] := by
 rw [List.take_succ_eq_append_getElem h, List.map_append]
 simp [List.getD, h]
theorem map_take_succI' {α : Type} {f : Int → α} {l : List Int} {k : Nat} (h : k < l.length) : (l.take (k + 1)).map f = (l.take k).map f ++ [f (l.getD k 0)] := by
 rw [List.take_succ_eq_append_getElem h, List.map_append]
 simp [List.getD, h]
def outG (O : List (List Int)) (s x : Int) : Int := (O.getD s.toNat []).getD x.toNat 0
def nxG (N : List (List Int)) (s x : Int) : Int := (N.getD s.toNat []).getD x.toNat 0
def outsG (N O : List (List Int)) : Int → List Int → List Int
 | _, [] => []
 | s, x :: w => outG O s x :: outsG N O (nxG N s x) w
theorem outsG_len (N O : List (List Int)) : ∀ (w : List Int) (s : Int), (outsG N O s w).length = w.length
 | [], _ => rfl
 | x :: w, s => by simp [outsG, outsG_len N O w]
theorem outsG_append (N O : List (List Int)) : ∀ (u : List Int) (s : Int) (v : List Int), outsG N O s (u ++ v) = outsG N O s u ++ outsG N O (leadG N s u) v
 | [], _, _ => rfl
 | x :: u, s, v => by simp only [List.cons_append, outsG, outsG_append N O u, leadG]; rfl
theorem leadG_append (a : List (List Int)) : ∀ (u : List Int) (s : Int) (v : List Int), leadG a s (u ++ v) = leadG a (leadG a s u) v
 | [], _, _ => rfl
 | x :: u, s, v => by simp only [List.cons_append, leadG]; exact leadG_append a u _ v
theorem outsG_take (N O : List (List Int)) (s : Int) (w : List Int) (i : Nat) (h : i < w.length) : outsG N O s (w.take (i + 1)) = outsG N O s (w.take i) ++ [outG O (leadG N s (w.take i)) (w.getD i 0)] := by
 rw [List.take_succ_eq_append_getElem h, outsG_append]
 simp [outsG, h]
theorem VM.out {N O : List (List Int)} {k : Nat} (h : VM N O k) {s x : Int} (h1 : 0 ≤ s) (h2 : s < N.length) (h3 : 0 ≤ x) (h4 : x < k) : (O.getD s.toNat []).length = k ∧ 0 ≤ outG O s x ∧ outG O s x < 16 := by
 have hs : s.toNat < O.length := by rw [h.ol]; omega
 have hr := h.orow _ (getD_mem' hs)
 refine ⟨hr.1, ?_⟩
 have hx : x.toNat < (O.getD s.toNat []).length := by rw [hr.1]; omega
 exact hr.2 _ (getD_mem hx)
theorem VM.outs {N O : List (List Int)} {k : Nat} (h : VM N O k) : ∀ (w : List Int) {s : Int}, 0 ≤ s → s < N.length → (∀ x ∈ w, 0 ≤ x ∧ x < k) → ∀ y ∈ outsG N O s w, 0 ≤ y ∧ y < 16
 | [], _, _, _, _, _, hy => by cases hy
 | x :: w, s, h1, h2, hw, y, hy => by
  obtain ⟨h3, h4⟩ := hw x (by simp)
  obtain ⟨_, h5, h6⟩ := h.v.at h1 h2 h3 h4
  simp only [outsG, List.mem_cons] at hy
  rcases hy with rfl | hy
  ·exact (h.out h1 h2 h3 h4).2
  ·exact h.outs w (s := nxG N s x) h5 h6 (fun z hz => hw z (by simp [hz])) y hy
theorem VM.k0 {N O : List (List Int)} {k : Nat} (h : VM N O k) : (N.getD 0 []).length = k := h.v.k0
theorem VM.ok {N O : List (List Int)} {k : Nat} (h : VM N O k) : vmB N O = true := vmB_iff.2 (by rw [h.k0]; exact h)
def befB : List Int → List Int → Bool
 | [], [] => false
 | [], _ :: _ => true
 | _ :: _, [] => false
 | x :: a, y :: b => if x = y then befB a b else decide (x < y)
theorem befB_at : ∀ {x y : List Int} {i : Nat}, (∀ j, j < i → x.getD j 0 = y.getD j 0) → i ≤ x.length → i ≤ y.length → befB x y = befB (x.drop i) (y.drop i)
 | _, _, 0, _, _, _ => rfl
 | x :: a, y :: b, i + 1, h, h1, h2 => by
  have h0 := h 0 (by omega)
  simp only [List.getD_cons_zero] at h0
  subst h0
  have := befB_at (x := a) (y := b) (i := i) (fun j hj => by simpa using h (j + 1) (by omega)) (by simpa using h1) (by simpa using h2)
  simp only [befB, if_true, List.drop_succ_cons, this]
theorem befB_ne {x y : List Int} {i : Nat} (h : ∀ j, j < i → x.getD j 0 = y.getD j 0) (h1 : i < x.length) (h2 : i < y.length) (hne : ¬ x.getD i 0 = y.getD i 0) : befB x y = decide (x.getD i 0 < y.getD i 0) := by
 rw [befB_at h (by omega) (by omega), List.drop_eq_getElem_cons h1, List.drop_eq_getElem_cons h2]
 have e1 : x[i] = x.getD i 0 := by simp [h1]
 have e2 : y[i] = y.getD i 0 := by simp [h2]
 rw [e1, e2, befB, if_neg hne]
theorem befB_end {x y : List Int} {i : Nat} (h : ∀ j, j < i → x.getD j 0 = y.getD j 0) (h1 : i ≤ x.length) (h2 : i ≤ y.length) (he : x.length ≤ i ∨ y.length ≤ i) : befB x y = decide (x.length < y.length) := by
 rw [befB_at h h1 h2]
 rcases he with he | he
 ·rw [List.drop_eq_nil_of_le he]
  cases e : y.drop i with
  | nil => have := congrArg List.length e; simp at this; simp [befB]; omega
  | cons a b => have := congrArg List.length e; simp at this; simp [befB]; omega
 ·rw [List.drop_eq_nil_of_le he]
  cases e : x.drop i with
  | nil => have := congrArg List.length e; simp at this; simp [befB]; omega
  | cons a b => have := congrArg List.length e; simp at this; simp [befB]; omega
end Go.AM
end

section
namespace Go.AM
def lexB : List Int → List Int → Bool
 | x :: a, y :: b => if x = y then lexB a b else decide (x < y)
 | _, _ => false
def comesB (a b : List Int) : Bool := if a.length = b.length then lexB a b else decide (a.length < b.length)
theorem lexB_irrefl : ∀ a : List Int, lexB a a = false
 | [] => rfl
 | x :: a => by simp [lexB, lexB_irrefl a]
theorem lexB_trans : ∀ a b c : List Int, lexB a b = true → lexB b c = true → lexB a c = true
 | [], _, _, h, _ => by simp [lexB] at h
 | _ :: _, [], _, h, _ => by simp [lexB] at h
 | _ :: _, _ :: _, [], _, h => by simp [lexB] at h
 | x :: a, y :: b, z :: c, h, k => by
  simp only [lexB] at *
  by_cases h1 : x = y
  ·subst h1
   rw [if_pos rfl] at h
   by_cases h2 : x = z
   ·rw [if_pos h2] at k ⊢; exact lexB_trans a b c h k
   ·rw [if_neg h2] at k ⊢; exact k
  ·rw [if_neg h1] at h
   simp only [decide_eq_true_eq] at h
   by_cases h2 : y = z
   ·subst h2; rw [if_neg h1]; simpa using h
   ·rw [if_neg h2] at k
    simp only [decide_eq_true_eq] at k
    rw [if_neg (by omega)]; simp; omega
theorem lexB_total : ∀ a b : List Int, a.length = b.length → lexB a b = false → lexB b a = false → a = b
 | [], [], _, _, _ => rfl
 | x :: a, y :: b, hl, h, k => by
  simp only [lexB] at h k
  by_cases h1 : x = y
  ·subst h1
   rw [if_pos rfl] at h k
   rw [lexB_total a b (by simpa using hl) h k]
  ·rw [if_neg h1] at h
   rw [if_neg (Ne.symm h1)] at k
   simp at h k
   omega
theorem lexB_append : ∀ (a b : List Int) (x y : Int), a.length = b.length → lexB (a ++ [x]) (b ++ [y]) = if a = b then decide (x < y) else lexB a b
 | [], [], x, y, _ => by by_cases h : x = y <;> simp [lexB, h]
 | u :: a, v :: b, x, y, hl => by
  have hl' : a.length = b.length := by simpa using hl
  have ih := lexB_append a b x y hl'
  simp only [List.cons_append, lexB]
  by_cases h : u = v
  ·subst h
   simp only [if_true, ih]
   by_cases h2 : a = b <;> simp [h2]
  ·simp [h]
theorem comesB_irrefl (a : List Int) : comesB a a = false := by simp [comesB, lexB_irrefl]
theorem comesB_trans {a b c : List Int} (h : comesB a b = true) (k : comesB b c = true) : comesB a c = true := by
 unfold comesB at *
 by_cases h1 : a.length = b.length
 ·rw [if_pos h1] at h
  by_cases h2 : b.length = c.length
  ·rw [if_pos h2] at k; rw [if_pos (h1.trans h2)]; exact lexB_trans _ _ _ h k
  ·rw [if_neg h2] at k; rw [if_neg (by omega)]; simp at k ⊢; omega
 ·rw [if_neg h1] at h
  simp at h
  by_cases h2 : b.length = c.length
  ·rw [if_neg (by omega)]; simp; omega
  ·rw [if_neg h2] at k; simp at k; rw [if_neg (by omega)]; simp; omega
theorem comesB_total {a b : List Int} (h : comesB a b = false) (k : comesB b a = false) : a = b := by
 unfold comesB at *
 by_cases h1 : a.length = b.length
 ·rw [if_pos h1] at h; rw [if_pos h1.symm] at k; exact lexB_total _ _ h1 h k
 ·rw [if_neg h1] at h; rw [if_neg (Ne.symm h1)] at k; simp at h k; omega
def leB (a b : List Int) : Prop := comesB b a = false
theorem leB_refl (a : List Int) : leB a a := comesB_irrefl a
theorem leB_of {a b : List Int} (h : comesB a b = true) : leB a b := by
 unfold leB
 cases e : comesB b a with
 | false => rfl
 | true => have := comesB_trans h e; rw [comesB_irrefl] at this; cases this
theorem leB_iff {a b : List Int} : leB a b ↔ a = b ∨ comesB a b = true := by
 constructor
 ·intro h
  cases e : comesB a b with
  | true => exact .inr rfl
  | false => exact .inl (comesB_total e h)
 ·rintro (rfl | h)
  ·exact leB_refl _
  ·exact leB_of h
theorem leB_trans {a b c : List Int} (h : leB a b) (k : leB b c) : leB a c := by
 rcases leB_iff.1 h with rfl | h
 ·exact k
 ·rcases leB_iff.1 k with rfl | k
  ·exact leB_of h
  ·exact leB_of (comesB_trans h k)
theorem comesB_snoc {u v : List Int} (x y : Int) (h : comesB u v = true) : comesB (u ++ [x]) (v ++ [y]) = true := by
 unfold comesB at *
 simp only [List.length_append, List.length_singleton]
 by_cases h1 : u.length = v.length
 ·rw [if_pos h1] at h
  rw [if_pos (by omega), lexB_append _ _ _ _ h1, if_neg (fun e => by rw [e, lexB_irrefl] at h; cases h)]
  exact h
 ·rw [if_neg h1] at h
  rw [if_neg (by omega)]
  simp at h ⊢
  omega
theorem comesB_last (u : List Int) {x y : Int} (h : x < y) : comesB (u ++ [x]) (u ++ [y]) = true := by
 unfold comesB
 rw [if_pos (by simp), lexB_append _ _ _ _ rfl, if_pos rfl]
 simpa using h
theorem leB_snoc {u v : List Int} (x : Int) (h : leB u v) : leB (u ++ [x]) (v ++ [x]) := by
 rcases leB_iff.1 h with rfl | h
 ·exact leB_refl _
 ·exact leB_of (comesB_snoc x x h)
theorem comesB_nil (u : List Int) (x : Int) : comesB [] (u ++ [x]) = true := by
 unfold comesB
 rw [if_neg (by simp)]
 simp
theorem pigeon : ∀ (N len : Nat) (f : Nat → Nat), (∀ m, m < len → f m < N) → (∀ m m', m < len → m' < len → f m = f m' → m = m') → len ≤ N := by
 intro N
 induction N with
 | zero =>
  intro len f h1 _
  rcases Nat.eq_zero_or_pos len with h | h
  ·omega
  ·have := h1 0 h; omega
 | succ N ih =>
  intro len f h1 h2
  by_cases h : ∃ m, m < len ∧ f m = N
  ·obtain ⟨m0, hm0, e0⟩ := h
   have := ih (len - 1) (fun m => if m < m0 then f m else f (m + 1)) (fun m hm => by
    show (if m < m0 then f m else f (m + 1)) < N
    split
    ·have a := h1 m (by omega)
     have b : f m ≠ N := fun e => by have := h2 m m0 (by omega) hm0 (by omega); omega
     omega
    ·have a := h1 (m + 1) (by omega)
     have b : f (m + 1) ≠ N := fun e => by have := h2 (m + 1) m0 (by omega) hm0 (by omega); omega
     omega) (fun m m' hm hm' e => by
    have e : (if m < m0 then f m else f (m + 1)) = (if m' < m0 then f m' else f (m' + 1)) := e
    split at e <;> split at e
    ·exact h2 _ _ (by omega) (by omega) e
    ·have := h2 _ _ (by omega) (by omega) e; omega
    ·have := h2 _ _ (by omega) (by omega) e; omega
    ·have := h2 _ _ (by omega) (by omega) e; omega)
   omega
  ·have := ih len f (fun m hm => by
    have a := h1 m hm
    have b : f m ≠ N := fun e => h ⟨m, hm, e⟩
    omega) h2
   omega
abbrev Stp := List (Int × Int)
section
variable {σ : Type} [DecidableEq σ] (δ : σ → Nat → σ) (s0 : σ) (k : Nat)
def inn (i : Nat) (q : List σ × Stp) : Nat → List σ × Stp
 | 0 => q
 | x + 1 => if δ ((inn i q x).1.getD i s0) x ∈ (inn i q x).1 then inn i q x else ((inn i q x).1 ++ [δ ((inn i q x).1.getD i s0) x], (inn i q x).2 ++ [((i : Int), (x : Int))])
def bfs : Nat → List σ × Stp
 | 0 => ([s0], [(-1, 0)])
 | i + 1 => if i < (bfs i).1.length then inn δ s0 i (bfs i) k else bfs i
def upW (S : Stp) : Nat → Nat → List Int
 | 0, _ => []
 | f + 1, i => if (S.getD i (-1, 0)).1 < 0 then [] else (S.getD i (-1, 0)).2 :: upW S f (S.getD i (-1, 0)).1.toNat
def wordOf (S : Stp) (i : Nat) : List Int := (upW S (i + 1) i).reverse
def runW (s : σ) : List Int → σ
 | [] => s
 | x :: w => runW (δ s x.toNat) w
omit [DecidableEq σ] in
theorem runW_snoc : ∀ (w : List Int) (s : σ) (x : Int), runW δ s (w ++ [x]) = δ (runW δ s w) x.toNat
 | [], _, _ => rfl
 | y :: w, s, x => by simp only [List.cons_append, runW]; exact runW_snoc w _ x
structure BInv (i x : Nat) (q : List σ × Stp) : Prop where
 len : q.2.length = q.1.length
 pos : 0 < q.1.length
 zero : q.1.getD 0 s0 = s0
 root : q.2.getD 0 (-1, 0) = (-1, 0)
 ent : ∀ m, 0 < m → m < q.1.length → ∃ j y : Nat, q.2.getD m (-1, 0) = ((j : Int), (y : Int)) ∧ j < m ∧ y < k ∧ (j < i ∨ j = i ∧ y < x) ∧ q.1.getD m s0 = δ (q.1.getD j s0) y
 nodup : ∀ m m', m < q.1.length → m' < q.1.length → q.1.getD m s0 = q.1.getD m' s0 → m = m'
 sorted : ∀ m m', m < m' → m' < q.1.length → comesB (wordOf q.2 m) (wordOf q.2 m') = true
 closed : ∀ j y, j < q.1.length → y < k → (j < i ∨ j = i ∧ y < x) → ∃ m, m < q.1.length ∧ q.1.getD m s0 = δ (q.1.getD j s0) y ∧ leB (wordOf q.2 m) (wordOf q.2 j ++ [(y : Int)])
end
theorem getD_append_left {α : Type} {l l' : List α} {i : Nat} {d : α} (h : i < l.length) : (l ++ l').getD i d = l.getD i d := by
 simp [List.getD, List.getElem?_append_left h]
theorem getD_append_last {α : Type} {l : List α} {a d : α} : (l ++ [a]).getD l.length d = a := by simp [List.getD]
def Tree (S : Stp) : Prop := ∀ m, m < S.length → (S.getD m (-1, 0)).1 < 0 ∨ ∃ j y : Nat, S.getD m (-1, 0) = ((j : Int), (y : Int)) ∧ j < m
theorem upW_fuel {S : Stp} (h : Tree S) : ∀ (f g i : Nat), i < f → i < g → i < S.length → upW S f i = upW S g i := by
 intro f
 induction f with
 | zero => intro g i hi; omega
 | succ f ih =>
  intro g i hi hg hl
  cases g with
  | zero => omega
  | succ g =>
   simp only [upW]
   rcases h i hl with h1 | ⟨j, y, h1, h2⟩
   ·rw [if_pos h1, if_pos h1]
   ·rw [h1]
    have e : ¬ ((j : Int) < 0) := by omega
    simp only [e, if_false, Int.toNat_natCast]
    rw [ih g j (by omega) (by omega) (by omega)]
theorem wordOf_root {S : Stp} (i : Nat) (h : (S.getD i (-1, 0)).1 < 0) : wordOf S i = [] := by
 unfold wordOf upW
 rw [if_pos h]; rfl
theorem wordOf_step {S : Stp} (h : Tree S) {i j y : Nat} (hi : i < S.length) (e : S.getD i (-1, 0) = ((j : Int), (y : Int))) (hj : j < i) : wordOf S i = wordOf S j ++ [(y : Int)] := by
 have h1 : upW S (i + 1) i = (y : Int) :: upW S i j := by
  simp only [upW]
  rw [e]
  have h2 : ¬ ((j : Int) < 0) := by omega
  simp only [h2, if_false, Int.toNat_natCast]
 unfold wordOf
 rw [h1, List.reverse_cons, upW_fuel h i (j + 1) j hj (by omega) (by omega)]
theorem upW_append {S : Stp} (e : Int × Int) : ∀ (f i : Nat), Tree S → i < S.length → upW (S ++ [e]) f i = upW S f i := by
 intro f
 induction f with
 | zero => intro i _ _; rfl
 | succ f ih =>
  intro i h hi
  simp only [upW]
  rw [getD_append_left hi]
  rcases h i hi with h1 | ⟨j, y, h1, h2⟩
  ·rw [if_pos h1, if_pos h1]
  ·rw [h1]
   have e : ¬ ((j : Int) < 0) := by omega
   simp only [e, if_false, Int.toNat_natCast]
   rw [ih j h (by omega)]
theorem wordOf_append {S : Stp} (e : Int × Int) {i : Nat} (h : Tree S) (hi : i < S.length) : wordOf (S ++ [e]) i = wordOf S i := by
 unfold wordOf; rw [upW_append e _ i h hi]
section
variable {σ : Type} [DecidableEq σ] {δ : σ → Nat → σ} {s0 : σ} {k : Nat}
theorem BInv.tree {i x : Nat} {q : List σ × Stp} (h : BInv δ s0 k i x q) : Tree q.2 := fun m hm => by
 rw [h.len] at hm
 by_cases h0 : 0 < m
 ·obtain ⟨j, y, h1, h2, _⟩ := h.ent m h0 hm
  exact .inr ⟨j, y, h1, h2⟩
 ·have : m = 0 := by omega
  subst this
  rw [h.root]; exact .inl (by decide)
theorem BInv.word {i x : Nat} {q : List σ × Stp} (h : BInv δ s0 k i x q) {m : Nat} (hm : m < q.1.length) : (m = 0 ∧ wordOf q.2 m = []) ∨ ∃ j y : Nat, j < m ∧ y < k ∧ (j < i ∨ j = i ∧ y < x) ∧ q.1.getD m s0 = δ (q.1.getD j s0) y ∧ wordOf q.2 m = wordOf q.2 j ++ [(y : Int)] := by
 by_cases h0 : 0 < m
 ·obtain ⟨j, y, h1, h2, h3, h4, h5⟩ := h.ent m h0 hm
  exact .inr ⟨j, y, h2, h3, h4, h5, wordOf_step h.tree (by rw [h.len]; exact hm) h1 h2⟩
 ·have : m = 0 := by omega
  subst this
  exact .inl ⟨rfl, wordOf_root 0 (by rw [h.root]; decide)⟩
theorem BInv.next {i x : Nat} {q : List σ × Stp} (h : BInv δ s0 k i x q) (hi : i < q.1.length) {m : Nat} (hm : m < q.1.length) : comesB (wordOf q.2 m) (wordOf q.2 i ++ [(x : Int)]) = true := by
 rcases h.word hm with ⟨_, e⟩ | ⟨j, y, h1, h2, h3, h4, e⟩
 ·rw [e]; exact comesB_nil _ _
 ·rw [e]
  rcases h3 with h3 | ⟨rfl, h3⟩
  ·exact comesB_snoc _ _ (h.sorted j i h3 hi)
  ·exact comesB_last _ (by omega)
theorem binv_zero : BInv δ s0 k 0 0 ([s0], [(-1, 0)]) := by
 refine ⟨rfl, by simp, rfl, rfl, fun m h0 h1 => ?_, fun m m' h1 h2 _ => ?_, fun m m' h1 h2 => ?_, fun j y _ _ h => by omega⟩
 ·simp at h1; omega
 ·simp at h1 h2; omega
 ·simp at h2; omega
theorem BInv.step {i x : Nat} {q : List σ × Stp} (h : BInv δ s0 k i x q) (hi : i < q.1.length) (hx : x < k) :
  BInv δ s0 k i (x + 1) (if δ (q.1.getD i s0) x ∈ q.1 then q else (q.1 ++ [δ (q.1.getD i s0) x], q.2 ++ [((i : Int), (x : Int))])) := by
 split
 ·rename_i hm
  obtain ⟨m, hm1, hm2⟩ := List.getElem_of_mem hm
  refine ⟨h.len, h.pos, h.zero, h.root, fun m h0 h1 => ?_, h.nodup, h.sorted, fun j y hj hy hc => ?_⟩
  ·obtain ⟨j, y, a1, a2, a3, a4, a5⟩ := h.ent m h0 h1
   exact ⟨j, y, a1, a2, a3, by omega, a5⟩
  ·by_cases hc' : j < i ∨ j = i ∧ y < x
   ·exact h.closed j y hj hy hc'
   ·obtain ⟨rfl, rfl⟩ : j = i ∧ y = x := by omega
    exact ⟨m, hm1, by simp [List.getD, hm1, hm2], leB_of (h.next hi hm1)⟩
 ·rename_i hm
  have ht := h.tree
  have hl2 : ∀ {m}, m < q.1.length → m < q.2.length := fun hm => by rw [h.len]; exact hm
  have g1 : ∀ {m}, m < q.1.length → (q.1 ++ [δ (q.1.getD i s0) x]).getD m s0 = q.1.getD m s0 := fun hm => getD_append_left hm
  have g2 : ∀ {m}, m < q.1.length → (q.2 ++ [((i : Int), (x : Int))]).getD m (-1, 0) = q.2.getD m (-1, 0) := fun hm => getD_append_left (hl2 hm)
  have w2 : ∀ {m}, m < q.1.length → wordOf (q.2 ++ [((i : Int), (x : Int))]) m = wordOf q.2 m := fun hm => wordOf_append _ ht (hl2 hm)
  have gl1 : (q.1 ++ [δ (q.1.getD i s0) x]).getD q.1.length s0 = δ (q.1.getD i s0) x := getD_append_last
  have gl2 : (q.2 ++ [((i : Int), (x : Int))]).getD q.1.length (-1, 0) = ((i : Int), (x : Int)) := by rw [← h.len]; exact getD_append_last
  have ht' : Tree (q.2 ++ [((i : Int), (x : Int))]) := fun m hm => by
   by_cases hlt : m < q.2.length
   ·rw [getD_append_left hlt]; exact ht m hlt
   ·have : m = q.1.length := by simp at hm; rw [h.len] at hlt hm; omega
    subst this
    rw [gl2]; exact .inr ⟨i, x, rfl, hi⟩
  have wl : wordOf (q.2 ++ [((i : Int), (x : Int))]) q.1.length = wordOf q.2 i ++ [(x : Int)] := by
   rw [wordOf_step ht' (by simp [h.len]) gl2 hi, w2 hi]
  have hnm : ∀ m, m < q.1.length → q.1.getD m s0 ≠ δ (q.1.getD i s0) x := fun m hm1 e => hm (by
   rw [← e]
   have : q.1.getD m s0 = q.1[m] := by simp [List.getD, hm1]
   rw [this]; exact List.getElem_mem hm1)
  refine ⟨by simp [h.len], by simp, by rw [g1 h.pos]; exact h.zero, by rw [g2 h.pos]; exact h.root, fun m h0 h1 => ?_, fun m m' h1 h2 he => ?_, fun m m' h1 h2 => ?_, fun j y hj hy hc => ?_⟩
  ·simp at h1
   by_cases hlt : m < q.1.length
   ·obtain ⟨j, y, a1, a2, a3, a4, a5⟩ := h.ent m h0 hlt
    exact ⟨j, y, by rw [g2 hlt]; exact a1, a2, a3, by omega, by rw [g1 hlt, g1 (by omega)]; exact a5⟩
   ·have : m = q.1.length := by omega
    subst this
    exact ⟨i, x, gl2, hi, hx, .inr ⟨rfl, by omega⟩, by rw [gl1, g1 hi]⟩
  ·simp at h1 h2
   by_cases hlt : m < q.1.length <;> by_cases hlt' : m' < q.1.length
   ·rw [g1 hlt, g1 hlt'] at he; exact h.nodup m m' hlt hlt' he
   ·have : m' = q.1.length := by omega
    subst this
    rw [g1 hlt, gl1] at he; exact absurd he (hnm m hlt)
   ·have : m = q.1.length := by omega
    subst this
    rw [g1 hlt', gl1] at he; exact absurd he.symm (hnm m' hlt')
   ·omega
  ·simp at h2
   by_cases hlt' : m' < q.1.length
   ·rw [w2 (by omega), w2 hlt']; exact h.sorted m m' h1 hlt'
   ·have : m' = q.1.length := by omega
    subst this
    rw [w2 h1, wl]; exact h.next hi h1
  ·simp at hj
   have key : ∀ m, m < q.1.length → q.1.getD m s0 = δ (q.1.getD j s0) y → j < q.1.length → leB (wordOf q.2 m) (wordOf q.2 j ++ [(y : Int)]) → ∃ m, m < (q.1 ++ [δ (q.1.getD i s0) x]).length ∧ (q.1 ++ [δ (q.1.getD i s0) x]).getD m s0 = δ ((q.1 ++ [δ (q.1.getD i s0) x]).getD j s0) y ∧ leB (wordOf (q.2 ++ [((i : Int), (x : Int))]) m) (wordOf (q.2 ++ [((i : Int), (x : Int))]) j ++ [(y : Int)]) := fun m a1 a2 a3 a4 =>
    ⟨m, by simp; omega, by rw [g1 a1, g1 a3]; exact a2, by rw [w2 a1, w2 a3]; exact a4⟩
   by_cases hc' : j < i ∨ j = i ∧ y < x
   ·obtain ⟨m, a1, a2, a3⟩ := h.closed j y (by omega) hy hc'
    exact key m a1 a2 (by omega) a3
   ·obtain ⟨rfl, rfl⟩ : j = i ∧ y = x := by omega
    exact ⟨q.1.length, by simp, by rw [gl1, g1 hi], by rw [wl, w2 hi]; exact leB_refl _⟩
theorem inn_inv {i : Nat} {q : List σ × Stp} (h : BInv δ s0 k i 0 q) (hi : i < q.1.length) : ∀ x, x ≤ k → BInv δ s0 k i x (inn δ s0 i q x) ∧ q.1.length ≤ (inn δ s0 i q x).1.length
 | 0, _ => ⟨h, Nat.le_refl _⟩
 | x + 1, hx => by
  obtain ⟨h1, h2⟩ := inn_inv h hi x (by omega)
  refine ⟨h1.step (by omega) (by omega), ?_⟩
  unfold inn
  split
  ·exact h2
  ·simp; omega
theorem BInv.up {i : Nat} {q : List σ × Stp} (h : BInv δ s0 k i k q) : BInv δ s0 k (i + 1) 0 q := by
 refine ⟨h.len, h.pos, h.zero, h.root, fun m h0 h1 => ?_, h.nodup, h.sorted, fun j y hj hy hc => h.closed j y hj hy (by omega)⟩
 obtain ⟨j, y, a1, a2, a3, a4, a5⟩ := h.ent m h0 h1
 exact ⟨j, y, a1, a2, a3, by omega, a5⟩
theorem BInv.mono {i i' : Nat} {q : List σ × Stp} (h : BInv δ s0 k i 0 q) (hi : q.1.length ≤ i) (hii : i ≤ i') : BInv δ s0 k i' 0 q := by
 refine ⟨h.len, h.pos, h.zero, h.root, fun m h0 h1 => ?_, h.nodup, h.sorted, fun j y hj hy hc => h.closed j y hj hy (by omega)⟩
 obtain ⟨j, y, a1, a2, a3, a4, a5⟩ := h.ent m h0 h1
 exact ⟨j, y, a1, a2, a3, by omega, a5⟩
theorem bfs_inv : ∀ i, BInv δ s0 k i 0 (bfs δ s0 k i)
 | 0 => binv_zero
 | i + 1 => by
  have h := bfs_inv i
  unfold bfs
  split
  ·rename_i hi
   exact (inn_inv h hi k (Nat.le_refl _)).1.up
  ·rename_i hi
   exact h.mono (by omega) (by omega)
theorem BInv.done {i : Nat} {q : List σ × Stp} (h : BInv δ s0 k i 0 q) (hi : q.1.length ≤ i) : BInv δ s0 k q.1.length 0 q := by
 refine ⟨h.len, h.pos, h.zero, h.root, fun m h0 h1 => ?_, h.nodup, h.sorted, fun j y hj hy hc => h.closed j y hj hy (by omega)⟩
 obtain ⟨j, y, a1, a2, a3, a4, a5⟩ := h.ent m h0 h1
 exact ⟨j, y, a1, a2, a3, by omega, a5⟩
structure More (s0 : σ) (q q' : List σ × Stp) : Prop where
 len : q.1.length ≤ q'.1.length
 l1 : ∀ m, m < q.1.length → q'.1.getD m s0 = q.1.getD m s0
 l2 : ∀ m, m < q.1.length → q'.2.getD m (-1, 0) = q.2.getD m (-1, 0)
theorem More.refl (q : List σ × Stp) : More s0 q q := ⟨Nat.le_refl _, fun _ _ => rfl, fun _ _ => rfl⟩
theorem More.trans {q q' q'' : List σ × Stp} (h : More s0 q q') (h' : More s0 q' q'') : More s0 q q'' :=
 ⟨Nat.le_trans h.len h'.len, fun m hm => (h'.l1 m (Nat.lt_of_lt_of_le hm h.len)).trans (h.l1 m hm), fun m hm => (h'.l2 m (Nat.lt_of_lt_of_le hm h.len)).trans (h.l2 m hm)⟩
theorem inn_more {i : Nat} {q : List σ × Stp} (hq : q.2.length = q.1.length) : ∀ x, More s0 q (inn δ s0 i q x) ∧ (inn δ s0 i q x).2.length = (inn δ s0 i q x).1.length
 | 0 => ⟨More.refl _, hq⟩
 | x + 1 => by
  obtain ⟨h1, h2⟩ := inn_more (i := i) hq x
  unfold inn
  split
  ·exact ⟨h1, h2⟩
  ·refine ⟨h1.trans ⟨by simp, fun m hm => getD_append_left hm, fun m hm => getD_append_left (by rw [h2]; exact hm)⟩, by simp [h2]⟩
theorem bfs_more {i : Nat} : ∀ d, More s0 (bfs δ s0 k i) (bfs δ s0 k (i + d))
 | 0 => More.refl _
 | d + 1 => by
  refine (bfs_more d).trans ?_
  show More s0 _ (bfs δ s0 k (i + d + 1))
  rw [bfs]
  split
  ·exact (inn_more (bfs_inv (i + d)).len k).1
  ·exact More.refl _
theorem bfs_stop {i : Nat} (h : (bfs δ s0 k i).1.length ≤ i) : ∀ d, bfs δ s0 k (i + d) = bfs δ s0 k i
 | 0 => rfl
 | d + 1 => by
  show bfs δ s0 k (i + d + 1) = _
  rw [bfs, bfs_stop h d, if_neg (by omega)]
theorem upW_more {q q' : List σ × Stp} (h : More s0 q q') (ht : Tree q.2) (hl : q.2.length = q.1.length) : ∀ (f i : Nat), i < q.1.length → upW q'.2 f i = upW q.2 f i := by
 intro f
 induction f with
 | zero => intro i _; rfl
 | succ f ih =>
  intro i hi
  simp only [upW]
  rw [h.l2 i hi]
  rcases ht i (by omega) with h1 | ⟨j, y, h1, h2⟩
  ·rw [if_pos h1, if_pos h1]
  ·rw [h1]
   have e : ¬ ((j : Int) < 0) := by omega
   simp only [e, if_false, Int.toNat_natCast]
   rw [ih j (by omega)]
theorem wordOf_more {q q' : List σ × Stp} (h : More s0 q q') (ht : Tree q.2) (hl : q.2.length = q.1.length) {i : Nat} (hi : i < q.1.length) : wordOf q'.2 i = wordOf q.2 i := by
 unfold wordOf; rw [upW_more h ht hl _ i hi]
structure Done (δ : σ → Nat → σ) (s0 : σ) (k : Nat) (q : List σ × Stp) : Prop where
 inv : BInv δ s0 k q.1.length 0 q
theorem Done.reach {q : List σ × Stp} (h : Done δ s0 k q) : ∀ m, m < q.1.length → runW δ s0 (wordOf q.2 m) = q.1.getD m s0 ∧ ∀ x ∈ wordOf q.2 m, 0 ≤ x ∧ x < k := by
 intro m
 induction m using Nat.strongRecOn with
 | _ m ih =>
  intro hm
  rcases h.inv.word hm with ⟨rfl, e⟩ | ⟨j, y, h1, h2, _, h4, e⟩
  ·rw [e, h.inv.zero]; exact ⟨rfl, fun x hx => by cases hx⟩
  ·obtain ⟨i1, i2⟩ := ih j h1 (by omega)
   rw [e, runW_snoc, i1, h4]
   refine ⟨by simp, fun x hx => ?_⟩
   rcases List.mem_append.1 hx with hx | hx
   ·exact i2 x hx
   ·simp at hx; subst hx; omega
theorem Done.first {q : List σ × Stp} (h : Done δ s0 k q) : ∀ w : List Int, (∀ x ∈ w, 0 ≤ x ∧ x < k) → ∃ m, m < q.1.length ∧ runW δ s0 w = q.1.getD m s0 ∧ leB (wordOf q.2 m) w := by
 intro w
 generalize hn : w.length = n
 induction n generalizing w with
 | zero =>
  intro _
  have : w = [] := List.length_eq_zero_iff.1 hn
  subst this
  exact ⟨0, h.inv.pos, h.inv.zero.symm, by rw [wordOf_root 0 (by rw [h.inv.root]; decide)]; exact leB_refl _⟩
 | succ n ih =>
  intro hw
  obtain ⟨u, x, rfl⟩ : ∃ u x, w = u ++ [x] := by
   refine ⟨w.dropLast, w.getLast (fun e => by simp [e] at hn), (List.dropLast_concat_getLast _).symm⟩
  obtain ⟨m, h1, h2, h3⟩ := ih u (by simp at hn; omega) (fun y hy => hw y (by simp [hy]))
  have hx := hw x (by simp)
  obtain ⟨m', a1, a2, a3⟩ := h.inv.closed m x.toNat h1 (by omega) (.inl h1)
  refine ⟨m', a1, by rw [runW_snoc, h2, a2], leB_trans a3 ?_⟩
  have : ((x.toNat : Nat) : Int) = x := by omega
  rw [this]
  exact leB_snoc x h3
end
end Go.AM
end

section
namespace Go.AM
open Go
theorem inn_old {σ : Type} [DecidableEq σ] {δ : σ → Nat → σ} {s0 : σ} {i x : Nat} {q : List σ × Stp} (h : δ ((inn δ s0 i q x).1.getD i s0) x ∈ (inn δ s0 i q x).1) : inn δ s0 i q (x + 1) = inn δ s0 i q x := by
 rw [inn, if_pos h]
theorem inn_new {σ : Type} [DecidableEq σ] {δ : σ → Nat → σ} {s0 : σ} {i x : Nat} {q : List σ × Stp} (h : δ ((inn δ s0 i q x).1.getD i s0) x ∉ (inn δ s0 i q x).1) : inn δ s0 i q (x + 1) = ((inn δ s0 i q x).1 ++ [δ ((inn δ s0 i q x).1.getD i s0) x], (inn δ s0 i q x).2 ++ [((i : Int), (x : Int))]) := by
 rw [inn, if_neg h]
def dltP (N M : List (List Int)) : Int × Int → Nat → Int × Int := fun s c => (nxG N s.1 c, nxG M s.2 c)
def difP (O Q : List (List Int)) (s : Int × Int) (c : Nat) : Prop := outG O s.1 c ≠ outG Q s.2 c
instance (O Q : List (List Int)) (s : Int × Int) (c : Nat) : Decidable (difP O Q s c) := by unfold difP; exact inferInstance
theorem VM.nx {N O : List (List Int)} {k : Nat} (h : VM N O k) {s : Int} {c : Nat} (h1 : 0 ≤ s) (h2 : s < N.length) (h4 : c < k) : 0 ≤ nxG N s c ∧ nxG N s c < N.length :=
 (h.v.at h1 h2 (x := (c : Int)) (by omega) (by omega)).2
section
variable {N O M Q : List (List Int)} {k : Nat} {x y : Int}
theorem pair_in (hN : VM N O k) (hM : VM M Q k) (hx : 0 ≤ x ∧ x < N.length) (hy : 0 ≤ y ∧ y < M.length) {i c : Nat} {q : List (Int × Int) × Stp} (h : BInv (dltP N M) (x, y) k i c q) : ∀ m, m < q.1.length → (0 ≤ (q.1.getD m (x, y)).1 ∧ (q.1.getD m (x, y)).1 < N.length) ∧ 0 ≤ (q.1.getD m (x, y)).2 ∧ (q.1.getD m (x, y)).2 < M.length := by
 intro m
 induction m using Nat.strongRecOn with
 | _ m ih =>
  intro hm
  rcases h.word hm with ⟨rfl, _⟩ | ⟨j, c, h1, h2, _, h4, _⟩
  ·rw [h.zero]; exact ⟨hx, hy⟩
  ·rw [h4]
   obtain ⟨h5, h6⟩ := ih j h1 (by omega)
   exact ⟨hN.nx h5.1 h5.2 h2, hM.nx h6.1 h6.2 h2⟩
def numP (n : Nat) (s : Int × Int) : Nat := s.1.toNat * n + s.2.toNat
theorem mul_lt' {a b m n : Nat} (h1 : a < m) (h2 : b < n) : a * n + b < m * n := by
 calc a * n + b < a * n + n := by omega
  _ = (a + 1) * n := by rw [Nat.add_mul, Nat.one_mul]
  _ ≤ m * n := Nat.mul_le_mul_right _ h1
theorem mul_inj {a b a' b' n : Nat} (h1 : b < n) (h2 : b' < n) (h : a * n + b = a' * n + b') : a = a' ∧ b = b' := by
 have hn : 0 < n := by omega
 have e1 : (a * n + b) / n = a := by rw [Nat.mul_comm, Nat.mul_add_div hn, Nat.div_eq_of_lt h1]; omega
 have e2 : (a' * n + b') / n = a' := by rw [Nat.mul_comm, Nat.mul_add_div hn, Nat.div_eq_of_lt h2]; omega
 have : a = a' := by rw [← e1, ← e2, h]
 subst this
 exact ⟨rfl, by omega⟩
theorem pair_len (hN : VM N O k) (hM : VM M Q k) (hx : 0 ≤ x ∧ x < N.length) (hy : 0 ≤ y ∧ y < M.length) {i c : Nat} {q : List (Int × Int) × Stp} (h : BInv (dltP N M) (x, y) k i c q) : q.1.length ≤ N.length * M.length := by
 have hin := pair_in hN hM hx hy h
 refine pigeon _ _ (fun m => numP M.length (q.1.getD m (x, y))) (fun m hm => ?_) (fun m m' hm hm' he => ?_)
 ·obtain ⟨h1, h2⟩ := hin m hm
  exact mul_lt' (by omega) (by omega)
 ·obtain ⟨h1, h2⟩ := hin m hm
  obtain ⟨h3, h4⟩ := hin m' hm'
  obtain ⟨e1, e2⟩ := mul_inj (by omega) (by omega) he
  refine h.nodup m m' hm hm' (Prod.ext (by omega) (by omega))
end
def finP (N M : List (List Int)) (x y : Int) (k : Nat) : List (Int × Int) × Stp := bfs (dltP N M) (x, y) k (N.length * M.length)
def TellR (N O M Q : List (List Int)) (x y : Int) (k : Nat) (w : List Int) (ok : Bool) : Prop :=
 (∃ i c, i < (finP N M x y k).1.length ∧ c < k ∧ difP O Q ((finP N M x y k).1.getD i (x, y)) c ∧ (∀ c', c' < c → ¬ difP O Q ((finP N M x y k).1.getD i (x, y)) c') ∧
  (∀ j c', j < i → c' < k → ¬ difP O Q ((finP N M x y k).1.getD j (x, y)) c') ∧ w = wordOf (finP N M x y k).2 i ++ [(c : Int)] ∧ ok = true) ∨
 ((∀ j c', j < (finP N M x y k).1.length → c' < k → ¬ difP O Q ((finP N M x y k).1.getD j (x, y)) c') ∧ w = [] ∧ ok = false)
theorem TellR.uniq {N O M Q : List (List Int)} {x y : Int} {k : Nat} {w w' : List Int} {ok ok' : Bool} (h : TellR N O M Q x y k w ok) (h' : TellR N O M Q x y k w' ok') : w = w' ∧ ok = ok' := by
 rcases h with ⟨i, c, h1, h2, h3, h4, h5, rfl, rfl⟩ | ⟨h1, rfl, rfl⟩ <;> rcases h' with ⟨i', c', g1, g2, g3, g4, g5, rfl, rfl⟩ | ⟨g1, rfl, rfl⟩
 ·have e : i = i' := by
   rcases Nat.lt_trichotomy i i' with e | e | e
   ·exact absurd h3 (g5 i c e h2)
   ·exact e
   ·exact absurd g3 (h5 i' c' e g2)
  subst e
  have e : c = c' := by
   rcases Nat.lt_trichotomy c c' with e | e | e
   ·exact absurd h3 (g4 c e)
   ·exact e
   ·exact absurd g3 (h4 c' e)
  subst e
  exact ⟨rfl, rfl⟩
 ·exact absurd h3 (g1 i c h1 h2)
 ·exact absurd g3 (h1 i' c' g1 g2)
 ·exact ⟨rfl, rfl⟩
def mapP (L : List (Int × Int)) : List (List Int × Bool) := L.map fun p => ([p.1, p.2], true)
theorem mapP_keys (L : List (Int × Int)) : keysLen 2 (mapP L) := fun x hx => by
 obtain ⟨p, _, rfl⟩ := List.mem_map.1 hx
 rfl
theorem mapP_find (a b : Int) : ∀ (L : List (Int × Int)) (i : Nat), (mfindK [a, b] (mapP L) i).isSome = decide ((a, b) ∈ L) ∧ ∀ r, mfindK [a, b] (mapP L) i = some r → r.2 = true
 | [], i => by simp [mapP, mfindK]
 | (c, d) :: L, i => by
  have ih := mapP_find a b L (i + 1)
  simp only [mapP, List.map_cons, mfindK]
  by_cases h : a = c ∧ b = d
  ·obtain ⟨rfl, rfl⟩ := h
   simp
  ·have h1 : ¬ ([a, b] = [c, d]) := fun e => h (by simpa using e)
   have h2 : ¬ ((a, b) = (c, d)) := fun e => h (by simpa using e)
   simp only [h1, decide_false]
   refine ⟨?_, ih.2⟩
   rw [show mfindK [a, b] (List.map (fun p : Int × Int => ([p.1, p.2], true)) L) (i + 1) = mfindK [a, b] (mapP L) (i + 1) from rfl, ih.1]
   simp [h2]
theorem mapP_get (a b : Int) (L : List (Int × Int)) : mgetKB [a, b] (mapP L) = decide ((a, b) ∈ L) := by
 obtain ⟨h1, h2⟩ := mapP_find a b L 0
 unfold mgetKB
 cases h : mfindK [a, b] (mapP L) 0 with
 | none => rw [h] at h1; simpa using h1
 | some r =>
  rw [h] at h1
  have := h2 r h
  obtain ⟨i, b⟩ := r
  simp at this h1
  simp [this, h1]
theorem mapP_put {a b : Int} {L : List (Int × Int)} (h : (a, b) ∉ L) : mputK [a, b] true (mapP L) = mapP (L ++ [(a, b)]) := by
 obtain ⟨h1, _⟩ := mapP_find a b L 0
 unfold mputK
 cases e : mfindK [a, b] (mapP L) 0 with
 | none => simp [mapP]
 | some r => rw [e] at h1; simp [h] at h1
def wayC (p : Int × Int) (s : Int × Int) : List AV := [.int .i64 p.1, .int .i64 p.2, .int .i64 s.1, .int .i64 s.2]
def wayL (q : List (Int × Int) × Stp) (d : Int × Int) : List (List AV) := (List.range q.1.length).map fun i => wayC (q.1.getD i d) (q.2.getD i (-1, 0))
theorem wayL_len (q : List (Int × Int) × Stp) (d : Int × Int) : (wayL q d).length = q.1.length := by simp [wayL]
theorem wayL_get {q : List (Int × Int) × Stp} {d : Int × Int} {i : Nat} (h : i < q.1.length) : (wayL q d).getD i [] = [.int .i64 (q.1.getD i d).1, .int .i64 (q.1.getD i d).2, .int .i64 (q.2.getD i (-1, 0)).1, .int .i64 (q.2.getD i (-1, 0)).2] := by
 simp [wayL, wayC, List.getD, h]
theorem wayL_app {q : List (Int × Int) × Stp} {d p : Int × Int} {a b : Int} (h : q.2.length = q.1.length) : wayL q d ++ [[.int .i64 p.1, .int .i64 p.2, .int .i64 a, .int .i64 b]] = wayL (q.1 ++ [p], q.2 ++ [(a, b)]) d := by
 unfold wayL
 simp only [List.length_append, List.length_singleton, List.range_succ, List.map_append, List.map_cons, List.map_nil]
 congr 1
 ·refine List.map_congr_left fun i hi => ?_
  have hi := List.mem_range.1 hi
  rw [getD_append_left hi, getD_append_left (by omega)]
 ·have e1 : (q.1 ++ [p]).getD q.1.length d = p := getD_append_last
  have e2 : (q.2 ++ [(a, b)]).getD q.1.length (-1, 0) = (a, b) := by rw [← h]; exact getD_append_last
  rw [e1, e2]; rfl
end Go.AM
namespace Go.AM
open Go
def pairL (q : List (Int × Int) × Stp) : List (List AV) := q.1.map fun p => [.int .i64 p.1, .int .i64 p.2]
theorem pairL_len (q : List (Int × Int) × Stp) : (pairL q).length = q.1.length := by simp [pairL]
theorem pairL_get {q : List (Int × Int) × Stp} {d : Int × Int} {i : Nat} (h : i < q.1.length) : (pairL q).getD i [] = [.int .i64 (q.1.getD i d).1, .int .i64 (q.1.getD i d).2] := by
 simp [pairL, List.getD, h]
theorem pairL_app (q : List (Int × Int) × Stp) (p e : Int × Int) : pairL q ++ [[.int .i64 p.1, .int .i64 p.2]] = pairL (q.1 ++ [p], q.2 ++ [e]) := by simp [pairL]
def wordsL (q : List (Int × Int) × Stp) : List (List Int) := (List.range q.1.length).map (wordOf q.2)
theorem wordsL_len (q : List (Int × Int) × Stp) : (wordsL q).length = q.1.length := by simp [wordsL]
theorem wordsL_get {q : List (Int × Int) × Stp} {i : Nat} (h : i < q.1.length) : (wordsL q).getD i [] = wordOf q.2 i := by simp [wordsL, List.getD, h]
theorem tree_app {S : Stp} {i x : Nat} (h : Tree S) (hi : i < S.length) : Tree (S ++ [((i : Int), (x : Int))]) := fun m hm => by
 by_cases hlt : m < S.length
 ·rw [getD_append_left hlt]; exact h m hlt
 ·have : m = S.length := by simp at hm; omega
  subst this
  rw [getD_append_last]
  exact .inr ⟨i, x, rfl, hi⟩
theorem wordOf_last {S : Stp} {i x : Nat} (h : Tree S) (hi : i < S.length) : wordOf (S ++ [((i : Int), (x : Int))]) S.length = wordOf S i ++ [(x : Int)] := by
 rw [wordOf_step (tree_app h hi) (by simp) getD_append_last hi, wordOf_append _ h hi]
theorem wordsL_app {q : List (Int × Int) × Stp} {p : Int × Int} {i x : Nat} (h : q.2.length = q.1.length) (ht : Tree q.2) (hi : i < q.1.length) : wordsL q ++ [wordOf q.2 i ++ [(x : Int)]] = wordsL (q.1 ++ [p], q.2 ++ [((i : Int), (x : Int))]) := by
 unfold wordsL
 simp only [List.length_append, List.length_singleton, List.range_succ, List.map_append, List.map_cons, List.map_nil]
 rw [← h, wordOf_last ht (by omega)]
 congr 1
 refine List.map_congr_left fun j hj => ?_
 rw [wordOf_append _ ht (List.mem_range.1 hj)]
theorem wordOf_len {S : Stp} (h : Tree S) : ∀ m, m < S.length → (wordOf S m).length ≤ m := by
 intro m
 induction m using Nat.strongRecOn with
 | _ m ih =>
  intro hm
  rcases h m hm with h1 | ⟨j, y, h1, h2⟩
  ·rw [wordOf_root m h1]; simp
  ·rw [wordOf_step h hm h1 h2]
   have := ih j h2 (by omega)
   simp; omega
def metL (n m : Nat) (L : List (Int × Int)) : List Bool := (List.range (n * m)).map fun j => L.any fun p => numP m p == j
theorem metL_len (n m : Nat) (L : List (Int × Int)) : (metL n m L).length = n * m := by simp [metL]
theorem metL_get {n m : Nat} {L : List (Int × Int)} {p : Int × Int} (hL : ∀ r ∈ L, (0 ≤ r.1 ∧ r.1 < n) ∧ 0 ≤ r.2 ∧ r.2 < m) (hp : (0 ≤ p.1 ∧ p.1 < n) ∧ 0 ≤ p.2 ∧ p.2 < m) : (metL n m L).getD (numP m p) false = decide (p ∈ L) := by
 have hlt : numP m p < n * m := mul_lt' (by omega) (by omega)
 have : (metL n m L).getD (numP m p) false = L.any fun r => numP m r == numP m p := by simp [metL, List.getD, hlt]
 rw [this, Bool.eq_iff_iff]
 simp only [List.any_eq_true, beq_iff_eq, decide_eq_true_eq]
 constructor
 ·rintro ⟨r, hr, e⟩
  have := hL r hr
  obtain ⟨e1, e2⟩ := mul_inj (by omega) (by omega) e
  have : r = p := Prod.ext (by omega) (by omega)
  rwa [← this]
 ·exact fun h => ⟨p, h, rfl⟩
theorem metL_set {n m : Nat} {L : List (Int × Int)} {p : Int × Int} : (metL n m L).set (numP m p) true = metL n m (L ++ [p]) := by
 refine List.ext_getElem (by simp [metL]) fun i h1 h2 => ?_
 simp only [List.getElem_set, metL, List.getElem_map, List.getElem_range, List.any_append, List.any_cons, List.any_nil, Bool.or_false]
 by_cases e : numP m p = i
 ·simp [e]
 ·simp [e]
theorem metL_nil (n m : Nat) : metL n m [] = List.replicate (n * m) false := by
 refine List.ext_getElem (by simp [metL]) fun i h1 h2 => by simp [metL]
theorem numP_int {n : Nat} {p : Int × Int} (h1 : 0 ≤ p.1) (h2 : 0 ≤ p.2) : (p.1 * (n : Int) + p.2).toNat = numP n p := by
 obtain ⟨a, b⟩ := p
 obtain ⟨x, rfl⟩ := Int.eq_ofNat_of_zero_le h1
 obtain ⟨y, rfl⟩ := Int.eq_ofNat_of_zero_le h2
 show (((x : Int) * (n : Int) + (y : Int)) : Int).toNat = x * n + y
 rw [← Int.natCast_mul, ← Int.natCast_add, Int.toNat_natCast]
theorem mul_60 {a : Int} {n : Nat} (h0 : 0 ≤ a) (h1 : a < 60) (h2 : n ≤ 60) : 0 ≤ a * (n : Int) ∧ a * (n : Int) ≤ 3600 := by
 refine ⟨Int.mul_nonneg h0 (by omega), ?_⟩
 have : a * (n : Int) ≤ 60 * 60 := Int.mul_le_mul (by omega) (by omega) (by omega) (by omega)
 omega
theorem BInv.all {N O M Q : List (List Int)} {k : Nat} {x y : Int} (hN : VM N O k) (hM : VM M Q k) (hx : 0 ≤ x ∧ x < N.length) (hy : 0 ≤ y ∧ y < M.length) {i c : Nat} {q : List (Int × Int) × Stp} (h : BInv (dltP N M) (x, y) k i c q) : ∀ r ∈ q.1, (0 ≤ r.1 ∧ r.1 < N.length) ∧ 0 ≤ r.2 ∧ r.2 < M.length := fun r hr => by
 obtain ⟨j, hj, rfl⟩ := List.getElem_of_mem hr
 have := pair_in hN hM hx hy h j hj
 rwa [show q.1.getD j (x, y) = q.1[j] by simp [List.getD, hj]] at this
end Go.AM
end

section
namespace Go.AM
open Go
def fstF (E : Nat → Nat → Bool) (s : Nat) : Nat := ((List.range s).find? (E s)).getD s
def isF (E : Nat → Nat → Bool) (s : Nat) : Bool := (List.range s).all fun t => !E s t
def cntF (E : Nat → Nat → Bool) : Nat → Nat
 | 0 => 0
 | i + 1 => cntF E i + (if isF E i then 1 else 0)
def numF (E : Nat → Nat → Bool) (s : Nat) : Nat := cntF E (fstF E s)
theorem cntF_mono (E : Nat → Nat → Bool) {i j : Nat} (h : i ≤ j) : cntF E i ≤ cntF E j := by
 induction h with
 | refl => exact Nat.le_refl _
 | step _ ih => exact Nat.le_trans ih (by simp [cntF])
theorem cntF_lt {E : Nat → Nat → Bool} {i j : Nat} (h : i < j) (hi : isF E i = true) : cntF E i < cntF E j := by
 have h1 := cntF_mono E (show i + 1 ≤ j from h)
 have h2 : cntF E (i + 1) = cntF E i + 1 := by simp [cntF, hi]
 omega
theorem cntF_inj {E : Nat → Nat → Bool} {i j : Nat} (hi : isF E i = true) (hj : isF E j = true) (h : cntF E i = cntF E j) : i = j := by
 rcases Nat.lt_trichotomy i j with e | e | e
 ·have := cntF_lt e hi; omega
 ·exact e
 ·have := cntF_lt e hj; omega
theorem cntF_surj (E : Nat → Nat → Bool) : ∀ (n c : Nat), c < cntF E n → ∃ s, s < n ∧ isF E s = true ∧ cntF E s = c
 | 0, c, h => by simp [cntF] at h
 | n + 1, c, h => by
  by_cases h1 : c < cntF E n
  ·obtain ⟨s, a, b, d⟩ := cntF_surj E n c h1
   exact ⟨s, by omega, b, d⟩
  ·unfold cntF at h
   by_cases h2 : isF E n = true
   ·rw [if_pos h2] at h
    exact ⟨n, by omega, h2, by omega⟩
   ·rw [if_neg h2] at h; omega
theorem cntF_le (E : Nat → Nat → Bool) : ∀ n, cntF E n ≤ n
 | 0 => Nat.le_refl _
 | n + 1 => by have := cntF_le E n; unfold cntF; split <;> omega
theorem fstF_le (E : Nat → Nat → Bool) (s : Nat) : fstF E s ≤ s := by
 unfold fstF
 cases h : (List.range s).find? (E s) with
 | none => exact Nat.le_refl _
 | some t => have := List.mem_range.1 (List.mem_of_find?_eq_some h); simp; omega
def keyE {κ : Type} [DecidableEq κ] (f : Nat → κ) : Nat → Nat → Bool := fun s t => decide (f s = f t)
section
variable {κ : Type} [DecidableEq κ] {f : Nat → κ}
theorem fstF_key (s : Nat) : f (fstF (keyE f) s) = f s := by
 unfold fstF
 cases h : (List.range s).find? (keyE f s) with
 | none => rfl
 | some t => have := List.find?_some h; simp [keyE] at this; exact this.symm
theorem isF_iff {s : Nat} : isF (keyE f) s = true ↔ ∀ t, t < s → f s ≠ f t := by simp [isF, keyE]
theorem fstF_first {s t : Nat} (h : t < fstF (keyE f) s) : f s ≠ f t := by
 unfold fstF at h
 cases hf : (List.range s).find? (keyE f s) with
 | none =>
  rw [hf] at h
  have := List.find?_eq_none.1 hf t (List.mem_range.2 h)
  simpa [keyE] using this
 | some u =>
  rw [hf] at h
  simp only [Option.getD_some] at h
  obtain ⟨_, as, bs, e, hn⟩ := List.find?_eq_some_iff_append.1 hf
  have hl : u = as.length := by
   have hlen := congrArg List.length e
   simp at hlen
   have h1 : (List.range s)[as.length]? = some u := by rw [e]; simp
   rw [List.getElem?_range (by omega)] at h1
   cases h1; rfl
  have h2 : t ∈ as := by
   have h1 : (List.range s)[t]? = as[t]? := by rw [e, List.getElem?_append_left (by omega)]
   have hlen := congrArg List.length e
   simp at hlen
   rw [List.getElem?_range (by omega)] at h1
   exact List.mem_of_getElem? h1.symm
  have := hn t h2
  simpa [keyE] using this
theorem fstF_isF (s : Nat) : isF (keyE f) (fstF (keyE f) s) = true := isF_iff.2 fun t ht => by
 rw [fstF_key (f := f)]; exact fstF_first ht
theorem fstF_of_isF {s : Nat} (h : isF (keyE f) s = true) : fstF (keyE f) s = s := by
 have h1 := fstF_le (keyE f) s
 rcases Nat.lt_or_eq_of_le h1 with h2 | h2
 ·exact absurd (fstF_key (f := f) s).symm (isF_iff.1 h _ h2)
 ·exact h2
theorem fstF_eq {s t : Nat} : fstF (keyE f) s = fstF (keyE f) t ↔ f s = f t := by
 constructor
 ·intro h; exact (fstF_key (f := f) s).symm.trans ((congrArg f h).trans (fstF_key (f := f) t))
 ·intro h
  rcases Nat.lt_trichotomy (fstF (keyE f) s) (fstF (keyE f) t) with e | e | e
  ·exact absurd (h.symm.trans (fstF_key (f := f) s).symm) (fstF_first e)
  ·exact e
  ·exact absurd (h.trans (fstF_key (f := f) t).symm) (fstF_first e)
theorem numF_eq {s t : Nat} : numF (keyE f) s = numF (keyE f) t ↔ f s = f t := by
 rw [← fstF_eq (f := f)]
 exact ⟨fun h => cntF_inj (fstF_isF (f := f) s) (fstF_isF (f := f) t) h, fun h => by unfold numF; rw [h]⟩
theorem numF_lt {s n : Nat} (h : s < n) : numF (keyE f) s < cntF (keyE f) n :=
 cntF_lt (Nat.lt_of_le_of_lt (fstF_le _ s) h) (fstF_isF s)
theorem numF_surj {n c : Nat} (h : c < cntF (keyE f) n) : ∃ s, s < n ∧ numF (keyE f) s = c := by
 obtain ⟨s, h1, h2, h3⟩ := cntF_surj _ n c h
 exact ⟨s, h1, by unfold numF; rw [fstF_of_isF h2]; exact h3⟩
theorem numF_isF {s : Nat} (h : isF (keyE f) s = true) : numF (keyE f) s = cntF (keyE f) s := by unfold numF; rw [fstF_of_isF h]
end
theorem isF_congr {E E' : Nat → Nat → Bool} {n : Nat} (h : ∀ s t, s < n → t < n → E s t = E' s t) {s : Nat} (hs : s < n) : isF E s = isF E' s := by
 unfold isF
 rw [Bool.eq_iff_iff, List.all_eq_true, List.all_eq_true]
 constructor
 ·intro g t ht; rw [← h s t hs (by have := List.mem_range.1 ht; omega)]; exact g t ht
 ·intro g t ht; rw [h s t hs (by have := List.mem_range.1 ht; omega)]; exact g t ht
theorem cntF_congr {E E' : Nat → Nat → Bool} {n : Nat} (h : ∀ s t, s < n → t < n → E s t = E' s t) : ∀ i, i ≤ n → cntF E i = cntF E' i
 | 0, _ => rfl
 | i + 1, hi => by unfold cntF; rw [cntF_congr h i (by omega), isF_congr h (by omega)]
theorem find_congr {α : Type} {p q : α → Bool} : ∀ {l : List α}, (∀ x ∈ l, p x = q x) → l.find? p = l.find? q
 | [], _ => rfl
 | x :: l, h => by
  rw [List.find?_cons, List.find?_cons, h x (by simp), find_congr fun y hy => h y (by simp [hy])]
theorem numF_congr {E E' : Nat → Nat → Bool} {n : Nat} (h : ∀ s t, s < n → t < n → E s t = E' s t) {s : Nat} (hs : s < n) : numF E s = numF E' s := by
 have e : fstF E s = fstF E' s := by
  unfold fstF
  rw [find_congr fun t ht => h s t hs (by have := List.mem_range.1 ht; omega)]
 unfold numF
 rw [e]
 exact cntF_congr h _ (by have := fstF_le E' s; omega)
theorem same_count {κ κ' : Type} [DecidableEq κ] [DecidableEq κ'] {f : Nat → κ} {g : Nat → κ'} {n : Nat} (hfg : ∀ s t, s < n → t < n → f s = f t → g s = g t) (hc : cntF (keyE f) n = cntF (keyE g) n) : ∀ s t, s < n → t < n → (f s = f t ↔ g s = g t) := by
 intro s t hs ht
 refine ⟨hfg s t hs ht, fun hg => Classical.byContradiction fun hne => ?_⟩
 have hrep : ∀ c, ∃ r, c < cntF (keyE g) n → r < n ∧ numF (keyE g) r = c := fun c => by
  by_cases h : c < cntF (keyE g) n
  ·obtain ⟨r, h1, h2⟩ := numF_surj h; exact ⟨r, fun _ => ⟨h1, h2⟩⟩
  ·exact ⟨0, fun h' => absurd h' h⟩
 let rep : Nat → Nat := fun c => Classical.choose (hrep c)
 have hr : ∀ c, c < cntF (keyE g) n → rep c < n ∧ numF (keyE g) (rep c) = c := fun c => Classical.choose_spec (hrep c)
 -- one of s and t is not taken
 have key : ∃ u, u < n ∧ g u = g s ∧ f u ≠ f (rep (numF (keyE g) s)) := by
  by_cases e : f s = f (rep (numF (keyE g) s))
  ·exact ⟨t, ht, hg.symm, fun e2 => hne (e.trans e2.symm)⟩
  ·exact ⟨s, hs, rfl, e⟩
 obtain ⟨u, hu, hgu, hfu⟩ := key
 have := pigeon (cntF (keyE f) n) (cntF (keyE g) n + 1) (fun c => if c < cntF (keyE g) n then numF (keyE f) (rep c) else numF (keyE f) u) (fun c _ => by
   show (if c < cntF (keyE g) n then numF (keyE f) (rep c) else numF (keyE f) u) < _
   split
   ·rename_i h; exact numF_lt (hr c h).1
   ·exact numF_lt hu) (fun c c' h1 h2 e => by
   have e : (if c < cntF (keyE g) n then numF (keyE f) (rep c) else numF (keyE f) u) = (if c' < cntF (keyE g) n then numF (keyE f) (rep c') else numF (keyE f) u) := e
   have bad : ∀ d, d < cntF (keyE g) n → numF (keyE f) (rep d) = numF (keyE f) u → False := fun d hd he => by
    have h3 := numF_eq.1 he
    have h4 := hfg _ _ (hr d hd).1 hu h3
    have h5 : d = numF (keyE g) s := by rw [← (hr d hd).2]; exact numF_eq.2 (h4.trans hgu)
    rw [h5] at h3
    exact hfu h3.symm
   split at e <;> split at e
   ·rename_i h3 h4
    have h5 := numF_eq.1 e
    have h6 := hfg _ _ (hr c h3).1 (hr c' h4).1 h5
    rw [← (hr c h3).2, ← (hr c' h4).2]; exact numF_eq.2 h6
   ·rename_i h3 h4; exact (bad c h3 e).elim
   ·rename_i h3 h4; exact (bad c' h4 e.symm).elim
   ·omega)
 omega
end Go.AM
namespace Go.AM
open Go
theorem count_le {κ κ' : Type} [DecidableEq κ] [DecidableEq κ'] {f : Nat → κ} {g : Nat → κ'} {n : Nat} (hfg : ∀ s t, s < n → t < n → f s = f t → g s = g t) : cntF (keyE g) n ≤ cntF (keyE f) n := by
 have hrep : ∀ c, ∃ r, c < cntF (keyE g) n → r < n ∧ numF (keyE g) r = c := fun c => by
  by_cases h : c < cntF (keyE g) n
  ·obtain ⟨r, h1, h2⟩ := numF_surj h; exact ⟨r, fun _ => ⟨h1, h2⟩⟩
  ·exact ⟨0, fun h' => absurd h' h⟩
 let rep : Nat → Nat := fun c => Classical.choose (hrep c)
 have hr : ∀ c, c < cntF (keyE g) n → rep c < n ∧ numF (keyE g) (rep c) = c := fun c => Classical.choose_spec (hrep c)
 refine pigeon _ _ (fun c => numF (keyE f) (rep c)) (fun c hc => numF_lt (hr c hc).1) (fun c c' h1 h2 e => ?_)
 have h6 := hfg _ _ (hr c h1).1 (hr c' h2).1 (numF_eq.1 e)
 rw [← (hr c h1).2, ← (hr c' h2).2]; exact numF_eq.2 h6
def kF (N O : List (List Int)) (k : Nat) (c : List Int) (s : Nat) : List (Int × Int) := (List.range k).map fun (x : Nat) => (outG O s x, c.getD (nxG N s x).toNat 0)
theorem kF_eq {N O : List (List Int)} {k : Nat} {c : List Int} {s t : Nat} : kF N O k c s = kF N O k c t ↔ ∀ x, x < k → outG O s x = outG O t x ∧ c.getD (nxG N s x).toNat 0 = c.getD (nxG N t x).toNat 0 := by
 unfold kF
 constructor
 ·intro h x hx
  have := congrArg (fun l => l[x]?) h
  simpa [hx] using this
 ·intro h
  refine List.map_congr_left fun x hx => ?_
  obtain ⟨h1, h2⟩ := h x (List.mem_range.1 hx)
  exact Prod.ext h1 h2
def nextC (N O : List (List Int)) (k : Nat) (c : List Int) : List Int := (List.range N.length).map fun s => ((numF (keyE (kF N O k c)) s : Nat) : Int)
def clsI (N O : List (List Int)) (k : Nat) : Nat → List Int
 | 0 => List.replicate N.length 0
 | i + 1 => nextC N O k (clsI N O k i)
def atC (c : List Int) (s : Nat) : Int := c.getD s 0
def cntI (N O : List (List Int)) (k i : Nat) : Nat := cntF (keyE (atC (clsI N O k i))) N.length
section
variable {N O : List (List Int)} {k : Nat}
theorem nextC_len (c : List Int) : (nextC N O k c).length = N.length := by simp [nextC]
theorem clsI_len : ∀ i, (clsI N O k i).length = N.length
 | 0 => by simp [clsI]
 | i + 1 => nextC_len _
theorem nextC_at {c : List Int} {s : Nat} (h : s < N.length) : atC (nextC N O k c) s = ((numF (keyE (kF N O k c)) s : Nat) : Int) := by simp [nextC, atC, List.getD, h]
theorem nextC_eq {c : List Int} {s t : Nat} (hs : s < N.length) (ht : t < N.length) : atC (nextC N O k c) s = atC (nextC N O k c) t ↔ kF N O k c s = kF N O k c t := by
 rw [nextC_at hs, nextC_at ht, Int.natCast_inj]; exact numF_eq
theorem clsI_succ {i s t : Nat} (hs : s < N.length) (ht : t < N.length) : atC (clsI N O k (i + 1)) s = atC (clsI N O k (i + 1)) t ↔ kF N O k (clsI N O k i) s = kF N O k (clsI N O k i) t := nextC_eq hs ht
theorem nx_nat (hN : VM N O k) {s x : Nat} (hs : s < N.length) (hx : x < k) : (nxG N s x).toNat < N.length := by
 have := hN.nx (s := (s : Int)) (c := x) (by omega) (by omega) hx; omega
theorem clsI_mono (hN : VM N O k) : ∀ (i : Nat) {s t : Nat}, s < N.length → t < N.length → atC (clsI N O k (i + 1)) s = atC (clsI N O k (i + 1)) t → atC (clsI N O k i) s = atC (clsI N O k i) t
 | 0, s, t, hs, ht, _ => by simp [clsI, atC, List.getD, hs, ht]
 | i + 1, s, t, hs, ht, h => by
  rw [clsI_succ hs ht]
  rw [clsI_succ hs ht, kF_eq] at h
  rw [kF_eq]
  intro x hx
  obtain ⟨h1, h2⟩ := h x hx
  exact ⟨h1, clsI_mono hN i (nx_nat hN hs hx) (nx_nat hN ht hx) h2⟩
theorem cntI_succ (i : Nat) : cntI N O k (i + 1) = cntF (keyE (kF N O k (clsI N O k i))) N.length :=
 cntF_congr (fun s t hs ht => by simp only [keyE, decide_eq_decide]; exact clsI_succ hs ht) _ (Nat.le_refl _)
theorem cntI_zero (h : 1 ≤ N.length) : cntI N O k 0 = 1 := by
 have h1 : ∀ s t, s < N.length → t < N.length → keyE (atC (clsI N O k 0)) s t = true := fun s t hs ht => by simp [keyE, clsI, atC, List.getD, hs, ht]
 unfold cntI
 have : ∀ i, i + 1 ≤ N.length → cntF (keyE (atC (clsI N O k 0))) (i + 1) = 1 := fun i => by
  induction i with
  | zero => intro _; simp [cntF, isF]
  | succ i ih =>
   intro hi
   have h2 : isF (keyE (atC (clsI N O k 0))) (i + 1) = false := by
    unfold isF
    rw [Bool.eq_false_iff]
    intro g
    have := List.all_eq_true.1 g 0 (by simp)
    rw [h1 (i + 1) 0 (by omega) (by omega)] at this
    cases this
   rw [cntF, ih (by omega), h2]; simp
 obtain ⟨m, hm⟩ : ∃ m, N.length = m + 1 := ⟨N.length - 1, by omega⟩
 rw [hm]; exact this m (by omega)
def kP (N O : List (List Int)) (k : Nat) (c : List Int) (s : Nat) : Int × List (Int × Int) := (atC c s, kF N O k c s)
theorem kP_E (hN : VM N O k) (i : Nat) : ∀ s t, s < N.length → t < N.length → keyE (kP N O k (clsI N O k i)) s t = keyE (kF N O k (clsI N O k i)) s t := fun s t hs ht => by
 simp only [keyE, kP, decide_eq_decide, Prod.mk.injEq]
 exact ⟨fun h => h.2, fun h => ⟨clsI_mono hN i hs ht ((clsI_succ hs ht).2 h), h⟩⟩
theorem clsI_canon : ∀ (i : Nat) {s : Nat}, s < N.length → atC (clsI N O k i) s = ((numF (keyE (atC (clsI N O k i))) s : Nat) : Int)
 | 0, s, hs => by
  have h1 : ∀ s t, s < N.length → t < N.length → atC (clsI N O k 0) s = atC (clsI N O k 0) t := fun s t hs ht => by simp [clsI, atC, List.getD, hs, ht]
  have h2 : numF (keyE (atC (clsI N O k 0))) s = numF (keyE (atC (clsI N O k 0))) 0 := numF_eq.2 (h1 s 0 hs (by omega))
  rw [h2]
  simp [numF, fstF, cntF, clsI, atC, List.getD, hs]
 | i + 1, s, hs => by
  show atC (nextC N O k (clsI N O k i)) s = _
  rw [nextC_at hs]
  rw [Int.natCast_inj]
  exact (numF_congr (E := keyE (atC (clsI N O k (i + 1)))) (E' := keyE (kF N O k (clsI N O k i))) (n := N.length) (fun s t hs ht => by simp only [keyE, decide_eq_decide]; exact clsI_succ hs ht) hs).symm
theorem clsI_le (hN : VM N O k) (i : Nat) : cntI N O k i ≤ cntI N O k (i + 1) := count_le fun s t hs ht h => clsI_mono hN i hs ht h
theorem list_ext_at {a b : List Int} {n : Nat} (ha : a.length = n) (hb : b.length = n) (h : ∀ s, s < n → atC a s = atC b s) : a = b :=
 ints_eq' (by omega) fun j hj => h j (by omega)
theorem clsI_stable (hN : VM N O k) {i : Nat} (h : cntI N O k (i + 1) = cntI N O k i) : clsI N O k (i + 1) = clsI N O k i := by
 have := same_count (f := atC (clsI N O k (i + 1))) (g := atC (clsI N O k i)) (n := N.length) (fun s t hs ht => clsI_mono hN i hs ht) h
 refine list_ext_at (clsI_len _) (clsI_len _) fun s hs => ?_
 rw [clsI_canon (i + 1) hs, clsI_canon i hs, Int.natCast_inj]
 exact numF_congr (n := N.length) (fun s t hs ht => by simp only [keyE, decide_eq_decide]; exact this s t hs ht) hs
theorem clsI_from {i : Nat} (h : clsI N O k (i + 1) = clsI N O k i) : ∀ d, clsI N O k (i + d) = clsI N O k i
 | 0 => rfl
 | d + 1 => by
  show nextC N O k (clsI N O k (i + d)) = _
  rw [clsI_from h d]; exact h
theorem cntI_grow (hN : VM N O k) : ∀ i, (∀ j, j < i → cntI N O k (j + 1) ≠ cntI N O k j) → i + 1 ≤ cntI N O k i
 | 0, _ => by rw [cntI_zero hN.v.n1]; exact Nat.le_refl _
 | i + 1, h => by
  have h1 := cntI_grow hN i fun j hj => h j (by omega)
  have h2 := clsI_le hN i
  have h3 := h i (by omega)
  omega
theorem cntI_le (i : Nat) : cntI N O k i ≤ N.length := cntF_le _ _
theorem clsI_done (hN : VM N O k) {i : Nat} (h : ∀ j, j < i → cntI N O k (j + 1) ≠ cntI N O k j) (he : cntI N O k (i + 1) = cntI N O k i) : clsI N O k (i + 1) = clsI N O k N.length ∧ cntI N O k i = cntI N O k N.length := by
 have h1 := cntI_grow hN i h
 have h2 := cntI_le (N := N) (O := O) (k := k) i
 have h3 := clsI_stable hN he
 have h4 := clsI_from h3 (N.length - i)
 rw [show i + (N.length - i) = N.length by omega] at h4
 exact ⟨h3.trans h4.symm, by unfold cntI; rw [h4]⟩
end
def clsT (N O : List (List Int)) (k : Nat) : List Int := clsI N O k N.length
def cntT (N O : List (List Int)) (k : Nat) : Nat := cntI N O k N.length
end Go.AM
end

section
namespace Go.AM
open Go
theorem mfindK_snoc {α : Type} (key kk : List Int) (v : α) : ∀ (m : List (List Int × α)) (i : Nat), mfindK key (m ++ [(kk, v)]) i = match mfindK key m i with
  | some r => some r
  | none => if key = kk then some (i + m.length, v) else none
 | [], i => by by_cases h : key = kk <;> simp [mfindK, h]
 | (l, b) :: m, i => by
  simp only [List.cons_append, mfindK]
  by_cases h : key = l
  ·simp [h]
  ·simp only [h, decide_false]
   rw [mfindK_snoc key kk v m (i + 1)]
   cases mfindK key m (i + 1) with
   | some r => rfl
   | none => simp only [List.length_cons]; split <;> simp; omega
section
variable (f : Nat → List Int)
def mapR : Nat → List (List Int × Int)
 | 0 => []
 | i + 1 => if isF (keyE f) i = true then mapR i ++ [(f i, ((cntF (keyE f) i : Nat) : Int))] else mapR i
theorem mapR_len : ∀ i, (mapR f i).length = cntF (keyE f) i
 | 0 => rfl
 | i + 1 => by unfold mapR cntF; split <;> simp [mapR_len i]
theorem mapR_keys {n : Nat} (h : ∀ t, (f t).length = n) : ∀ i, keysLen n (mapR f i)
 | 0 => fun x hx => by cases hx
 | i + 1 => fun x hx => by
  unfold mapR at hx
  split at hx
  ·rcases List.mem_append.1 hx with hx | hx
   ·exact mapR_keys h i x hx
   ·simp only [List.mem_singleton] at hx; subst hx; exact h i
  ·exact mapR_keys h i x hx
theorem mapR_has : ∀ (i t : Nat), t < i → isF (keyE f) t = true → ∃ j, mfindK (f t) (mapR f i) 0 = some (j, ((cntF (keyE f) t : Nat) : Int))
 | 0, t, h, _ => by omega
 | i + 1, t, h, ht => by
  unfold mapR
  by_cases hti : t < i
  ·obtain ⟨j, hj⟩ := mapR_has i t hti ht
   split
   ·rw [mfindK_snoc, hj]; exact ⟨j, rfl⟩
   ·exact ⟨j, hj⟩
  ·obtain rfl : t = i := by omega
   rw [if_pos ht, mfindK_snoc]
   cases hf : mfindK (f t) (mapR f t) 0 with
   | none => simp only [if_true]; exact ⟨_, rfl⟩
   | some r =>
    exfalso
    obtain ⟨p, b⟩ := r
    obtain ⟨j, _, hj, e⟩ := mfindK_spec hf
    have : ∀ i, ∀ x ∈ mapR f i, ∃ u, u < i ∧ x.1 = f u := fun i => by
     induction i with
     | zero => intro x hx; cases hx
     | succ i ih =>
      intro x hx
      unfold mapR at hx
      split at hx
      ·rcases List.mem_append.1 hx with hx | hx
       ·obtain ⟨u, h1, h2⟩ := ih x hx; exact ⟨u, by omega, h2⟩
       ·simp only [List.mem_singleton] at hx; subst hx; exact ⟨i, by omega, rfl⟩
      ·obtain ⟨u, h1, h2⟩ := ih x hx; exact ⟨u, by omega, h2⟩
    obtain ⟨u, h1, h2⟩ := this t _ (List.getElem_mem hj)
    exact isF_iff.1 ht u h1 (e.trans h2)
theorem mapR_mem : ∀ (i : Nat) (x : List Int × Int), x ∈ mapR f i → ∃ u, u < i ∧ x.1 = f u
 | 0, x, hx => by cases hx
 | i + 1, x, hx => by
  unfold mapR at hx
  split at hx
  ·rcases List.mem_append.1 hx with hx | hx
   ·obtain ⟨u, h1, h2⟩ := mapR_mem i x hx; exact ⟨u, by omega, h2⟩
   ·simp only [List.mem_singleton] at hx; subst hx; exact ⟨i, by omega, rfl⟩
  ·obtain ⟨u, h1, h2⟩ := mapR_mem i x hx; exact ⟨u, by omega, h2⟩
theorem mapR_old {i : Nat} (h : isF (keyE f) i = false) : mhasK (f i) (mapR f i) = true ∧ mgetKI (f i) (mapR f i) = ((numF (keyE f) i : Nat) : Int) ∧ mapR f (i + 1) = mapR f i := by
 have h1 : fstF (keyE f) i < i := by
  rcases Nat.lt_or_eq_of_le (fstF_le (keyE f) i) with h2 | h2
  ·exact h2
  ·have := fstF_isF (f := f) i; rw [h2, h] at this; cases this
 obtain ⟨j, hj⟩ := mapR_has f i (fstF (keyE f) i) h1 (fstF_isF i)
 rw [fstF_key (f := f)] at hj
 refine ⟨by simp [mhasK, hj], by simp only [mgetKI, hj]; rfl, ?_⟩
 rw [mapR, if_neg (by rw [h]; simp)]
theorem mapR_new {i : Nat} (h : isF (keyE f) i = true) : mhasK (f i) (mapR f i) = false ∧ mputK (f i) (((mapR f i).length : Nat) : Int) (mapR f i) = mapR f (i + 1) ∧ mgetKI (f i) (mapR f (i + 1)) = ((numF (keyE f) i : Nat) : Int) := by
 have h1 : mfindK (f i) (mapR f i) 0 = none := by
  cases hf : mfindK (f i) (mapR f i) 0 with
  | none => rfl
  | some r =>
   obtain ⟨p, b⟩ := r
   obtain ⟨j, _, hj, e⟩ := mfindK_spec hf
   obtain ⟨u, h1, h2⟩ := mapR_mem f i _ (List.getElem_mem hj)
   exact absurd (e.trans h2) (isF_iff.1 h u h1)
 have h2 : mapR f (i + 1) = mapR f i ++ [(f i, ((cntF (keyE f) i : Nat) : Int))] := by rw [mapR, if_pos h]
 refine ⟨by simp [mhasK, h1], by rw [h2]; simp only [mputK, h1, mapR_len], ?_⟩
 obtain ⟨j, hj⟩ := mapR_has f (i + 1) i (by omega) h
 simp only [mgetKI, hj, numF_isF h]
end
def rowA (c0 : Int) (A B : Nat → Int) : Nat → List Int
 | 0 => c0 :: List.replicate 12 0
 | j + 1 => ((rowA c0 A B j).set (1 + 2 * j) (A j)).set (2 + 2 * j) (B j)
theorem rowA_len (c0 : Int) (A B : Nat → Int) : ∀ j, (rowA c0 A B j).length = 13
 | 0 => rfl
 | j + 1 => by simp [rowA, rowA_len c0 A B j]
theorem getD_set' {α : Type} {l : List α} {a i : Nat} {v d : α} : (l.set a v).getD i d = if a = i then (if i < l.length then v else d) else l.getD i d := by
 simp only [List.getD_eq_getElem?_getD, List.getElem?_set]
 by_cases h : a = i
 ·subst h
  by_cases h2 : a < l.length <;> simp [h2]
 ·simp [h]
theorem rowA_at {c0 : Int} {A B : Nat → Int} : ∀ (j : Nat), j ≤ 6 → (rowA c0 A B j).getD 0 0 = c0 ∧ ∀ x, x < j → (rowA c0 A B j).getD (1 + 2 * x) 0 = A x ∧ (rowA c0 A B j).getD (2 + 2 * x) 0 = B x
 | 0, _ => ⟨rfl, fun x hx => by omega⟩
 | j + 1, hj => by
  obtain ⟨h0, h1⟩ := rowA_at (c0 := c0) (A := A) (B := B) j (by omega)
  have hl := rowA_len c0 A B j
  have g : ∀ i, (((rowA c0 A B j).set (1 + 2 * j) (A j)).set (2 + 2 * j) (B j)).getD i 0 = if 2 + 2 * j = i then (if i < 13 then B j else 0) else if 1 + 2 * j = i then (if i < 13 then A j else 0) else (rowA c0 A B j).getD i 0 := fun i => by
   rw [getD_set', getD_set', List.length_set, hl]
  unfold rowA
  refine ⟨by rw [g, if_neg (by omega), if_neg (by omega)]; exact h0, fun x hx => ?_⟩
  rw [g, g]
  by_cases e : x = j
  ·subst e
   rw [if_neg (by omega), if_pos rfl, if_pos (by omega), if_pos rfl, if_pos (by omega)]
   exact ⟨rfl, rfl⟩
  ·rw [if_neg (by omega), if_neg (by omega), if_neg (by omega), if_neg (by omega)]
   exact h1 x (by omega)
theorem rowA_congr {c0 c1 : Int} {A B A' B' : Nat → Int} (h0 : c0 = c1) : ∀ (j : Nat), (∀ x, x < j → A x = A' x ∧ B x = B' x) → rowA c0 A B j = rowA c1 A' B' j
 | 0, _ => by rw [h0]; rfl
 | j + 1, h => by
  unfold rowA
  rw [rowA_congr h0 j fun x hx => h x (by omega), (h j (by omega)).1, (h j (by omega)).2]
def rowK (N O : List (List Int)) (c : List Int) (s : Nat) : Nat → List Int := rowA (atC c s) (fun x => c.getD (nxG N s x).toNat 0) (fun x => outG O s x)
theorem rowK_eq {N O : List (List Int)} {k : Nat} (hk : k ≤ 6) {c : List Int} {s t : Nat} : rowK N O c s k = rowK N O c t k ↔ kP N O k c s = kP N O k c t := by
 unfold kP
 rw [Prod.mk.injEq, kF_eq]
 constructor
 ·intro h
  have h1 := rowA_at (c0 := atC c s) (A := fun x => c.getD (nxG N s x).toNat 0) (B := fun x => outG O s x) k hk
  have h2 := rowA_at (c0 := atC c t) (A := fun x => c.getD (nxG N t x).toNat 0) (B := fun x => outG O t x) k hk
  unfold rowK at h
  rw [h] at h1
  exact ⟨h1.1.symm.trans h2.1, fun x hx => ⟨(h1.2 x hx).2.symm.trans (h2.2 x hx).2, (h1.2 x hx).1.symm.trans (h2.2 x hx).1⟩⟩
 ·rintro ⟨h1, h2⟩
  exact rowA_congr h1 k fun x hx => ⟨(h2 x hx).2, (h2 x hx).1⟩
end Go.AM
end

section
namespace Go.AM
open Go
def firsts (E : Nat → Nat → Bool) (i : Nat) : List Nat := (List.range i).filter (isF E)
theorem firsts_succ (E : Nat → Nat → Bool) (i : Nat) : firsts E (i + 1) = if isF E i = true then firsts E i ++ [i] else firsts E i := by
 unfold firsts
 rw [List.range_succ, List.filter_append]
 by_cases h : isF E i = true
 ·simp [h]
 ·simp [h]
theorem firsts_len (E : Nat → Nat → Bool) : ∀ i, (firsts E i).length = cntF E i
 | 0 => rfl
 | i + 1 => by rw [firsts_succ, cntF]; split <;> simp [firsts_len E i]
theorem firsts_get {E : Nat → Nat → Bool} : ∀ {i s : Nat}, s < i → isF E s = true → (firsts E i)[cntF E s]? = some s
 | 0, s, h, _ => by omega
 | i + 1, s, h, hs => by
  rw [firsts_succ]
  by_cases e : s < i
  ·have ih := firsts_get e hs
   split
   ·rw [List.getElem?_append_left (by have := (List.getElem?_eq_some_iff.1 ih).1; exact this)]; exact ih
   ·exact ih
  ·obtain rfl : s = i := by omega
   rw [if_pos hs]
   rw [← firsts_len E s, List.getElem?_append_right (Nat.le_refl _)]; simp
section
variable {N O : List (List Int)} {k : Nat}
def clE (N O : List (List Int)) (k : Nat) : Nat → Nat → Bool := keyE (atC (clsT N O k))
theorem cls_at {s : Nat} (h : s < N.length) : atC (clsT N O k) s = ((numF (clE N O k) s : Nat) : Int) := clsI_canon _ h
theorem clsT_len : (clsT N O k).length = N.length := clsI_len _
theorem cls_rng {s : Nat} (h : s < N.length) : 0 ≤ atC (clsT N O k) s ∧ atC (clsT N O k) s < cntT N O k := by
 rw [cls_at h]
 have := numF_lt (f := atC (clsT N O k)) h
 unfold cntT cntI clE
 unfold clsT at this ⊢
 omega
def repC (N O : List (List Int)) (k c : Nat) : Nat := (firsts (clE N O k) N.length).getD c 0
theorem repC_ok {c : Nat} (h : c < cntT N O k) : repC N O k c < N.length ∧ isF (clE N O k) (repC N O k c) = true ∧ cntF (clE N O k) (repC N O k c) = c ∧ atC (clsT N O k) (repC N O k c) = c := by
 obtain ⟨s, h1, h2, h3⟩ := cntF_surj (clE N O k) N.length c h
 have h4 := firsts_get h1 h2
 have e : repC N O k c = s := by unfold repC; rw [List.getD_eq_getElem?_getD, ← h3, h4]; rfl
 rw [e]
 refine ⟨h1, h2, h3, ?_⟩
 rw [cls_at h1, Int.natCast_inj]
 exact (numF_isF h2).trans h3
theorem repC_first {c t : Nat} (h : c < cntT N O k) (ht : t < repC N O k c) : atC (clsT N O k) t ≠ c := by
 obtain ⟨h1, h2, h3, h4⟩ := repC_ok h
 have := isF_iff.1 h2 t ht
 rw [h4] at this
 exact fun e => this e.symm
def rowN (N O : List (List Int)) (k s : Nat) : List Int := (N.getD s []).map fun t => (clsT N O k).getD t.toNat 0
def minN (N O : List (List Int)) (k : Nat) : List (List Int) := (List.range (cntT N O k)).map fun c => rowN N O k (repC N O k c)
def minO (N O : List (List Int)) (k : Nat) : List (List Int) := (List.range (cntT N O k)).map fun c => O.getD (repC N O k c) []
def minNs (N O : List (List Int)) (k i : Nat) : List (List Int) := (firsts (clE N O k) i).map (rowN N O k)
def minOs (N O : List (List Int)) (k i : Nat) : List (List Int) := (firsts (clE N O k) i).map fun s => O.getD s []
theorem map_firsts {α : Type} (g : Nat → α) : (firsts (clE N O k) N.length).map g = (List.range (cntT N O k)).map fun c => g (repC N O k c) := by
 refine List.ext_getElem (by simp [firsts_len]; rfl) fun i h1 h2 => ?_
 have h3 : i < (firsts (clE N O k) N.length).length := by simpa using h1
 simp [repC, List.getD, h3]
theorem minNs_all : minNs N O k N.length = minN N O k := map_firsts _
theorem minOs_all : minOs N O k N.length = minO N O k := map_firsts _
theorem minNs_len (i : Nat) : (minNs N O k i).length = cntF (clE N O k) i := by simp [minNs, firsts_len]
theorem minOs_len (i : Nat) : (minOs N O k i).length = cntF (clE N O k) i := by simp [minOs, firsts_len]
theorem cls_new {i : Nat} (h : i < N.length) : (isF (clE N O k) i = true ∧ atC (clsT N O k) i = cntF (clE N O k) i) ∨ (isF (clE N O k) i = false ∧ atC (clsT N O k) i < cntF (clE N O k) i) := by
 rw [cls_at h]
 cases e : isF (clE N O k) i with
 | true => exact .inl ⟨rfl, by rw [Int.natCast_inj]; exact numF_isF e⟩
 | false =>
  refine .inr ⟨rfl, ?_⟩
  have h1 : fstF (clE N O k) i < i := by
   rcases Nat.lt_or_eq_of_le (fstF_le (clE N O k) i) with h2 | h2
   ·exact h2
   ·have := fstF_isF (f := atC (clsT N O k)) i
    rw [show keyE (atC (clsT N O k)) = clE N O k from rfl, h2, e] at this; cases this
  have : cntF (clE N O k) (fstF (clE N O k) i) < cntF (clE N O k) i := cntF_lt h1 (fstF_isF (f := atC (clsT N O k)) i)
  show ((cntF (clE N O k) (fstF (clE N O k) i) : Nat) : Int) < _
  omega
end
end Go.AM
end

section
namespace Go.AM
open Go
def dlN (N : List (List Int)) : Int → Nat → Int := fun s c => nxG N s c
def finN (N : List (List Int)) (k : Nat) (s : Int) : List Int × Stp := bfs (dlN N) s k N.length
def reachL (N : List (List Int)) (k : Nat) (s : Int) : List Int := fromTo N.length fun t => decide (t ∈ (finN N k s).1)
section
variable {N O : List (List Int)} {k : Nat} {s : Int}
theorem state_in (hN : VM N O k) (hs : 0 ≤ s ∧ s < N.length) {i c : Nat} {q : List Int × Stp} (h : BInv (dlN N) s k i c q) : ∀ m, m < q.1.length → 0 ≤ q.1.getD m s ∧ q.1.getD m s < N.length := by
 intro m
 induction m using Nat.strongRecOn with
 | _ m ih =>
  intro hm
  rcases Nat.eq_zero_or_pos m with rfl | h0
  ·rw [h.zero]; exact hs
  ·obtain ⟨j, y, _, h2, h3, _, h5⟩ := h.ent m h0 hm
   rw [h5]
   have h6 := ih j h2 (by omega)
   exact hN.nx h6.1 h6.2 h3
theorem state_len (hN : VM N O k) (hs : 0 ≤ s ∧ s < N.length) {i c : Nat} {q : List Int × Stp} (h : BInv (dlN N) s k i c q) : q.1.length ≤ N.length := by
 have hin := state_in hN hs h
 refine pigeon _ _ (fun m => (q.1.getD m s).toNat) (fun m hm => ?_) (fun m m' hm hm' he => ?_)
 ·have := hin m hm; omega
 ·have h1 := hin m hm
  have h2 := hin m' hm'
  exact h.nodup m m' hm hm' (by have he2 : (q.1.getD m s).toNat = (q.1.getD m' s).toNat := he; omega)
theorem finN_inv (hN : VM N O k) (hs : 0 ≤ s ∧ s < N.length) : BInv (dlN N) s k (finN N k s).1.length 0 (finN N k s) := by
 have hb : BInv (dlN N) s k N.length 0 (finN N k s) := bfs_inv _
 exact hb.done (state_len hN hs hb)
theorem mem_of_getD {l : List Int} {d t : Int} (h : t ∈ l) : ∃ m, m < l.length ∧ l.getD m d = t := by
 obtain ⟨m, hm, rfl⟩ := List.getElem_of_mem h
 exact ⟨m, hm, by simp [List.getD, hm]⟩
theorem finN_s (hN : VM N O k) (hs : 0 ≤ s ∧ s < N.length) : s ∈ (finN N k s).1 := by
 have h := finN_inv hN hs
 have h1 := getD_mem (l := (finN N k s).1) (i := 0) h.pos
 have h2 := h.zero
 have : (finN N k s).1.getD 0 0 = (finN N k s).1.getD 0 s := by
  have := h.pos
  simp [List.getD, this]
 rw [this, h2] at h1; exact h1
theorem finN_closed (hN : VM N O k) (hs : 0 ≤ s ∧ s < N.length) {t : Int} (ht : t ∈ (finN N k s).1) {x : Nat} (hx : x < k) : nxG N t x ∈ (finN N k s).1 := by
 have h := finN_inv hN hs
 obtain ⟨m, hm, rfl⟩ := mem_of_getD (d := s) ht
 obtain ⟨j, h1, h2, _⟩ := h.closed m x hm hx (.inl hm)
 have h3 : dlN N ((finN N k s).1.getD m s) x = nxG N ((finN N k s).1.getD m s) x := rfl
 rw [← h3, ← h2]
 rw [show (finN N k s).1.getD j s = (finN N k s).1[j] by simp [List.getD, h1]]
 exact List.getElem_mem h1
theorem finN_least (hN : VM N O k) (hs : 0 ≤ s ∧ s < N.length) (P : Int → Prop) (h0 : P s) (hc : ∀ (t : Int) (x : Nat), (0 ≤ t ∧ t < N.length) → x < k → P t → P (nxG N t x)) : ∀ t ∈ (finN N k s).1, P t := by
 have h := finN_inv hN hs
 have hin := state_in hN hs h
 have hall : ∀ m, m < (finN N k s).1.length → P ((finN N k s).1.getD m s) := by
  intro m
  induction m using Nat.strongRecOn with
  | _ m ih =>
   intro hm
   rcases Nat.eq_zero_or_pos m with rfl | h0'
   ·rw [h.zero]; exact h0
   ·obtain ⟨j, y, _, h2, h3, _, h5⟩ := h.ent m h0' hm
    rw [h5]
    exact hc _ y (hin j (by omega)) h3 (ih j h2 (by omega))
 intro t ht
 obtain ⟨m, hm, rfl⟩ := mem_of_getD (d := s) ht
 exact hall m hm
theorem sortL_fin (hN : VM N O k) (hs : 0 ≤ s ∧ s < N.length) : sortL (finN N k s).1 = reachL N k s := by
 have h := finN_inv hN hs
 have hin := state_in hN hs h
 have hnd : (finN N k s).1.Nodup := by
  refine List.pairwise_iff_getElem.2 fun i j hi hj hij he => ?_
  have h1 := h.nodup i j hi hj (by simp [List.getD, hi, hj, he])
  omega
 refine lt_list_ext ?_ (fromTo_lt _ _) fun x => ?_
 ·have h1 := sortL_le (finN N k s).1
  have h2 : (sortL (finN N k s).1).Nodup := (List.mergeSort_perm _ _).nodup_iff.2 hnd
  have h3 := h1.and h2
  refine h3.imp fun {a b} hab => ?_
  have := hab.1; have := hab.2; omega
 ·rw [mem_sortL, reachL, mem_fromTo, decide_eq_true_eq]
  refine ⟨fun hx => ⟨?_, hx⟩, fun hx => hx.2⟩
  obtain ⟨m, hm, rfl⟩ := mem_of_getD (d := s) hx
  exact hin m hm
def rowM2 (N : List (List Int)) (t : Nat) (q : List Bool × Bool) : Nat → List Bool × Bool
 | 0 => q
 | x + 1 => if (rowM2 N t q x).1.getD (nxG N t x).toNat false = true then rowM2 N t q x else ((rowM2 N t q x).1.set (nxG N t x).toNat true, true)
def pasM (N : List (List Int)) (k : Nat) (B : List Bool) : Nat → List Bool × Bool
 | 0 => (B, false)
 | t + 1 => if (pasM N k B t).1.getD t false = true then rowM2 N t (pasM N k B t) k else pasM N k B t
theorem rowM2_len (t : Nat) (q : List Bool × Bool) : ∀ x, (rowM2 N t q x).1.length = q.1.length
 | 0 => rfl
 | x + 1 => by
  rw [rowM2]; split
  ·exact rowM2_len t q x
  ·simp only [List.length_set]; exact rowM2_len t q x
theorem pasM_len (B : List Bool) : ∀ t, (pasM N k B t).1.length = B.length
 | 0 => rfl
 | t + 1 => by
  rw [pasM]; split
  ·rw [rowM2_len]; exact pasM_len B t
  ·exact pasM_len B t
theorem getD_setB {l : List Bool} {a i : Nat} {v : Bool} : (l.set a v).getD i false = if a = i ∧ i < l.length then v else l.getD i false := by
 simp only [List.getD, List.getElem?_set]
 by_cases h : a = i
 ·subst h
  by_cases h2 : a < l.length
  ·simp [h2]
  ·simp [h2]
 ·simp [h]
theorem rowM2_up (t : Nat) (q : List Bool × Bool) : ∀ x i, q.1.getD i false = true → (rowM2 N t q x).1.getD i false = true
 | 0, _, h => h
 | x + 1, i, h => by
  have ih := rowM2_up t q x i h
  rw [rowM2]; split
  ·exact ih
  ·simp only [getD_setB, ih]; simp
theorem pasM_up (B : List Bool) {i : Nat} (h : B.getD i false = true) : ∀ t, (pasM N k B t).1.getD i false = true
 | 0 => h
 | t + 1 => by
  rw [pasM]; split
  ·exact rowM2_up t _ k i (pasM_up B h t)
  ·exact pasM_up B h t
theorem rowM2_ok (hN : VM N O k) (hs : 0 ≤ s ∧ s < N.length) {t : Nat} (ht : (t : Int) ∈ (finN N k s).1) (q : List Bool × Bool) (hq : ∀ i, q.1.getD i false = true → (i : Int) ∈ (finN N k s).1) :
  ∀ x, x ≤ k → ∀ i, (rowM2 N t q x).1.getD i false = true → (i : Int) ∈ (finN N k s).1
 | 0, _, i, h => hq i h
 | x + 1, hx, i, h => by
  have ih := rowM2_ok hN hs ht q hq x (by omega)
  rw [rowM2] at h
  split at h
  ·exact ih i h
  ·simp only [getD_setB] at h
   split at h
   ·rename_i hc
    have h1 := finN_closed hN hs ht (show x < k by omega)
    have h2 := finN_least hN hs (fun (t : Int) => 0 ≤ t) hs.1 (fun t x h3 h4 _ => (hN.nx h3.1 h3.2 h4).1) _ h1
    rw [show (i : Int) = nxG N t x by omega]; exact h1
   ·exact ih i h
theorem pasM_ok (hN : VM N O k) (hs : 0 ≤ s ∧ s < N.length) (B : List Bool) (hB : ∀ i, B.getD i false = true → (i : Int) ∈ (finN N k s).1) : ∀ t i, (pasM N k B t).1.getD i false = true → (i : Int) ∈ (finN N k s).1
 | 0, i, h => hB i h
 | t + 1, i, h => by
  have ih := pasM_ok hN hs B hB t
  rw [pasM] at h
  split at h
  ·rename_i ht
   exact rowM2_ok hN hs (ih t ht) _ ih k (Nat.le_refl _) i h
  ·exact ih i h
theorem rowM2_no (t : Nat) (q : List Bool × Bool) : ∀ x, (rowM2 N t q x).2 = false → rowM2 N t q x = q ∧ ∀ y, y < x → q.1.getD (nxG N t y).toNat false = true
 | 0, _ => ⟨rfl, fun y hy => absurd hy (Nat.not_lt_zero _)⟩
 | x + 1, h => by
  rw [rowM2] at h ⊢
  split at h
  ·rename_i hc
   obtain ⟨h1, h2⟩ := rowM2_no t q x h
   rw [if_pos hc]
   refine ⟨h1, fun y hy => ?_⟩
   rcases Nat.lt_succ_iff_lt_or_eq.1 hy with hy | rfl
   ·exact h2 y hy
   ·rw [← h1]; exact hc
  ·cases h
theorem pasM_no (B : List Bool) : ∀ t, (pasM N k B t).2 = false → (pasM N k B t).1 = B ∧ ∀ j, j < t → B.getD j false = true → ∀ y, y < k → B.getD (nxG N j y).toNat false = true
 | 0, _ => ⟨rfl, fun j hj => absurd hj (Nat.not_lt_zero _)⟩
 | t + 1, h => by
  rw [pasM] at h ⊢
  split at h
  ·rename_i hc
   obtain ⟨h1, h2⟩ := rowM2_no t _ k h
   rw [h1] at h
   obtain ⟨h3, h4⟩ := pasM_no B t h
   rw [if_pos hc, h1]
   refine ⟨h3, fun j hj hb y hy => ?_⟩
   rcases Nat.lt_succ_iff_lt_or_eq.1 hj with hj | rfl
   ·exact h4 j hj hb y hy
   ·have := h2 y hy
    rwa [h3] at this
  ·rename_i hc
   obtain ⟨h3, h4⟩ := pasM_no B t h
   rw [if_neg hc]
   refine ⟨h3, fun j hj hb y hy => ?_⟩
   rcases Nat.lt_succ_iff_lt_or_eq.1 hj with hj | rfl
   ·exact h4 j hj hb y hy
   ·rw [h3] at hc; exact absurd hb hc
def marks (B : List Bool) : Nat := B.count true
theorem count_set : ∀ {B : List Bool} {i : Nat}, i < B.length → B.getD i false ≠ true → marks (B.set i true) = marks B + 1
 | b :: B, 0, _, h => by
  have : b = false := by simpa using h
  subst this; simp [marks]
 | b :: B, i + 1, hl, h => by
  have ih := count_set (B := B) (i := i) (by simpa using hl) (by simpa using h)
  simp only [marks, List.set_cons_succ, List.count_cons] at ih ⊢
  omega
theorem rowM2_cnt (hN : VM N O k) {t : Nat} (ht : t < N.length) (q : List Bool × Bool) (hq : q.1.length = N.length) : ∀ x, x ≤ k → marks q.1 ≤ marks (rowM2 N t q x).1 ∧ ((rowM2 N t q x).2 = true → q.2 = true ∨ marks q.1 < marks (rowM2 N t q x).1)
 | 0, _ => ⟨Nat.le_refl _, fun h => .inl h⟩
 | x + 1, hx => by
  have ih := rowM2_cnt hN ht q hq x (by omega)
  rw [rowM2]; split
  ·exact ih
  ·rename_i hc
   have h1 := hN.nx (s := (t : Int)) (c := x) (by omega) (by omega) (by omega)
   have h2 := count_set (B := (rowM2 N t q x).1) (i := (nxG N t x).toNat) (by rw [rowM2_len]; omega) hc
   simp only
   rw [h2]
   exact ⟨by omega, fun _ => .inr (by omega)⟩
theorem pasM_cnt (hN : VM N O k) (B : List Bool) (hB : B.length = N.length) : ∀ t, t ≤ N.length → marks B ≤ marks (pasM N k B t).1 ∧ ((pasM N k B t).2 = true → marks B < marks (pasM N k B t).1)
 | 0, _ => ⟨Nat.le_refl _, fun h => by cases h⟩
 | t + 1, ht => by
  have ih := pasM_cnt hN B hB t (by omega)
  rw [pasM]; split
  ·have h1 := rowM2_cnt hN (t := t) (by omega) (pasM N k B t) (by rw [pasM_len]; exact hB) k (Nat.le_refl _)
   refine ⟨by omega, fun h => ?_⟩
   rcases h1.2 h with h2 | h2
   ·have := ih.2 h2; omega
   ·omega
  ·exact ih
theorem marks_le (B : List Bool) : marks B ≤ B.length := List.count_le_length
theorem marks_done (hN : VM N O k) (hs : 0 ≤ s ∧ s < N.length) {B : List Bool} (h0 : B.getD s.toNat false = true) (hB : ∀ i, B.getD i false = true → (i : Int) ∈ (finN N k s).1) (hc : ∀ j, j < N.length → B.getD j false = true → ∀ y, y < k → B.getD (nxG N j y).toNat false = true) {t : Nat} :
  B.getD t false = decide ((t : Int) ∈ (finN N k s).1) := by
 rw [Bool.eq_iff_iff, decide_eq_true_eq]
 refine ⟨hB t, fun h => ?_⟩
 have := finN_least hN hs (fun (t : Int) => B.getD t.toNat false = true) h0 (fun t x h1 h2 h3 => by
  have := hc t.toNat (by omega) h3 x h2
  rwa [show ((t.toNat : Nat) : Int) = t by omega] at this) _ h
 simpa using this
end
end Go.AM
end
