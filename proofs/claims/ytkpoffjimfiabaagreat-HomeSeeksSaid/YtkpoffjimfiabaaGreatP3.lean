/-
  Plain facts on the order of words and on blocks of states behind a word; no program in sight.
-/
import Derived.Test.YtkpoffjimfiabaaGreatP2
import Derived.Test.YtkpoffjimfiabaaGreatP1
set_option linter.unusedVariables false
set_option linter.unusedSimpArgs false
set_option linter.unusedSectionVars false
set_option linter.unnecessarySimpa false

section
namespace Go.AM
open Go
theorem befB_irrefl : ∀ x : List Int, befB x x = false
 | [] => rfl
 | a :: x => by simp [befB, befB_irrefl x]
theorem befB_trans : ∀ {x y z : List Int}, befB x y = true → befB y z = true → befB x z = true
 | [], [], _, h, _ => by simp [befB] at h
 | [], _ :: _, [], _, h => by simp [befB] at h
 | [], _ :: _, _ :: _, _, _ => rfl
 | _ :: _, [], _, h, _ => by simp [befB] at h
 | _ :: _, _ :: _, [], _, h => by simp [befB] at h
 | a :: x, b :: y, c :: z, h, h' => by
  simp only [befB] at h h' ⊢
  by_cases e1 : a = b
  ·subst e1
   by_cases e2 : a = c
   ·subst e2; simp only [if_true] at *; exact befB_trans h h'
   ·simp only [if_true, if_neg e2] at *; exact h'
  ·by_cases e2 : b = c
   ·subst e2; simp only [if_true, if_neg e1] at *; exact h
   ·simp only [if_neg e1, if_neg e2, decide_eq_true_eq] at h h'
    have : a ≠ c := by omega
    simp only [if_neg this, decide_eq_true_eq]; omega
theorem befB_tri : ∀ x y : List Int, befB x y = true ∨ x = y ∨ befB y x = true
 | [], [] => .inr (.inl rfl)
 | [], _ :: _ => .inl rfl
 | _ :: _, [] => .inr (.inr rfl)
 | a :: x, b :: y => by
  simp only [befB]
  by_cases e : a = b
  ·subst e
   simp only [if_true]
   rcases befB_tri x y with h | h | h
   ·exact .inl h
   ·exact .inr (.inl (by rw [h]))
   ·exact .inr (.inr h)
  ·simp only [if_neg e, if_neg (Ne.symm e), decide_eq_true_eq]
   omega
theorem befB_asymm {x y : List Int} (h : befB x y = true) : befB y x = false := by
 cases e : befB y x with
 | false => rfl
 | true => have := befB_trans h e; rw [befB_irrefl] at this; cases this
def cmpL (x y : List Int) : Int := if befB x y = true then -1 else if x = y then 0 else 1
theorem cmpL_lt {x y : List Int} : cmpL x y < 0 ↔ befB x y = true := by
 unfold cmpL
 split
 ·simp [*]
 ·split <;> simp [*, befB_irrefl]
theorem cmpL_eq {x y : List Int} {i : Nat} (h : ∀ j, j < i → x.getD j 0 = y.getD j 0) (h1 : i < x.length) (h2 : i < y.length) (hne : ¬ x.getD i 0 = y.getD i 0) : cmpL x y = if x.getD i 0 < y.getD i 0 then -1 else 1 := by
 unfold cmpL
 have hxy : x ≠ y := fun e => hne (by rw [e])
 rw [befB_ne h h1 h2 hne, if_neg hxy]
 simp
theorem cmpL_end {x y : List Int} {i : Nat} (h : ∀ j, j < i → x.getD j 0 = y.getD j 0) (h1 : i ≤ x.length) (h2 : i ≤ y.length) (he : x.length ≤ i ∨ y.length ≤ i) : cmpL x y = if x.length < y.length then -1 else if x.length = y.length then 0 else 1 := by
 unfold cmpL
 rw [befB_end h h1 h2 he]
 by_cases hl : x.length < y.length
 ·simp [hl]
 ·by_cases hl2 : x.length = y.length
  ·have : x = y := by
    refine List.ext_getElem hl2 fun j a b => ?_
    have := h j (by omega)
    simpa [List.getD, a, b] using this
   simp [hl, hl2, this]
  ·have : x ≠ y := fun e => hl2 (by rw [e])
   simp [hl, hl2, this]
abbrev SS (l : List (List Int)) : Prop := l.Pairwise (fun x y => befB x y = true)
theorem SS.ext : ∀ {l m : List (List Int)}, SS l → SS m → (∀ x, x ∈ l ↔ x ∈ m) → l = m
 | [], [], _, _, _ => rfl
 | [], y :: m, _, _, h => absurd ((h y).2 (by simp)) (by simp)
 | x :: l, [], _, _, h => absurd ((h x).1 (by simp)) (by simp)
 | x :: l, y :: m, hl, hm, h => by
  obtain ⟨h1, h2⟩ := List.pairwise_cons.1 hl
  obtain ⟨h3, h4⟩ := List.pairwise_cons.1 hm
  have e : x = y := by
   have a := (h x).1 (by simp)
   have b := (h y).2 (by simp)
   rcases List.mem_cons.1 a with a | a
   ·exact a
   ·rcases List.mem_cons.1 b with b | b
    ·exact b.symm
    ·have := befB_trans (h3 x a) (h1 y b)
     rw [befB_irrefl] at this; cases this
  subst e
  rw [SS.ext h2 h4 fun z => ?_]
  constructor
  ·intro hz
   rcases List.mem_cons.1 ((h z).1 (by simp [hz])) with e | e
   ·have := h1 z hz; rw [e, befB_irrefl] at this; cases this
   ·exact e
  ·intro hz
   rcases List.mem_cons.1 ((h z).2 (by simp [hz])) with e | e
   ·have := h3 z hz; rw [e, befB_irrefl] at this; cases this
   ·exact e
def insW (x : List Int) : List (List Int) → List (List Int)
 | [] => [x]
 | y :: r => if befB x y = true then x :: y :: r else if x = y then y :: r else y :: insW x r
theorem mem_insW {x z : List Int} : ∀ {l : List (List Int)}, z ∈ insW x l ↔ z = x ∨ z ∈ l
 | [] => by simp [insW]
 | y :: r => by
  unfold insW
  split
  ·simp
  ·split
   ·rename_i h; subst h; simp
   ·simp only [List.mem_cons, mem_insW (l := r)]
    constructor
    ·rintro (h | h | h) <;> simp [h]
    ·rintro (h | h | h) <;> simp [h]
theorem insW_ss {x : List Int} : ∀ {l : List (List Int)}, SS l → SS (insW x l)
 | [], _ => by simp [insW]
 | y :: r, h => by
  unfold insW
  obtain ⟨h1, h2⟩ := List.pairwise_cons.1 h
  split
  ·rename_i hxy
   refine List.pairwise_cons.2 ⟨fun z hz => ?_, h⟩
   rcases List.mem_cons.1 hz with e | e
   ·rw [e]; exact hxy
   ·exact befB_trans hxy (h1 z e)
  ·split
   ·exact h
   ·rename_i ha hb
    refine List.pairwise_cons.2 ⟨fun z hz => ?_, insW_ss h2⟩
    rcases mem_insW.1 hz with e | e
    ·rw [e]
     rcases befB_tri x y with g | g | g
     ·exact absurd g ha
     ·exact absurd g hb
     ·exact g
    ·exact h1 z e
def onceL : List (List Int) → List (List Int)
 | [] => []
 | x :: r => insW x (onceL r)
theorem mem_onceL {z : List Int} : ∀ {l : List (List Int)}, z ∈ onceL l ↔ z ∈ l
 | [] => Iff.rfl
 | x :: r => by rw [onceL, mem_insW, mem_onceL, List.mem_cons]
theorem onceL_ss : ∀ (l : List (List Int)), SS (onceL l)
 | [] => List.Pairwise.nil
 | x :: r => insW_ss (onceL_ss r)
theorem onceL_eq {l m : List (List Int)} (h : SS m) (hm : ∀ x, x ∈ m ↔ x ∈ l) : m = onceL l := h.ext (onceL_ss l) fun x => (hm x).trans mem_onceL.symm
theorem onceL_congr {l m : List (List Int)} (h : ∀ x, x ∈ l ↔ x ∈ m) : onceL l = onceL m := onceL_eq (onceL_ss l) fun x => mem_onceL.trans (h x)
theorem onceL_self {l : List (List Int)} (h : SS l) : onceL l = l := (onceL_eq h fun _ => Iff.rfl).symm
theorem onceL_length_le : ∀ (l : List (List Int)), (onceL l).length ≤ l.length
 | [] => Nat.le_refl _
 | x :: r => by
  have h : ∀ (y : List Int) (m : List (List Int)), (insW y m).length ≤ m.length + 1 := fun y m => by
   induction m with
   | nil => simp [insW]
   | cons a b ih =>
    unfold insW
    split
    ·simp
    ·split
     ·simp
     ·simp; omega
  have := h x (onceL r)
  have := onceL_length_le r
  simp only [onceL, List.length_cons]; omega
def keptR (l : List (List Int)) (j : Nat) : Bool := decide (j = 0 ∨ l.getD j [] ≠ l.getD (j - 1) [])
def compR (l : List (List Int)) : List (List Int) := ((List.range l.length).filter (keptR l)).map (l.getD · [])
theorem compR_once {l : List (List Int)} (h : l.Pairwise (fun x y => befB y x = false)) : compR l = onceL l := by
 have mono : ∀ a b, a < b → b < l.length → befB (l.getD b []) (l.getD a []) = false := fun a b hab hb => by
  have := List.pairwise_iff_getElem.1 h a b (by omega) hb hab
  simpa [List.getD, hb, show a < l.length by omega] using this
 refine onceL_eq ?_ fun x => ?_
 ·show (compR l).Pairwise _
  unfold compR
  rw [List.pairwise_map, List.pairwise_filter]
  refine List.Pairwise.imp_of_mem ?_ List.pairwise_lt_range
  intro i j hi hj hij ki kj
  have hj' : j < l.length := by simpa using hj
  simp only [keptR, decide_eq_true_eq] at kj
  rcases kj with rfl | kj
  ·omega
  have h1 := mono (j - 1) j (by omega) hj'
  have h2 : befB (l.getD (j - 1) []) (l.getD j []) = true := by
   rcases befB_tri (l.getD (j - 1) []) (l.getD j []) with g | g | g
   ·exact g
   ·exact absurd g.symm kj
   ·rw [h1] at g; cases g
  by_cases e : i = j - 1
  ·rw [e]; exact h2
  ·have h3 := mono i (j - 1) (by omega) (by omega)
   rcases befB_tri (l.getD i []) (l.getD (j - 1) []) with g | g | g
   ·exact befB_trans g h2
   ·rw [g]; exact h2
   ·rw [h3] at g; cases g
 ·unfold compR
  simp only [List.mem_map, List.mem_filter, List.mem_range, keptR, decide_eq_true_eq]
  constructor
  ·rintro ⟨j, ⟨h1, _⟩, rfl⟩
   simp [List.getD, h1]
  ·intro hx
   obtain ⟨j, hj, hx⟩ := List.getElem_of_mem hx
   have hx : l.getD j [] = x := by simpa [List.getD, hj] using hx
   have key : ∀ j, j < l.length → ∃ i, i < l.length ∧ (i = 0 ∨ l.getD i [] ≠ l.getD (i - 1) []) ∧ l.getD i [] = l.getD j [] := by
    intro j
    induction j with
    | zero => exact fun h => ⟨0, h, .inl rfl, rfl⟩
    | succ j ih =>
     intro hj
     by_cases e : l.getD (j + 1) [] = l.getD j []
     ·obtain ⟨i, a, b, c⟩ := ih (by omega)
      exact ⟨i, a, b, c.trans e.symm⟩
     ·exact ⟨j + 1, hj, .inr (by simpa using e), rfl⟩
   obtain ⟨i, a, b, c⟩ := key j hj
   exact ⟨i, ⟨a, b⟩, c.trans hx⟩
end Go.AM
namespace Go.AM
open Go
def kpR (l : List (List Int)) (m : Nat) : List (List Int) := ((List.range m).filter (keptR l)).map (l.getD · [])
theorem kpR_all (l : List (List Int)) : kpR l l.length = compR l := rfl
theorem kpR_succ (l : List (List Int)) (m : Nat) : kpR l (m + 1) = kpR l m ++ (if keptR l m = true then [l.getD m []] else []) := by
 unfold kpR
 rw [List.range_succ, List.filter_append, List.map_append]
 congr 1
 by_cases h : keptR l m = true <;> simp [h]
theorem kpR_len (l : List (List Int)) : ∀ m, (kpR l m).length ≤ m
 | 0 => by simp [kpR]
 | m + 1 => by
  rw [kpR_succ, List.length_append]
  have := kpR_len l m
  split <;> simp <;> omega
theorem kpR_take {l : List (List Int)} {m : Nat} (hm : m ≤ l.length) (h : ∀ j, j < m → keptR l j = true) : kpR l m = l.take m := by
 unfold kpR
 rw [List.filter_eq_self.2 (fun j hj => h j (List.mem_range.1 hj))]
 refine List.ext_getElem (by simp; omega) fun i h1 h2 => ?_
 have : i < l.length := by simp at h2; omega
 simp [List.getD, this]
theorem keptR_zero (l : List (List Int)) : keptR l 0 = true := by simp [keptR]
def cpR (l : List (List Int)) (m : Nat) : List (List Int) := kpR l m ++ l.drop (kpR l m).length
theorem cpR_len {l : List (List Int)} {m : Nat} (hm : m ≤ l.length) : (cpR l m).length = l.length := by
 have := kpR_len l m
 simp only [cpR, List.length_append, List.length_drop]; omega
theorem cpR_high {l : List (List Int)} {m j : Nat} (h : (kpR l m).length ≤ j) : (cpR l m).getD j [] = l.getD j [] := by
 unfold cpR
 rw [List.getD_eq_getElem?_getD, List.getElem?_append_right h, List.getElem?_drop, List.getD_eq_getElem?_getD]
 congr 2; omega
theorem cpR_keep {l : List (List Int)} {m : Nat} (hm : m < l.length) (hk : keptR l m = true) : (cpR l m).set (kpR l m).length (l.getD m []) = cpR l (m + 1) := by
 have h1 := kpR_len l m
 have e : kpR l (m + 1) = kpR l m ++ [l.getD m []] := by rw [kpR_succ, if_pos hk]
 unfold cpR
 rw [e, List.set_append_right _ _ (Nat.le_refl _), Nat.sub_self, List.length_append, List.length_singleton, List.append_assoc]
 congr 1
 rw [List.drop_eq_getElem_cons (show (kpR l m).length < l.length by omega)]
 rfl
theorem cpR_skip {l : List (List Int)} {m : Nat} (hk : keptR l m = false) : cpR l (m + 1) = cpR l m := by
 have e : kpR l (m + 1) = kpR l m := by rw [kpR_succ, if_neg (by simp [hk])]; simp
 unfold cpR
 rw [e]
theorem kpR_skip {l : List (List Int)} {m : Nat} (hk : keptR l m = false) : kpR l (m + 1) = kpR l m := by rw [kpR_succ, if_neg (by simp [hk])]; simp
theorem kpR_keep {l : List (List Int)} {m : Nat} (hk : keptR l m = true) : (kpR l (m + 1)).length = (kpR l m).length + 1 := by rw [kpR_succ, if_pos hk]; simp
theorem compR_short {l : List (List Int)} (h : l.length < 2) : compR l = l := by
 rw [← kpR_all, kpR_take (Nat.le_refl _) fun j hj => ?_, List.take_length]
 have : j = 0 := by omega
 subst this
 exact keptR_zero l
end Go.AM
end

section
namespace Go.AM
open Go
def mvR (N O : List (List Int)) (x : Int) (q : List (List Int) × Bool) (s : Int) : List (List Int) × Bool :=
 if nxG N s x ∈ q.1.getD (outG O s x).toNat [] then (q.1, false) else (q.1.set (outG O s x).toNat (q.1.getD (outG O s x).toNat [] ++ [nxG N s x]), q.2)
def mvP (N O : List (List Int)) (x : Int) (b : List Int) : List (List Int) × Bool := b.foldl (mvR N O x) (List.replicate 16 [], true)
def outB (R : List (List Int)) : List (List Int) := (R.filter fun l => decide (0 < l.length)).map sortL
def movB (N O : List (List Int)) (b : List Int) (x : Int) : List (List Int) := outB (mvP N O x b).1
def movW (N O : List (List Int)) (b : List Int) (x : Int) : Bool := (mvP N O x b).2
def bigB (l : List (List Int)) : List (List Int) := l.filter fun b => decide (1 < b.length)
def stpB (N O : List (List Int)) (l : List (List Int)) (x : Int) : List (List Int) := onceL (l.flatMap fun b => bigB (movB N O b x))
def stpW (N O : List (List Int)) (l : List (List Int)) (x : Int) : Bool := l.all fun b => movW N O b x
def allS (n : Nat) : List Int := (List.range n).map fun i : Nat => (i : Int)
def fstB (n : Nat) : List (List Int) := if n < 2 then [] else [allS n]
def aftP (N O : List (List Int)) (q : List (List Int) × Bool) (x : Int) : List (List Int) × Bool := (stpB N O q.1 x, q.2 && stpW N O q.1 x)
def aftB (N O : List (List Int)) (w : List Int) : List (List Int) × Bool := w.foldl (aftP N O) (fstB N.length, true)
variable {N O : List (List Int)} {k : Nat}
theorem mvP_snoc (x : Int) (b : List Int) (s : Int) : mvP N O x (b ++ [s]) = mvR N O x (mvP N O x b) s := by simp [mvP]
theorem aftB_snoc (w : List Int) (x : Int) : aftB N O (w ++ [x]) = aftP N O (aftB N O w) x := by simp [aftB]
theorem snocRec {α : Type} {P : List α → Prop} (h0 : P []) (h1 : ∀ l x, P l → P (l ++ [x])) (l : List α) : P l := by
 rw [← List.reverse_reverse l]
 induction l.reverse with
 | nil => exact h0
 | cons x r ih => rw [List.reverse_cons]; exact h1 _ _ ih
theorem mvR_len {x : Int} {q : List (List Int) × Bool} {s : Int} : (mvR N O x q s).1.length = q.1.length := by
 unfold mvR; split <;> simp
theorem mvP_len (x : Int) (b : List Int) : (mvP N O x b).1.length = 16 := by
 induction b using snocRec with
 | h0 => simp [mvP]
 | h1 l s ih => rw [mvP_snoc, mvR_len, ih]
theorem getD_setR {R : List (List Int)} {a i : Nat} {v : List Int} : (R.set a v).getD i [] = if a = i ∧ i < R.length then v else R.getD i [] := by
 by_cases e : a = i
 ·subst e
  by_cases h : a < R.length
  ·simp [h, List.getD]
  ·simp [h, List.getD]
 ·simp [e, List.getD]
def OutOk (O : List (List Int)) (x : Int) (b : List Int) : Prop := ∀ s ∈ b, 0 ≤ outG O s x ∧ outG O s x < 16
theorem mvP_mem {x : Int} {b : List Int} (hb : OutOk O x b) {o : Nat} {t : Int} : t ∈ (mvP N O x b).1.getD o [] ↔ ∃ s ∈ b, (outG O s x).toNat = o ∧ nxG N s x = t := by
 induction b using snocRec generalizing o t with
 | h0 =>
  simp only [mvP, List.foldl_nil, List.not_mem_nil, false_and, exists_false, iff_false]
  rw [List.getD_eq_getElem?_getD, List.getElem?_replicate]
  split <;> simp
 | h1 l s ih =>
  have hbl : OutOk O x l := fun s' h => hb s' (by simp [h])
  have ih := fun (o : Nat) (t : Int) => ih hbl (o := o) (t := t)
  have hs := hb s (by simp)
  have hlen := mvP_len (N := N) (O := O) x l
  rw [mvP_snoc]
  constructor
  ·intro h
   unfold mvR at h
   split at h
   ·obtain ⟨s', h1, h2⟩ := (ih o t).1 h
    exact ⟨s', by simp [h1], h2⟩
   ·simp only at h
    rw [getD_setR] at h
    split at h
    ·rename_i e
     rcases List.mem_append.1 h with h | h
     ·rw [e.1] at h
      obtain ⟨s', h1, h2, h3⟩ := (ih o t).1 h
      exact ⟨s', by simp [h1], h2, h3⟩
     ·exact ⟨s, by simp, e.1, (List.mem_singleton.1 h).symm⟩
    ·obtain ⟨s', h1, h2⟩ := (ih o t).1 h
     exact ⟨s', by simp [h1], h2⟩
  ·rintro ⟨s', h1, h2, h3⟩
   unfold mvR
   rcases List.mem_append.1 h1 with h1 | h1
   ·have h4 : t ∈ (mvP N O x l).1.getD o [] := (ih o t).2 ⟨s', h1, h2, h3⟩
    split
    ·exact h4
    ·simp only
     rw [getD_setR]
     split
     ·rename_i e
      rw [e.1]
      exact List.mem_append_left _ h4
     ·exact h4
   ·obtain rfl := List.mem_singleton.1 h1
    split
    ·rename_i hin
     rw [h2, h3] at hin
     exact hin
    ·simp only
     rw [getD_setR, if_pos ⟨h2, by omega⟩, h3]
     simp
theorem mvP_nd {x : Int} {b : List Int} (hb : OutOk O x b) (o : Nat) : ((mvP N O x b).1.getD o []).Nodup := by
 induction b using snocRec with
 | h0 =>
  simp only [mvP, List.foldl_nil]
  rw [List.getD_eq_getElem?_getD, List.getElem?_replicate]
  split <;> simp
 | h1 l s ih =>
  have ih := ih fun s' h => hb s' (by simp [h])
  rw [mvP_snoc]
  unfold mvR
  split
  ·exact ih
  ·rename_i hn
   simp only
   rw [getD_setR]
   split
   ·rename_i e
    rw [e.1] at hn ⊢
    rw [List.nodup_append]
    refine ⟨ih, by simp, fun a ha b hb e => ?_⟩
    obtain rfl := List.mem_singleton.1 hb
    subst e
    exact hn ha
   ·exact ih
theorem mvP_whole {x : Int} {b : List Int} (hb : OutOk O x b) : (mvP N O x b).2 = true ↔ b.Pairwise fun s s' => outG O s x = outG O s' x → nxG N s x ≠ nxG N s' x := by
 induction b using snocRec with
 | h0 => simp [mvP]
 | h1 l s ih =>
  have hl : OutOk O x l := fun s' h => hb s' (by simp [h])
  have ih := ih hl
  have hs := hb s (by simp)
  rw [mvP_snoc, List.pairwise_append]
  have hm := mvP_mem (N := N) hl (o := (outG O s x).toNat) (t := nxG N s x)
  unfold mvR
  split
  ·rename_i hin
   obtain ⟨s', h1, h2, h3⟩ := hm.1 hin
   have := hl s' h1
   constructor
   ·intro h; cases h
   ·rintro ⟨_, _, h⟩
    exact absurd h3 (h s' h1 s (by simp) (by omega))
  ·rename_i hn
   simp only
   rw [ih]
   constructor
   ·intro h
    refine ⟨h, by simp, fun a ha b hb2 e1 e2 => hn ?_⟩
    obtain rfl := List.mem_singleton.1 hb2
    exact hm.2 ⟨a, ha, by rw [e1], e2⟩
   ·exact fun h => h.1
theorem mem_outB {R : List (List Int)} {b : List Int} : b ∈ outB R ↔ ∃ o, o < R.length ∧ 0 < (R.getD o []).length ∧ b = sortL (R.getD o []) := by
 simp only [outB, List.mem_map, List.mem_filter, decide_eq_true_eq]
 constructor
 ·rintro ⟨l, ⟨h1, h2⟩, rfl⟩
  obtain ⟨o, ho, rfl⟩ := List.getElem_of_mem h1
  exact ⟨o, ho, by simp [List.getD, ho, h2], by simp [List.getD, ho]⟩
 ·rintro ⟨o, ho, h2, rfl⟩
  exact ⟨R.getD o [], ⟨by simp [List.getD, ho], h2⟩, rfl⟩
theorem sortL_nd {l : List Int} (h : l.Nodup) : (sortL l).Pairwise (· < ·) := by
 have h1 := sortL_le l
 have h2 : (sortL l).Nodup := (List.Perm.nodup_iff (List.mergeSort_perm l _)).2 h
 rw [List.nodup_iff_pairwise_ne] at h2
 refine (h1.and h2).imp fun {a b} h => ?_
 have := h.1; have := h.2
 omega
def inB (l : List (List Int)) (p q : Int) : Prop := ∃ b ∈ l, p ∈ b ∧ q ∈ b
structure BlkOk (n : Nat) (l : List (List Int)) : Prop where
 lt : ∀ b ∈ l, b.Pairwise (· < ·)
 two : ∀ b ∈ l, 2 ≤ b.length
 st : ∀ b ∈ l, ∀ s ∈ b, 0 ≤ s ∧ s < n
 ss : SS l
theorem lt_nd {b : List Int} (h : b.Pairwise (· < ·)) : b.Nodup := by
 rw [List.nodup_iff_pairwise_ne]
 exact h.imp fun {a b} h => by omega
theorem mem_stpB {l : List (List Int)} {x : Int} {c : List Int} : c ∈ stpB N O l x ↔ ∃ b ∈ l, c ∈ movB N O b x ∧ 1 < c.length := by
 simp [stpB, mem_onceL, bigB]
variable (hV : VM N O k)
include hV
theorem BlkOk.out {l : List (List Int)} (h : BlkOk N.length l) {x : Int} (hx : 0 ≤ x ∧ x < k) {b : List Int} (hb : b ∈ l) : OutOk O x b := fun s hs => by
 have := h.st b hb s hs
 exact (hV.out this.1 this.2 hx.1 hx.2).2
theorem nx_ok {s x : Int} (hs : 0 ≤ s ∧ s < N.length) (hx : 0 ≤ x ∧ x < k) : 0 ≤ nxG N s x ∧ nxG N s x < N.length := by
 have := hV.nx (s := s) (c := x.toNat) hs.1 hs.2 (by omega)
 rw [nxG, Int.toNat_natCast] at this
 exact this
theorem BlkOk.step {l : List (List Int)} (h : BlkOk N.length l) {x : Int} (hx : 0 ≤ x ∧ x < k) : BlkOk N.length (stpB N O l x) := by
 refine ⟨fun c hc => ?_, fun c hc => ?_, fun c hc s hs => ?_, onceL_ss _⟩
 ·obtain ⟨b, hb, h1, h2⟩ := mem_stpB.1 hc
  obtain ⟨o, _, _, rfl⟩ := mem_outB.1 h1
  exact sortL_nd (mvP_nd (h.out hV hx hb) o)
 ·obtain ⟨b, hb, h1, h2⟩ := mem_stpB.1 hc
  omega
 ·obtain ⟨b, hb, h1, h2⟩ := mem_stpB.1 hc
  obtain ⟨o, _, _, rfl⟩ := mem_outB.1 h1
  obtain ⟨s', h3, _, rfl⟩ := (mvP_mem (h.out hV hx hb)).1 (mem_sortL.1 hs)
  exact nx_ok hV (h.st b hb s' h3) hx
theorem stp_from {l : List (List Int)} (h : BlkOk N.length l) {x : Int} (hx : 0 ≤ x ∧ x < k) {p' q' : Int} (hi : inB (stpB N O l x) p' q') : ∃ p q, inB l p q ∧ outG O p x = outG O q x ∧ nxG N p x = p' ∧ nxG N q x = q' := by
 obtain ⟨c, hc, hp, hq⟩ := hi
 obtain ⟨b, hb, h1, h2⟩ := mem_stpB.1 hc
 obtain ⟨o, _, _, rfl⟩ := mem_outB.1 h1
 have ho := h.out hV hx hb
 obtain ⟨p, p1, p2, p3⟩ := (mvP_mem ho).1 (mem_sortL.1 hp)
 obtain ⟨q, q1, q2, q3⟩ := (mvP_mem ho).1 (mem_sortL.1 hq)
 have := ho p p1
 have := ho q q1
 exact ⟨p, q, ⟨b, hb, p1, q1⟩, by omega, p3, q3⟩
omit hV in
theorem two_mem {l : List Int} {p q : Int} (hp : p ∈ l) (hq : q ∈ l) (h : p ≠ q) : 1 < l.length := by
 match l, hp, hq with
 | [a], hp, hq =>
  have := List.mem_singleton.1 hp
  have := List.mem_singleton.1 hq
  omega
 | a :: b :: r, _, _ => simp
theorem stp_to {l : List (List Int)} (h : BlkOk N.length l) {x : Int} (hx : 0 ≤ x ∧ x < k) {p q : Int} (hi : inB l p q) (ho : outG O p x = outG O q x) (hn : nxG N p x ≠ nxG N q x) : inB (stpB N O l x) (nxG N p x) (nxG N q x) := by
 obtain ⟨b, hb, hp, hq⟩ := hi
 have hoo := h.out hV hx hb
 have hpo := hoo p hp
 have m1 : nxG N p x ∈ (mvP N O x b).1.getD (outG O p x).toNat [] := (mvP_mem hoo).2 ⟨p, hp, rfl, rfl⟩
 have m2 : nxG N q x ∈ (mvP N O x b).1.getD (outG O p x).toNat [] := (mvP_mem hoo).2 ⟨q, hq, by rw [ho], rfl⟩
 have m3 := two_mem m1 m2 hn
 refine ⟨sortL ((mvP N O x b).1.getD (outG O p x).toNat []), mem_stpB.2 ⟨b, hb, mem_outB.2 ⟨_, by rw [mvP_len]; omega, by omega, rfl⟩, by rw [sortL_len]; exact m3⟩, mem_sortL.2 m1, mem_sortL.2 m2⟩
theorem stpW_iff {l : List (List Int)} (h : BlkOk N.length l) {x : Int} (hx : 0 ≤ x ∧ x < k) : stpW N O l x = true ↔ ∀ p q, p ≠ q → inB l p q → outG O p x = outG O q x → nxG N p x ≠ nxG N q x := by
 rw [stpW, List.all_eq_true]
 constructor
 ·rintro hw p q hpq ⟨b, hb, hp, hq⟩ ho hn
  have h1 := (mvP_whole (h.out hV hx hb)).1 (hw b hb)
  have h2 : ∀ a ∈ b, ∀ c ∈ b, a ≠ c → outG O a x = outG O c x → nxG N a x ≠ nxG N c x := fun a ha c hc hne => by
   have := List.Pairwise.forall_of_forall_of_flip (R := fun a c => a ≠ c → outG O a x = outG O c x → nxG N a x ≠ nxG N c x) (l := b) (fun a _ h => absurd rfl h) (h1.imp fun {a c} h (_ : a ≠ c) => h) (h1.imp fun {a c} h (_ : c ≠ a) e1 e2 => h e1.symm e2.symm)
   exact this ha hc hne
  exact h2 p hp q hq hpq ho hn
 ·intro hw b hb
  refine (mvP_whole (h.out hV hx hb)).2 ?_
  have hlt := h.lt b hb
  refine hlt.imp_of_mem fun {a c} ha hc hac ho => hw a c (by omega) ⟨b, hb, ha, hc⟩ ho
def pairW (N O : List (List Int)) (w : List Int) (p q : Int) : Prop := ∃ s t : Int, (0 ≤ s ∧ s < N.length) ∧ (0 ≤ t ∧ t < N.length) ∧ outsG N O s w = outsG N O t w ∧ leadG N s w = p ∧ leadG N t w = q
def noMerge (N O : List (List Int)) (w : List Int) : Prop := ∀ s t : Int, (0 ≤ s ∧ s < N.length) → (0 ≤ t ∧ t < N.length) → s ≠ t → outsG N O s w = outsG N O t w → leadG N s w ≠ leadG N t w
omit hV in
theorem mem_allS {n : Nat} {s : Int} : s ∈ allS n ↔ 0 ≤ s ∧ s < n := by
 simp only [allS, List.mem_map, List.mem_range]
 constructor
 ·rintro ⟨i, h, rfl⟩; omega
 ·rintro ⟨h1, h2⟩; exact ⟨s.toNat, by omega, by omega⟩
omit hV in
theorem allS_lt (n : Nat) : (allS n).Pairwise (· < ·) := by
 rw [allS, List.pairwise_map]
 exact List.pairwise_lt_range.imp fun {a b} h => by omega
omit hV in
theorem fst_ok (n : Nat) : BlkOk n (fstB n) := by
 unfold fstB
 split
 ·exact ⟨fun b h => by simp at h, fun b h => by simp at h, fun b h => by simp at h, List.Pairwise.nil⟩
 ·refine ⟨fun b h => ?_, fun b h => ?_, fun b h => ?_, ?_⟩
  ·obtain rfl := List.mem_singleton.1 h; exact allS_lt n
  ·obtain rfl := List.mem_singleton.1 h; simp [allS]; omega
  ·obtain rfl := List.mem_singleton.1 h; exact fun s hs => mem_allS.1 hs
  ·exact List.pairwise_singleton _ _
omit hV in
theorem outs_snoc (s : Int) (w : List Int) (x : Int) : outsG N O s (w ++ [x]) = outsG N O s w ++ [outG O (leadG N s w) x] := by rw [outsG_append]; rfl
omit hV in
theorem snoc_inj {a b : List Int} {x y : Int} : a ++ [x] = b ++ [y] ↔ a = b ∧ x = y := by
 constructor
 ·intro h
  have := List.append_inj' h rfl
  exact ⟨this.1, List.cons.inj this.2 |>.1⟩
 ·rintro ⟨rfl, rfl⟩; rfl
theorem aft_spec (w : List Int) (hw : ∀ x ∈ w, 0 ≤ x ∧ x < k) : BlkOk N.length (aftB N O w).1 ∧ (∀ p q, inB (aftB N O w).1 p q → pairW N O w p q) ∧ (∀ p q, p ≠ q → pairW N O w p q → inB (aftB N O w).1 p q) ∧ ((aftB N O w).2 = true ↔ noMerge N O w) := by
 induction w using snocRec with
 | h0 =>
  refine ⟨fst_ok _, ?_, ?_, ?_⟩
  ·rintro p q ⟨b, hb, hp, hq⟩
   have h1 := (fst_ok N.length).st b hb
   exact ⟨p, q, h1 p hp, h1 q hq, rfl, rfl, rfl⟩
  ·rintro p q hpq ⟨s, t, hs, ht, _, rfl, rfl⟩
   simp only [leadG] at hpq ⊢
   refine ⟨allS N.length, ?_, mem_allS.2 hs, mem_allS.2 ht⟩
   show allS N.length ∈ fstB N.length
   rw [fstB, if_neg (by omega)]
   simp
  ·simp only [aftB, List.foldl_nil, true_iff]
   exact fun s t _ _ h _ => h
 | h1 w x ih =>
  obtain ⟨i1, i2, i3, i4⟩ := ih fun y hy => hw y (by simp [hy])
  have hx := hw x (by simp)
  rw [aftB_snoc]
  generalize hq : aftB N O w = q at *
  obtain ⟨l, b⟩ := q
  simp only [aftP] at *
  refine ⟨i1.step hV hx, ?_, ?_, ?_⟩
  ·intro p' q' hi
   obtain ⟨p, q, h1, h2, rfl, rfl⟩ := stp_from hV i1 hx hi
   obtain ⟨s, t, hs, ht, h3, rfl, rfl⟩ := i2 p q h1
   exact ⟨s, t, hs, ht, by rw [outs_snoc, outs_snoc, h3, h2], by rw [leadG_snoc]; rfl, by rw [leadG_snoc]; rfl⟩
  ·rintro p' q' hpq ⟨s, t, hs, ht, h1, rfl, rfl⟩
   rw [outs_snoc, outs_snoc, snoc_inj] at h1
   rw [leadG_snoc, leadG_snoc] at hpq ⊢
   have hne : leadG N s w ≠ leadG N t w := fun e => hpq (by rw [e])
   exact stp_to hV i1 hx (i3 _ _ hne ⟨s, t, hs, ht, h1.1, rfl, rfl⟩) h1.2 hpq
  ·rw [Bool.and_eq_true, i4, stpW_iff hV i1 hx]
   constructor
   ·rintro ⟨h1, h2⟩ s t hs ht hst ho
    rw [outs_snoc, outs_snoc, snoc_inj] at ho
    rw [leadG_snoc, leadG_snoc]
    have hne := h1 s t hs ht hst ho.1
    exact h2 _ _ hne (i3 _ _ hne ⟨s, t, hs, ht, ho.1, rfl, rfl⟩) ho.2
   ·intro h
    refine ⟨fun s t hs ht hst ho e => ?_, fun p q hpq hi ho => ?_⟩
    ·refine h s t hs ht hst (by rw [outs_snoc, outs_snoc, ho, e]) (by rw [leadG_snoc, leadG_snoc, e])
    ·obtain ⟨s, t, hs, ht, h1, rfl, rfl⟩ := i2 p q hi
     have := h s t hs ht (fun e => hpq (by rw [e])) (by rw [outs_snoc, outs_snoc, h1, ho])
     rw [leadG_snoc, leadG_snoc] at this
     exact this
def homW (N O : List (List Int)) (w : List Int) : Prop := ∀ s t : Int, (0 ≤ s ∧ s < N.length) → (0 ≤ t ∧ t < N.length) → outsG N O s w = outsG N O t w → leadG N s w = leadG N t w
def telW (N O : List (List Int)) (w : List Int) : Prop := ∀ s t : Int, (0 ≤ s ∧ s < N.length) → (0 ≤ t ∧ t < N.length) → outsG N O s w = outsG N O t w → s = t
omit hV in
theorem BlkOk.nil_iff {n : Nat} {l : List (List Int)} (h : BlkOk n l) : l = [] ↔ ∀ p q, inB l p q → p = q := by
 constructor
 ·rintro rfl p q ⟨b, hb, _⟩; simp at hb
 ·intro hp
  match l, h, hp with
  | [], _, _ => rfl
  | b :: r, h, hp =>
   have h1 := h.two b (by simp)
   have h2 := h.lt b (by simp)
   match b, h1, h2, hp with
   | p :: q :: r', h1, h2, hp =>
    have := hp p q ⟨p :: q :: r', by simp, by simp, by simp⟩
    have := (List.pairwise_cons.1 h2).1 q (by simp)
    omega
theorem hom_iff {w : List Int} (hw : ∀ x ∈ w, 0 ≤ x ∧ x < k) : (aftB N O w).1 = [] ↔ homW N O w := by
 obtain ⟨i1, i2, i3, _⟩ := aft_spec hV w hw
 rw [i1.nil_iff]
 constructor
 ·intro h s t hs ht ho
  refine Classical.byContradiction fun hne => hne (h _ _ (i3 _ _ hne ⟨s, t, hs, ht, ho, rfl, rfl⟩))
 ·intro h p q hi
  obtain ⟨s, t, hs, ht, ho, rfl, rfl⟩ := i2 p q hi
  exact h s t hs ht ho
theorem tel_iff {w : List Int} (hw : ∀ x ∈ w, 0 ≤ x ∧ x < k) : ((aftB N O w).2 = true ∧ (aftB N O w).1 = []) ↔ telW N O w := by
 obtain ⟨i1, i2, i3, i4⟩ := aft_spec hV w hw
 rw [hom_iff hV hw, i4]
 constructor
 ·rintro ⟨h1, h2⟩ s t hs ht ho
  refine Classical.byContradiction fun hne => h1 s t hs ht hne ho (h2 s t hs ht ho)
 ·intro h
  exact ⟨fun s t hs ht hne ho => absurd (h s t hs ht ho) hne, fun s t hs ht ho => by rw [h s t hs ht ho]⟩
end Go.AM
end

section
namespace Go.AM
open Go
def tot (l : List (List Int)) : Nat := (l.map List.length).sum
theorem tot_cons (x : List Int) (l : List (List Int)) : tot (x :: l) = x.length + tot l := by simp [tot]
theorem tot_append (a b : List (List Int)) : tot (a ++ b) = tot a + tot b := by simp [tot]
theorem tot_mem {l : List (List Int)} {x : List Int} (h : x ∈ l) : x.length ≤ tot l := by
 induction l with
 | nil => simp at h
 | cons y l ih =>
  rw [tot_cons]
  rcases List.mem_cons.1 h with rfl | h
  ·omega
  ·have := ih h; omega
theorem tot_two {l : List (List Int)} (h : ∀ b ∈ l, 2 ≤ b.length) : l.length * 2 ≤ tot l := by
 induction l with
 | nil => simp [tot]
 | cons y l ih =>
  have h1 := ih fun b hb => h b (by simp [hb])
  have h2 := h y (by simp)
  rw [tot_cons, List.length_cons]; omega
theorem tot_insW (x : List Int) : ∀ l : List (List Int), tot (insW x l) ≤ x.length + tot l
 | [] => by simp [insW, tot]
 | y :: r => by
  have ih := tot_insW x r
  unfold insW
  split
  ·simp only [tot_cons]; omega
  ·split <;> simp only [tot_cons] <;> omega
theorem tot_onceL : ∀ l : List (List Int), tot (onceL l) ≤ tot l
 | [] => Nat.le_refl _
 | x :: l => by
  have h1 := tot_onceL l
  have h2 := tot_insW x (onceL l)
  have e : onceL (x :: l) = insW x (onceL l) := rfl
  rw [e, tot_cons]
  omega
theorem tot_filter (p : List Int → Bool) : ∀ l : List (List Int), tot (l.filter p) ≤ tot l
 | [] => Nat.le_refl _
 | x :: l => by
  have ih := tot_filter p l
  rw [List.filter_cons]
  split <;> simp only [tot_cons] <;> omega
theorem tot_sort : ∀ l : List (List Int), tot (l.map sortL) = tot l
 | [] => rfl
 | x :: l => by rw [List.map_cons, tot_cons, tot_cons, tot_sort l, sortL_len]
theorem tot_set : ∀ (R : List (List Int)) (o : Nat) (t : Int), tot (R.set o (R.getD o [] ++ [t])) ≤ tot R + 1
 | [], _, _ => by simp [tot]
 | x :: R, 0, t => by simp [tot_cons]; omega
 | x :: R, o + 1, t => by
  have ih := tot_set R o t
  rw [List.set_cons_succ, tot_cons, tot_cons, List.getD_cons_succ]
  omega
theorem tot_rep (n : Nat) : tot (List.replicate n []) = 0 := by
 induction n with
 | zero => rfl
 | succ n ih => rw [List.replicate_succ, tot_cons, ih]; rfl
variable {N O : List (List Int)} {k : Nat}
theorem tot_mvP (x : Int) (b : List Int) : tot (mvP N O x b).1 ≤ b.length := by
 induction b using snocRec with
 | h0 => simp only [mvP, List.foldl_nil]; rw [tot_rep]; exact Nat.zero_le _
 | h1 l s ih =>
  rw [mvP_snoc, List.length_append, List.length_singleton]
  unfold mvR
  split
  ·simp only; omega
  ·simp only
   have := tot_set (mvP N O x l).1 (outG O s x).toNat (nxG N s x)
   omega
theorem tot_movB (b : List Int) (x : Int) : tot (movB N O b x) ≤ b.length := by
 rw [movB, outB, tot_sort]
 exact Nat.le_trans (tot_filter _ _) (tot_mvP x b)
theorem tot_stpB (x : Int) (l : List (List Int)) : tot (stpB N O l x) ≤ tot l := by
 refine Nat.le_trans (tot_onceL _) ?_
 induction l with
 | nil => exact Nat.le_refl _
 | cons b l ih =>
  rw [List.flatMap_cons, tot_append, tot_cons]
  have h1 : tot (bigB (movB N O b x)) ≤ b.length := Nat.le_trans (tot_filter _ _) (tot_movB b x)
  omega
theorem tot_fst (n : Nat) : tot (fstB n) ≤ n := by
 unfold fstB
 split
 ·exact Nat.zero_le _
 ·simp [tot, allS]
theorem tot_aft (w : List Int) : tot (aftB N O w).1 ≤ N.length := by
 induction w using snocRec with
 | h0 => exact tot_fst _
 | h1 w x ih =>
  rw [aftB_snoc, aftP]
  exact Nat.le_trans (tot_stpB x _) ih
theorem BlkOk.few {n : Nat} {l : List (List Int)} (h : BlkOk n l) (ht : tot l ≤ n) : l.length ≤ n ∧ ∀ b ∈ l, b.length ≤ n := by
 have := tot_two h.two
 exact ⟨by omega, fun b hb => by have := tot_mem hb; omega⟩
end Go.AM
end
