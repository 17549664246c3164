/-
  The reference's sets of blocks as bits, and that both searches answer alike; no program in sight.
-/
import Derived.Test.YtkpoffjimfiabaaP8
set_option linter.unusedVariables false
set_option linter.unusedSimpArgs false
set_option linter.unusedSectionVars false
set_option linter.unnecessarySimpa false

section
namespace Go.AM
open Go
theorem BInv.front {σ : Type} [DecidableEq σ] {δ : σ → Nat → σ} {s0 : σ} {k i x : Nat} {q : List σ × Stp} (h : BInv δ s0 k i x q) (hi : i < q.1.length) : ∀ w : List Int, (∀ c ∈ w, 0 ≤ c ∧ c < (k : Int)) → (∃ m, m < q.1.length ∧ runW δ s0 w = q.1.getD m s0 ∧ leB (wordOf q.2 m) w) ∨ leB (wordOf q.2 i ++ [(x : Int)]) w := by
 intro w
 generalize hn : w.length = n
 induction n generalizing w with
 | zero =>
  intro _
  have : w = [] := List.length_eq_zero_iff.1 hn
  subst this
  exact .inl ⟨0, h.pos, h.zero.symm, by rw [wordOf_root 0 (by rw [h.root]; decide)]; exact leB_refl _⟩
 | succ n ih =>
  intro hw
  obtain ⟨u, y, rfl⟩ : ∃ u y, w = u ++ [y] := ⟨w.dropLast, w.getLast (fun e => by simp [e] at hn), (List.dropLast_concat_getLast _).symm⟩
  have hy := hw y (by simp)
  have ey : ((y.toNat : Nat) : Int) = y := by omega
  rcases ih u (by simp at hn; omega) (fun c hc => hw c (by simp [hc])) with ⟨m, h1, h2, h3⟩ | h3
  ·by_cases hc : m < i ∨ m = i ∧ y.toNat < x
   ·obtain ⟨m', a1, a2, a3⟩ := h.closed m y.toNat h1 (by omega) hc
    refine .inl ⟨m', a1, by rw [runW_snoc, h2, a2], leB_trans a3 ?_⟩
    rw [ey]
    exact leB_snoc y h3
   ·refine .inr (leB_trans ?_ (leB_snoc y h3))
    by_cases hmi : m = i
    ·subst hmi
     by_cases hxy : (x : Int) = y
     ·rw [hxy]; exact leB_refl _
     ·exact leB_of (comesB_last _ (by omega))
    ·exact leB_of (comesB_snoc _ _ (h.sorted i m (by omega) h1))
  ·refine .inr (leB_trans h3 (leB_of ?_))
   unfold comesB
   rw [if_neg (by simp)]
   simp
theorem pow7 {n : Nat} (h : n ≤ 7) : 2 ^ n ≤ 128 := Nat.pow_le_pow_right (n := 2) (by omega) h
def bit (m p : Nat) : Prop := m.testBit p = true
def inM (L : List Nat) (p q : Nat) : Prop := ∃ m ∈ L, bit m p ∧ bit m q
section
variable (N O : List (List Int)) (ap : Bool) (x : Nat)
def outN (s : Nat) : Nat := (outG O s x).toNat
def nxtN (s : Nat) : Nat := (nxG N s x).toNat
def imS (M : Nat) : Nat → List Nat × Bool
 | 0 => (List.replicate 16 0, false)
 | s + 1 => if (imS M s).2 = true then imS M s else if M.testBit s = false then imS M s else
  if ap = true ∧ ((imS M s).1.getD (outN O x s) 0).testBit (nxtN N x s) = true then ((imS M s).1, true)
  else ((imS M s).1.set (outN O x s) ((imS M s).1.getD (outN O x s) 0 ||| 2 ^ nxtN N x s), false)
def insM (b : Nat) : List Nat → List Nat
 | [] => [b]
 | a :: l => if a < b then a :: insM b l else if a = b then a :: l else b :: a :: l
def withM (l : List Nat) (b : Nat) : List Nat := if lenM b ≤ 1 then l else insM b l
def stM (l : List Nat) : Option (List Nat) → Option (List Nat)
 | none => none
 | some out => l.foldl (fun q M => q.bind fun o => if (imS N O ap x M N.length).2 = true then none else some ((imS N O ap x M N.length).1.foldl withM o)) (some out)
def stepM (l : List Nat) : Option (List Nat) := stM N O ap x l (some [])
end
def dltM (N O : List (List Int)) (ap : Bool) (L : List Nat) (x : Nat) : List Nat := (stepM N O ap x L).getD L
theorem mem_insM {b c : Nat} : ∀ {l : List Nat}, c ∈ insM b l ↔ c = b ∨ c ∈ l
 | [] => by simp [insM]
 | a :: l => by
  unfold insM
  split
  ·rw [List.mem_cons, mem_insM, List.mem_cons]
   constructor
   ·rintro (h | h | h) <;> simp [h]
   ·rintro (h | h | h) <;> simp [h]
  ·split
   ·rename_i h1 h2
    subst h2
    simp
   ·simp
theorem mem_withM {l : List Nat} {b c : Nat} : c ∈ withM l b ↔ c ∈ l ∨ (c = b ∧ 2 ≤ lenM b) := by
 unfold withM
 split
 ·constructor
  ·exact .inl
  ·rintro (h | ⟨_, h⟩)
   ·exact h
   ·omega
 ·rw [mem_insM]
  constructor
  ·rintro (h | h)
   ·exact .inr ⟨h, by omega⟩
   ·exact .inl h
  ·rintro (h | ⟨h, _⟩)
   ·exact .inr h
   ·exact .inl h
theorem mem_fold {c : Nat} : ∀ {I l : List Nat}, c ∈ I.foldl withM l ↔ c ∈ l ∨ (c ∈ I ∧ 2 ≤ lenM c)
 | [], l => by simp
 | b :: I, l => by
  rw [List.foldl_cons, mem_fold, mem_withM, List.mem_cons]
  constructor
  ·rintro ((h | ⟨rfl, h⟩) | ⟨h, h2⟩)
   ·exact .inl h
   ·exact .inr ⟨.inl rfl, h⟩
   ·exact .inr ⟨.inr h, h2⟩
  ·rintro (h | ⟨rfl | h, h2⟩)
   ·exact .inl (.inl h)
   ·exact .inl (.inr ⟨rfl, h2⟩)
   ·exact .inr ⟨h, h2⟩
theorem lenM_two {m : Nat} (hm : m < 128) : 2 ≤ lenM m ↔ ∃ p q, p ≠ q ∧ bit m p ∧ bit m q := by
 have hlt7 : ∀ p, m.testBit p = true → p < 7 := fun p hp => by
  refine Nat.lt_of_not_le fun h => ?_
  have h1 : m < 2 ^ p := Nat.lt_of_lt_of_le hm (Nat.pow_le_pow_right (n := 2) (by omega) h)
  rw [Nat.testBit_lt_two_pow h1] at hp
  cases hp
 have hmem : ∀ p, p ∈ (List.range 7).filter m.testBit ↔ bit m p := fun p => by
  rw [List.mem_filter, List.mem_range]
  exact ⟨fun h => h.2, fun h => ⟨hlt7 p h, h⟩⟩
 have hnd : ((List.range 7).filter m.testBit).Pairwise (· < ·) := List.pairwise_lt_range.filter _
 unfold lenM
 constructor
 ·intro h
  have h0 : 0 < ((List.range 7).filter m.testBit).length := by omega
  have h1 : 1 < ((List.range 7).filter m.testBit).length := by omega
  have h2 := List.pairwise_iff_getElem.1 hnd 0 1 h0 h1 (by omega)
  exact ⟨_, _, Nat.ne_of_lt h2, (hmem _).1 (List.getElem_mem h0), (hmem _).1 (List.getElem_mem h1)⟩
 ·rintro ⟨p, q, hpq, hp, hq⟩
  have h1 := (hmem p).2 hp
  have h2 := (hmem q).2 hq
  generalize (List.range 7).filter m.testBit = l at *
  match l, h1, h2 with
  | [a], h1, h2 =>
   rw [List.mem_singleton] at h1 h2
   omega
  | a :: b :: l, _, _ => simp
section
variable {N O : List (List Int)} {ap : Bool} {x k : Nat}
theorem imS_len (M : Nat) : ∀ s, (imS N O ap x M s).1.length = 16
 | 0 => by simp [imS]
 | s + 1 => by
  unfold imS
  split
  ·exact imS_len M s
  ·split
   ·exact imS_len M s
   ·split
    ·exact imS_len M s
    ·simp [imS_len M s]
theorem imS_bit (hO : ∀ s, s < N.length → outN O x s < 16) (M : Nat) : ∀ s, s ≤ N.length → (imS N O ap x M s).2 = false → ∀ o p, ((imS N O ap x M s).1.getD o 0).testBit p = true ↔ ∃ t, t < s ∧ bit M t ∧ outN O x t = o ∧ nxtN N x t = p
 | 0, _, _, o, p => by
  simp only [imS]
  constructor
  ·intro h
   have : (List.replicate 16 0).getD o 0 = 0 := by
    rw [List.getD_eq_getElem?_getD, List.getElem?_replicate]
    split <;> rfl
   rw [this] at h
   simp at h
  ·rintro ⟨t, h, _⟩; omega
 | s + 1, hs, hf, o, p => by
  have hos := hO s (by omega)
  have hl := imS_len (N := N) (O := O) (ap := ap) (x := x) M s
  unfold imS at hf ⊢
  split at hf
  ·rename_i h; rw [h] at hf; cases hf
  ·rename_i hnf
   have hnf : (imS N O ap x M s).2 = false := by simpa using hnf
   have ih := imS_bit hO M s (by omega) hnf
   rw [if_neg (by rw [hnf]; simp)]
   split at hf
   ·rename_i hb
    rw [if_pos hb, ih]
    constructor
    ·rintro ⟨t, h1, h2⟩; exact ⟨t, by omega, h2⟩
    ·rintro ⟨t, h1, h2, h3⟩
     refine ⟨t, ?_, h2, h3⟩
     have : t ≠ s := fun e => by subst e; unfold bit at h2; rw [hb] at h2; cases h2
     omega
   ·rename_i hb
    rw [if_neg hb]
    split at hf
    ·cases hf
    ·rename_i hc
     rw [if_neg hc]
     have hb : M.testBit s = true := by simpa using hb
     show (((imS N O ap x M s).1.set (outN O x s) ((imS N O ap x M s).1.getD (outN O x s) 0 ||| 2 ^ nxtN N x s)).getD o 0).testBit p = true ↔ _
     by_cases e : outN O x s = o
     ·subst e
      rw [List.getD_eq_getElem?_getD, List.getElem?_set_self (by rw [hl]; exact hos), Option.getD_some, Nat.testBit_or, Bool.or_eq_true, ih, Nat.testBit_two_pow, decide_eq_true_eq]
      constructor
      ·rintro (⟨t, h1, h2⟩ | h)
       ·exact ⟨t, by omega, h2⟩
       ·exact ⟨s, by omega, hb, rfl, h⟩
      ·rintro ⟨t, h1, h2, h3, h4⟩
       by_cases et : t = s
       ·subst et; exact .inr h4
       ·exact .inl ⟨t, by omega, h2, h3, h4⟩
     ·rw [List.getD_eq_getElem?_getD, List.getElem?_set_ne e, ← List.getD_eq_getElem?_getD, ih]
      constructor
      ·rintro ⟨t, h1, h2⟩; exact ⟨t, by omega, h2⟩
      ·rintro ⟨t, h1, h2, h3, h4⟩
       refine ⟨t, ?_, h2, h3, h4⟩
       have : t ≠ s := fun et => by subst et; exact e h3
       omega
theorem imS_fail (hO : ∀ s, s < N.length → outN O x s < 16) (M : Nat) : ∀ s, s ≤ N.length → ((imS N O ap x M s).2 = true ↔ ap = true ∧ ∃ t t', t < t' ∧ t' < s ∧ bit M t ∧ bit M t' ∧ outN O x t = outN O x t' ∧ nxtN N x t = nxtN N x t')
 | 0, _ => by
  simp only [imS]
  constructor
  ·intro h; cases h
  ·rintro ⟨_, t, t', _, h, _⟩; omega
 | s + 1, hs => by
  have ih := imS_fail hO M s (by omega)
  unfold imS
  by_cases hf : (imS N O ap x M s).2 = true
  ·rw [if_pos hf]
   constructor
   ·intro _
    obtain ⟨h0, t, t', h1, h2, h3⟩ := ih.1 hf
    exact ⟨h0, t, t', h1, by omega, h3⟩
   ·intro _; exact hf
  ·rw [if_neg hf]
   have hf' : (imS N O ap x M s).2 = false := by simpa using hf
   have hbt := imS_bit (ap := ap) hO M s (by omega) hf'
   have old : (ap = true ∧ ∃ t t', t < t' ∧ t' < s + 1 ∧ bit M t ∧ bit M t' ∧ outN O x t = outN O x t' ∧ nxtN N x t = nxtN N x t') → bit M s ∧ ∃ t, t < s ∧ bit M t ∧ outN O x t = outN O x s ∧ nxtN N x t = nxtN N x s := by
    rintro ⟨h0, t, t', h1, h2, h3, h4, h5, h6⟩
    by_cases e : t' = s
    ·subst e; exact ⟨h4, t, h1, h3, h5, h6⟩
    ·exact absurd (ih.2 ⟨h0, t, t', h1, by omega, h3, h4, h5, h6⟩) hf
   by_cases hb : M.testBit s = false
   ·rw [if_pos hb]
    constructor
    ·intro h; exact absurd h hf
    ·intro h
     have := (old h).1
     unfold bit at this
     rw [hb] at this; cases this
   ·rw [if_neg hb]
    have hb' : M.testBit s = true := by simpa using hb
    by_cases hc : ap = true ∧ ((imS N O ap x M s).1.getD (outN O x s) 0).testBit (nxtN N x s) = true
    ·rw [if_pos hc]
     refine ⟨fun _ => ?_, fun _ => rfl⟩
     obtain ⟨t, h1, h2, h3, h4⟩ := (hbt _ _).1 hc.2
     exact ⟨hc.1, t, s, h1, by omega, h2, hb', h3, h4⟩
    ·rw [if_neg hc]
     constructor
     ·intro h; cases h
     ·intro h
      obtain ⟨_, t, h1, h2, h3, h4⟩ := old h
      exact absurd ⟨h.1, (hbt _ _).2 ⟨t, h1, h2, h3, h4⟩⟩ hc
structure MOk (n : Nat) (L : List Nat) : Prop where
 lt : ∀ m ∈ L, m < 2 ^ n
 two : ∀ m ∈ L, 2 ≤ lenM m
theorem MOk.bit_lt {n : Nat} {L : List Nat} (h : MOk n L) {m p : Nat} (hm : m ∈ L) (hp : bit m p) : p < n := by
 refine Nat.lt_of_not_le fun hle => ?_
 have h1 : m < 2 ^ p := Nat.lt_of_lt_of_le (h.lt m hm) (Nat.pow_le_pow_right (n := 2) (by omega) hle)
 unfold bit at hp
 rw [Nat.testBit_lt_two_pow h1] at hp
 cases hp
theorem stM_none {l : List Nat} : l.foldl (fun q M => q.bind fun o => if (imS N O ap x M N.length).2 = true then none else some ((imS N O ap x M N.length).1.foldl withM o)) (none : Option (List Nat)) = none := by
 induction l with
 | nil => rfl
 | cons M l ih => exact ih
theorem stM_cons {M : Nat} {l out : List Nat} : stM N O ap x (M :: l) (some out) = if (imS N O ap x M N.length).2 = true then none else stM N O ap x l (some ((imS N O ap x M N.length).1.foldl withM out)) := by
 show List.foldl (fun q M => q.bind fun o => if (imS N O ap x M N.length).2 = true then none else some ((imS N O ap x M N.length).1.foldl withM o)) (if (imS N O ap x M N.length).2 = true then none else some ((imS N O ap x M N.length).1.foldl withM out)) l = _
 split
 ·exact stM_none
 ·rfl
theorem stM_spec : ∀ (l out : List Nat), (stM N O ap x l (some out) = none ↔ ∃ M ∈ l, (imS N O ap x M N.length).2 = true) ∧ ∀ L, stM N O ap x l (some out) = some L → ∀ c, c ∈ L ↔ c ∈ out ∨ ∃ M ∈ l, c ∈ (imS N O ap x M N.length).1 ∧ 2 ≤ lenM c
 | [], out => by
  refine ⟨by simp [stM], fun L h c => ?_⟩
  have : out = L := by simpa [stM] using h
  simp [this]
 | M :: l, out => by
  rw [stM_cons]
  obtain ⟨ih1, ih2⟩ := stM_spec l ((imS N O ap x M N.length).1.foldl withM out)
  split
  ·rename_i h
   exact ⟨⟨fun _ => ⟨M, by simp, h⟩, fun _ => rfl⟩, fun L hL => by cases hL⟩
  ·rename_i h
   refine ⟨?_, fun L hL c => ?_⟩
   ·rw [ih1]
    constructor
    ·rintro ⟨M', h1, h2⟩; exact ⟨M', by simp [h1], h2⟩
    ·rintro ⟨M', h1, h2⟩
     rcases List.mem_cons.1 h1 with rfl | h1
     ·exact absurd h2 h
     ·exact ⟨M', h1, h2⟩
   ·rw [ih2 L hL c, mem_fold]
    constructor
    ·rintro ((h1 | h1) | ⟨M', h1, h2⟩)
     ·exact .inl h1
     ·exact .inr ⟨M, by simp, h1⟩
     ·exact .inr ⟨M', by simp [h1], h2⟩
    ·rintro (h1 | ⟨M', h1, h2⟩)
     ·exact .inl (.inl h1)
     ·rcases List.mem_cons.1 h1 with rfl | h1
      ·exact .inl (.inr h2)
      ·exact .inr ⟨M', h1, h2⟩
theorem out_lt (hV : VM N O k) (hx : x < k) : ∀ s, s < N.length → outN O x s < 16 := fun s hs => by
 have := (hV.out (s := (s : Int)) (x := (x : Int)) (by omega) (by omega) (by omega) (by omega)).2
 unfold outN; omega
theorem nxt_lt (hV : VM N O k) (hx : x < k) : ∀ s, s < N.length → nxtN N x s < N.length := fun s hs => by
 have := nx_ok hV (s := (s : Int)) (x := (x : Int)) ⟨by omega, by omega⟩ ⟨by omega, by omega⟩
 unfold nxtN; omega
theorem step_pairs (hV : VM N O k) (hn : N.length ≤ 7) (hx : x < k) {L L' : List Nat} (hL : MOk N.length L) (h : stepM N O ap x L = some L') : MOk N.length L' ∧ ∀ p' q', p' ≠ q' → (inM L' p' q' ↔ ∃ p q, inM L p q ∧ outN O x p = outN O x q ∧ nxtN N x p = p' ∧ nxtN N x q = q') := by
 obtain ⟨hnone, hsome⟩ := stM_spec (N := N) (O := O) (ap := ap) (x := x) L []
 have hmem := hsome L' h
 have hO := out_lt hV hx
 have hok : ∀ M ∈ L, (imS N O ap x M N.length).2 = false := fun M hM => by
  cases e : (imS N O ap x M N.length).2 with
  | false => rfl
  | true =>
   have := hnone.2 ⟨M, hM, e⟩
   unfold stepM at h
   rw [h] at this; cases this
 have hbits : ∀ M ∈ L, ∀ c ∈ (imS N O ap x M N.length).1, ∃ o, o < 16 ∧ ∀ p, bit c p ↔ ∃ t, t < N.length ∧ bit M t ∧ outN O x t = o ∧ nxtN N x t = p := fun M hM c hc => by
  obtain ⟨o, ho, rfl⟩ := List.getElem_of_mem hc
  have hb := imS_bit (ap := ap) hO M N.length (Nat.le_refl _) (hok M hM) o
  have ho2 : o < 16 := by rw [imS_len] at ho; exact ho
  refine ⟨o, ho2, fun p => ?_⟩
  have := hb p
  rw [List.getD_eq_getElem?_getD, List.getElem?_eq_getElem ho, Option.getD_some] at this
  exact this
 have hlt : ∀ M ∈ L, ∀ c ∈ (imS N O ap x M N.length).1, c < 2 ^ N.length := fun M hM c hc => by
  obtain ⟨o, _, hb⟩ := hbits M hM c hc
  refine Nat.lt_pow_two_of_testBit c fun i hi => ?_
  cases e : c.testBit i with
  | false => rfl
  | true =>
   obtain ⟨t, h1, _, _, h4⟩ := (hb i).1 e
   have := nxt_lt hV hx t h1
   omega
 have h128 : ∀ c, c < 2 ^ N.length → c < 128 := fun c hc => Nat.lt_of_lt_of_le hc (pow7 hn)
 refine ⟨⟨fun c hc => ?_, fun c hc => ?_⟩, fun p' q' hpq => ?_⟩
 ·rcases (hmem c).1 hc with h1 | ⟨M, hM, h1, _⟩
  ·cases h1
  ·exact hlt M hM c h1
 ·rcases (hmem c).1 hc with h1 | ⟨M, hM, _, h1⟩
  ·cases h1
  ·exact h1
 ·constructor
  ·rintro ⟨c, hc, hp, hq⟩
   rcases (hmem c).1 hc with h1 | ⟨M, hM, h1, _⟩
   ·cases h1
   ·obtain ⟨o, _, hb⟩ := hbits M hM c h1
    obtain ⟨p, p1, p2, p3, p4⟩ := (hb p').1 hp
    obtain ⟨q, q1, q2, q3, q4⟩ := (hb q').1 hq
    exact ⟨p, q, ⟨M, hM, p2, q2⟩, by rw [p3, q3], p4, q4⟩
  ·rintro ⟨p, q, ⟨M, hM, hp, hq⟩, ho, rfl, rfl⟩
   have hpn := hL.bit_lt hM hp
   have hqn := hL.bit_lt hM hq
   have ho16 := hO p hpn
   have hlen : outN O x p < (imS N O ap x M N.length).1.length := by rw [imS_len]; exact ho16
   have hb := imS_bit (ap := ap) hO M N.length (Nat.le_refl _) (hok M hM) (outN O x p)
   rw [List.getD_eq_getElem?_getD, List.getElem?_eq_getElem hlen, Option.getD_some] at hb
   have b1 : bit ((imS N O ap x M N.length).1[outN O x p]) (nxtN N x p) := (hb _).2 ⟨p, hpn, hp, rfl, rfl⟩
   have b2 : bit ((imS N O ap x M N.length).1[outN O x p]) (nxtN N x q) := (hb _).2 ⟨q, hqn, hq, ho.symm, rfl⟩
   have hm2 := List.getElem_mem hlen
   exact ⟨_, (hmem _).2 (.inr ⟨M, hM, hm2, (lenM_two (h128 _ (hlt M hM _ hm2))).2 ⟨_, _, hpq, b1, b2⟩⟩), b1, b2⟩
theorem step_none (hV : VM N O k) (hx : x < k) {L : List Nat} (hL : MOk N.length L) : stepM N O ap x L = none ↔ ap = true ∧ ∃ p q, p ≠ q ∧ inM L p q ∧ outN O x p = outN O x q ∧ nxtN N x p = nxtN N x q := by
 have hO := out_lt hV hx
 unfold stepM
 rw [(stM_spec L []).1]
 constructor
 ·rintro ⟨M, hM, hf⟩
  obtain ⟨h0, t, t', h1, _, h3, h4, h5, h6⟩ := (imS_fail hO M N.length (Nat.le_refl _)).1 hf
  exact ⟨h0, t, t', Nat.ne_of_lt h1, ⟨M, hM, h3, h4⟩, h5, h6⟩
 ·rintro ⟨h0, p, q, hpq, ⟨M, hM, hp, hq⟩, h5, h6⟩
  have hpn := hL.bit_lt hM hp
  have hqn := hL.bit_lt hM hq
  refine ⟨M, hM, (imS_fail hO M N.length (Nat.le_refl _)).2 ⟨h0, ?_⟩⟩
  rcases Nat.lt_or_gt_of_ne hpq with h | h
  ·exact ⟨p, q, h, hqn, hp, hq, h5, h6⟩
  ·exact ⟨q, p, h, hpn, hq, hp, h5.symm, h6.symm⟩
def RelM (L : List Nat) (B : List (List Int)) : Prop := ∀ p q : Nat, p ≠ q → (inM L p q ↔ inB B p q)
theorem rel_step (hV : VM N O k) (hn : N.length ≤ 7) (hx : x < k) {L : List Nat} {B : List (List Int)} (hL : MOk N.length L) (hB : BlkOk N.length B ∧ tot B ≤ N.length) (h : RelM L B) :
  MOk N.length (dltM N O ap L x) ∧ RelM (dltM N O ap L x) (dltB N O ap B x) := by
 have hxr : 0 ≤ (x : Int) ∧ (x : Int) < k := ⟨by omega, by omega⟩
 have nat : ∀ {p q : Int}, inB B p q → ∃ a b : Nat, p = (a : Int) ∧ q = (b : Int) := fun {p q} hi => by
  obtain ⟨b, hb, hp, hq⟩ := hi
  have h1 := hB.1.st b hb p hp
  have h2 := hB.1.st b hb q hq
  exact ⟨p.toNat, q.toNat, by omega, by omega⟩
 have natR : ∀ {p q : Nat}, inB B (p : Int) (q : Int) → p < N.length ∧ q < N.length := fun {p q} hi => by
  obtain ⟨b, hb, hp, hq⟩ := hi
  have h1 := hB.1.st b hb p hp
  have h2 := hB.1.st b hb q hq
  exact ⟨by omega, by omega⟩
 have eo : ∀ p, p < N.length → ((outN O x p : Nat) : Int) = outG O p x := fun p hp => by
  have := (hV.out (s := (p : Int)) (x := (x : Int)) (by omega) (by omega) (by omega) (by omega)).2
  unfold outN; omega
 have en : ∀ p, p < N.length → ((nxtN N x p : Nat) : Int) = nxG N p x := fun p hp => by
  have := nx_ok hV (s := (p : Int)) (x := (x : Int)) ⟨by omega, by omega⟩ hxr
  unfold nxtN; omega
 have hfail : (stepM N O ap x L = none) ↔ (ap = true ∧ stpW N O B x = false) := by
  rw [step_none hV hx hL]
  have hw := stpW_iff hV hB.1 hxr
  constructor
  ·rintro ⟨h0, p, q, hpq, hi, ho, hnx⟩
   refine ⟨h0, ?_⟩
   have hi2 := (h p q hpq).1 hi
   obtain ⟨hp, hq⟩ := natR hi2
   cases e : stpW N O B x with
   | false => rfl
   | true =>
    have := hw.1 e p q (by omega) hi2 (by rw [← eo p hp, ← eo q hq, ho])
    exact absurd (by rw [← en p hp, ← en q hq, hnx]) this
  ·rintro ⟨h0, hf⟩
   refine ⟨h0, ?_⟩
   have : ¬ ∀ p q, p ≠ q → inB B p q → outG O p x = outG O q x → nxG N p x ≠ nxG N q x := fun hall => by
    rw [hw.2 hall] at hf; cases hf
   refine Classical.byContradiction fun hno => this fun p q hpq hi ho hnx => hno ?_
   obtain ⟨a, b, rfl, rfl⟩ := nat hi
   obtain ⟨ha, hb⟩ := natR hi
   have hab : a ≠ b := fun e => hpq (by rw [e])
   refine ⟨a, b, hab, (h a b hab).2 hi, ?_, ?_⟩
   ·have := eo a ha; have := eo b hb; omega
   ·have := en a ha; have := en b hb; omega
 unfold dltM dltB
 cases hs : stepM N O ap x L with
 | none =>
  rw [if_pos (hfail.1 hs)]
  exact ⟨hL, h⟩
 | some L' =>
  rw [if_neg (fun hc => by rw [hfail.2 hc] at hs; cases hs)]
  obtain ⟨h1, h2⟩ := step_pairs hV hn hx hL hs
  refine ⟨h1, fun p' q' hpq => ?_⟩
  show inM L' p' q' ↔ _
  rw [h2 p' q' hpq]
  constructor
  ·rintro ⟨p, q, hi, ho, rfl, rfl⟩
   have hne : p ≠ q := fun e => hpq (by rw [e])
   have hi2 := (h p q hne).1 hi
   obtain ⟨hp, hq⟩ := natR hi2
   have h3 := stp_to hV hB.1 hxr hi2 (by rw [← eo p hp, ← eo q hq, ho]) (by rw [← en p hp, ← en q hq]; omega)
   rw [← en p hp, ← en q hq] at h3
   exact h3
  ·intro hi
   obtain ⟨p, q, h3, h4, h5, h6⟩ := stp_from hV hB.1 hxr hi
   obtain ⟨a, b, rfl, rfl⟩ := nat h3
   obtain ⟨ha, hb⟩ := natR h3
   have e1 := en a ha
   have e2 := en b hb
   have e3 := eo a ha
   have e4 := eo b hb
   have hab : a ≠ b := fun e => by subst e; omega
   exact ⟨a, b, (h a b hab).2 h3, by omega, by omega, by omega⟩
theorem MOk.nil_iff {n : Nat} (hn : n ≤ 7) {L : List Nat} (h : MOk n L) : L = [] ↔ ∀ p q, p ≠ q → ¬ inM L p q := by
 constructor
 ·rintro rfl p q _ ⟨m, hm, _⟩; cases hm
 ·intro hno
  cases L with
  | nil => rfl
  | cons m L =>
   have h1 := h.lt m (by simp)
   have h2 := h.two m (by simp)
   obtain ⟨p, q, hpq, hp, hq⟩ := (lenM_two (Nat.lt_of_lt_of_le h1 (pow7 hn))).1 h2
   exact absurd ⟨m, by simp, hp, hq⟩ (hno p q hpq)
theorem rel_nil {n : Nat} (hn : n ≤ 7) {L : List Nat} {B : List (List Int)} (hL : MOk n L) (hB : BlkOk n B) (h : RelM L B) : L = [] ↔ B = [] := by
 rw [hL.nil_iff hn, hB.nil_iff]
 constructor
 ·intro hno p q hi
  refine Classical.byContradiction fun hpq => ?_
  obtain ⟨b, hb, hp, hq⟩ := hi
  have h1 := hB.st b hb p hp
  have h2 := hB.st b hb q hq
  refine hno p.toNat q.toNat (by omega) ((h _ _ (by omega)).2 ⟨b, hb, ?_, ?_⟩)
  ·rw [show ((p.toNat : Nat) : Int) = p by omega]; exact hp
  ·rw [show ((q.toNat : Nat) : Int) = q by omega]; exact hq
 ·intro hno p q hpq hi
  have := hno _ _ ((h p q hpq).1 hi)
  omega
def begM (n : Nat) : List Nat := withM [] (2 ^ n - 1)
theorem beg_ok {n : Nat} (hn : n ≤ 7) (h1 : 1 ≤ n) : MOk n (begM n) ∧ RelM (begM n) (fstB n) := by
 have hbit : ∀ p, bit (2 ^ n - 1) p ↔ p < n := fun p => by
  unfold bit
  rw [Nat.testBit_two_pow_sub_one, decide_eq_true_eq]
 have hpos : 0 < 2 ^ n := Nat.two_pow_pos n
 have h128 : 2 ^ n - 1 < 128 := by
  have : 2 ^ n ≤ 2 ^ 7 := Nat.pow_le_pow_right (by omega) hn
  omega
 have hmem : ∀ c, c ∈ begM n ↔ c = 2 ^ n - 1 ∧ 2 ≤ lenM (2 ^ n - 1) := fun c => by
  unfold begM
  rw [mem_withM]
  simp
 refine ⟨⟨fun c hc => ?_, fun c hc => ?_⟩, fun p q hpq => ?_⟩
 ·have := (hmem c).1 hc; omega
 ·obtain ⟨rfl, h⟩ := (hmem c).1 hc
  exact h
 ·constructor
  ·rintro ⟨c, hc, hp, hq⟩
   obtain ⟨rfl, _⟩ := (hmem c).1 hc
   have h2 := (hbit p).1 hp
   have h3 := (hbit q).1 hq
   unfold fstB
   rw [if_neg (by omega)]
   exact ⟨allS n, by simp, mem_allS.2 ⟨by omega, by omega⟩, mem_allS.2 ⟨by omega, by omega⟩⟩
  ·rintro ⟨b, hb, hp, hq⟩
   have hst := fst_ok n
   have h2 := hst.st b hb p hp
   have h3 := hst.st b hb q hq
   have b2 := (hbit p).2 (by omega)
   have b3 := (hbit q).2 (by omega)
   exact ⟨_, (hmem _).2 ⟨rfl, (lenM_two h128).2 ⟨p, q, hpq, b2, b3⟩⟩, b2, b3⟩
theorem run_rel (hV : VM N O k) (hn : N.length ≤ 7) : ∀ w : List Int, (∀ c ∈ w, 0 ≤ c ∧ c < (k : Int)) → (MOk N.length (runW (dltM N O ap) (begM N.length) w) ∧ RelM (runW (dltM N O ap) (begM N.length) w) (runW (dltB N O ap) (fstB N.length) w)) ∧ BlkOk N.length (runW (dltB N O ap) (fstB N.length) w) ∧ tot (runW (dltB N O ap) (fstB N.length) w) ≤ N.length := by
 refine snocRec (fun _ => ⟨beg_ok hn hV.v.n1, fst_ok _, tot_fst _⟩) fun w c ih h => ?_
 have hc := h c (by simp)
 obtain ⟨⟨i1, i2⟩, i3⟩ := ih fun d hd => h d (by simp [hd])
 rw [runW_snoc, runW_snoc]
 exact ⟨rel_step hV hn (by omega) i1 i3 i2, dlt_ok hV i3 (by omega)⟩
theorem run_nil (hV : VM N O k) (hn : N.length ≤ 7) {w : List Int} (hw : ∀ c ∈ w, 0 ≤ c ∧ c < (k : Int)) : runW (dltM N O ap) (begM N.length) w = [] ↔ runW (dltB N O ap) (fstB N.length) w = [] := by
 obtain ⟨⟨h1, h2⟩, h3, _⟩ := run_rel (ap := ap) hV hn w hw
 exact rel_nil hn h1 h3 h2
def FstR (N O : List (List Int)) (ap : Bool) (k : Nat) (w : List Int) (ok fine : Bool) : Prop :=
 fine = false ∨ (fine = true ∧ ok = false ∧ ∀ v : List Int, (∀ c ∈ v, 0 ≤ c ∧ c < (k : Int)) → runW (dltM N O ap) (begM N.length) v ≠ []) ∨
 (fine = true ∧ ok = true ∧ (∀ c ∈ w, 0 ≤ c ∧ c < (k : Int)) ∧ runW (dltM N O ap) (begM N.length) w = [] ∧ ∀ v : List Int, (∀ c ∈ v, 0 ≤ c ∧ c < (k : Int)) → runW (dltM N O ap) (begM N.length) v = [] → leB w v)
theorem FstR.sea (hV : VM N O k) (hk : (N.getD 0 []).length = k) (hn : N.length ≤ 7) {w w' : List Int} {e : Int} {ok : Bool} (h : FstR N O ap k w' ok true) (g : SeaR N O ap w e) : (ok = false ∧ e = 4 ∧ w = []) ∨ (ok = true ∧ e = 0 ∧ w = w') := by
 unfold SeaR at g
 rw [hk] at g
 have hv := hV.ok
 rcases h with h | ⟨_, h1, h2⟩ | ⟨_, h1, h2, h3, h4⟩
 ·cases h
 ·refine .inl ⟨h1, ?_⟩
  rcases g with ⟨g, _⟩ | ⟨_, g, _⟩ | ⟨_, _, g1, g2, _⟩ | ⟨_, _, _, g2, g3, _⟩
  ·rw [hv] at g; cases g
  ·omega
  ·exact ⟨g1, g2⟩
  ·exact absurd ((run_nil hV hn g2).2 (ok_run hV g2 g3)) (h2 w g2)
 ·refine .inr ⟨h1, ?_⟩
  have h5 : okW N O ap w' := run_ok hV h2 ((run_nil hV hn h2).1 h3) fun v hv hr => h4 v hv ((run_nil hV hn hv).2 hr)
  rcases g with ⟨g, _⟩ | ⟨_, g, _⟩ | ⟨_, _, _, _, g⟩ | ⟨_, _, g1, g2, g3, g4⟩
  ·rw [hv] at g; cases g
  ·omega
  ·exact absurd h5 (g w' h2)
  ·refine ⟨g1, comesB_total (h4 w g2 ((run_nil hV hn g2).2 (ok_run hV g2 g3))) (g4 w' h2 h5)⟩
end
end Go.AM
end
