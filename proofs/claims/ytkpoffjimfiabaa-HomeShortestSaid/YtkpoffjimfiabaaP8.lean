/-
  Few states have few sets of blocks: the first shortest word is short; no program in sight.
-/
import Derived.Test.YtkpoffjimfiabaaP5
import Derived.Test.YtkpoffjimfiabaaP4
set_option linter.unusedVariables false
set_option linter.unusedSimpArgs false
set_option linter.unusedSectionVars false
set_option linter.unnecessarySimpa false

section
namespace Go.AM
open Go
def maskB : List Int → Nat
 | [] => 0
 | s :: b => 2 ^ s.toNat ||| maskB b
theorem maskB_bit : ∀ (b : List Int), (∀ s ∈ b, 0 ≤ s) → ∀ i : Nat, (maskB b).testBit i = decide ((i : Int) ∈ b)
 | [], _, i => by simp [maskB]
 | s :: b, h, i => by
  have ih := maskB_bit b (fun s hs => h s (by simp [hs])) i
  have h0 := h s (by simp)
  rw [maskB, Nat.testBit_or, ih, Nat.testBit_two_pow, Bool.eq_iff_iff]
  simp only [Bool.or_eq_true, decide_eq_true_eq, List.mem_cons]
  constructor
  ·rintro (h | h)
   ·exact .inl (by omega)
   ·exact .inr h
  ·rintro (h | h)
   ·exact .inl (by omega)
   ·exact .inr h
theorem maskB_lt : ∀ (b : List Int), (∀ s ∈ b, 0 ≤ s ∧ s < 7) → maskB b < 128
 | [], _ => by simp [maskB]
 | s :: b, h => by
  have ih := maskB_lt b (fun s hs => h s (by simp [hs]))
  have h0 := h s (by simp)
  rw [maskB]
  exact Nat.or_lt_two_pow (n := 7) (Nat.pow_lt_pow_right (by omega) (by omega)) ih
def lenM (m : Nat) : Nat := ((List.range 7).filter m.testBit).length
theorem block_of {b : List Int} (hlt : b.Pairwise (· < ·)) (hst : ∀ s ∈ b, 0 ≤ s ∧ s < 7) : b = ((List.range 7).filter (maskB b).testBit).map fun i : Nat => (i : Int) := by
 refine lt_list_ext hlt ?_ fun x => ?_
 ·refine List.pairwise_map.2 ((List.pairwise_lt_range.filter _).imp fun {a b} h => ?_)
  omega
 ·rw [List.mem_map]
  constructor
  ·intro hx
   have := hst x hx
   refine ⟨x.toNat, List.mem_filter.2 ⟨List.mem_range.2 (by omega), ?_⟩, by omega⟩
   rw [maskB_bit b (fun s hs => (hst s hs).1), decide_eq_true_eq, show ((x.toNat : Nat) : Int) = x by omega]
   exact hx
  ·rintro ⟨i, hi, rfl⟩
   have := (List.mem_filter.1 hi).2
   rw [maskB_bit b (fun s hs => (hst s hs).1), decide_eq_true_eq] at this
   exact this
theorem lenM_mask {b : List Int} (hlt : b.Pairwise (· < ·)) (hst : ∀ s ∈ b, 0 ≤ s ∧ s < 7) : lenM (maskB b) = b.length := by
 have h := congrArg List.length (block_of hlt hst)
 rw [List.length_map] at h
 exact h.symm
theorem mask_inj {b c : List Int} (hb : b.Pairwise (· < ·)) (hbs : ∀ s ∈ b, 0 ≤ s ∧ s < 7) (hc : c.Pairwise (· < ·)) (hcs : ∀ s ∈ c, 0 ≤ s ∧ s < 7) (h : maskB b = maskB c) : b = c := by
 rw [block_of hb hbs, block_of hc hcs, h]
def rkP (P : Nat → Bool) : Nat → Nat
 | 0 => 0
 | m + 1 => if P m = true then rkP P m + 1 else rkP P m
theorem rkP_mono {P : Nat → Bool} {m n : Nat} (h : m ≤ n) : rkP P m ≤ rkP P n := by
 induction n with
 | zero =>
  obtain rfl : m = 0 := by omega
  exact Nat.le_refl _
 | succ n ih =>
  by_cases e : m = n + 1
  ·rw [e]; exact Nat.le_refl _
  ·have := ih (by omega)
   rw [rkP]
   split <;> omega
theorem rkP_lt {P : Nat → Bool} {m n : Nat} (h : m < n) (hm : P m = true) : rkP P m < rkP P n := by
 have h1 : rkP P (m + 1) = rkP P m + 1 := by rw [rkP, if_pos hm]
 have h2 := rkP_mono (P := P) (show m + 1 ≤ n from h)
 omega
theorem rkP_inj {P : Nat → Bool} {m n : Nat} (hm : P m = true) (hn : P n = true) (h : rkP P m = rkP P n) : m = n := by
 rcases Nat.lt_trichotomy m n with g | g | g
 ·have := rkP_lt g hm; omega
 ·exact g
 ·have := rkP_lt g hn; omega
def r2 (b : List Int) : Nat := rkP (fun m => lenM m == 2) (maskB b)
def r3 (b : List Int) : Nat := rkP (fun m => lenM m == 2 || lenM m == 3) (maskB b)
def rA (b : List Int) : Nat := rkP (fun m => decide (2 ≤ lenM m)) (maskB b)
theorem n2 : rkP (fun m => lenM m == 2) 128 = 21 := by decide +kernel
theorem n3 : rkP (fun m => lenM m == 2 || lenM m == 3) 128 = 56 := by decide +kernel
theorem nA : rkP (fun m => decide (2 ≤ lenM m)) 128 = 120 := by decide +kernel
def blk7 (b : List Int) : Prop := b.Pairwise (· < ·) ∧ (∀ s ∈ b, 0 ≤ s ∧ s < 7) ∧ 2 ≤ b.length
theorem r2_lt {b : List Int} (h : blk7 b) (hl : b.length = 2) : r2 b < 21 := by
 rw [← n2]
 exact rkP_lt (maskB_lt b h.2.1) (by rw [lenM_mask h.1 h.2.1, hl]; rfl)
theorem r2_inj {b c : List Int} (h : blk7 b) (hl : b.length = 2) (g : blk7 c) (gl : c.length = 2) (e : r2 b = r2 c) : b = c :=
 mask_inj h.1 h.2.1 g.1 g.2.1 (rkP_inj (by rw [lenM_mask h.1 h.2.1, hl]; rfl) (by rw [lenM_mask g.1 g.2.1, gl]; rfl) e)
theorem r3_ok {b : List Int} (h : blk7 b) (hl : b.length ≤ 3) : (lenM (maskB b) == 2 || lenM (maskB b) == 3) = true := by
 rw [lenM_mask h.1 h.2.1]
 have := h.2.2
 rcases (show b.length = 2 ∨ b.length = 3 by omega) with e | e <;> rw [e] <;> rfl
theorem r3_lt {b : List Int} (h : blk7 b) (hl : b.length ≤ 3) : r3 b < 56 := by
 rw [← n3]
 exact rkP_lt (maskB_lt b h.2.1) (r3_ok h hl)
theorem r3_inj {b c : List Int} (h : blk7 b) (hl : b.length ≤ 3) (g : blk7 c) (gl : c.length ≤ 3) (e : r3 b = r3 c) : b = c :=
 mask_inj h.1 h.2.1 g.1 g.2.1 (rkP_inj (r3_ok h hl) (r3_ok g gl) e)
theorem rA_ok {b : List Int} (h : blk7 b) : decide (2 ≤ lenM (maskB b)) = true := by
 rw [lenM_mask h.1 h.2.1]; exact decide_eq_true h.2.2
theorem rA_lt {b : List Int} (h : blk7 b) : rA b < 120 := by
 rw [← nA]
 exact rkP_lt (maskB_lt b h.2.1) (rA_ok h)
theorem rA_inj {b c : List Int} (h : blk7 b) (g : blk7 c) (e : rA b = rA c) : b = c :=
 mask_inj h.1 h.2.1 g.1 g.2.1 (rkP_inj (rA_ok h) (rA_ok g) e)
def triC (p q r : List Int) : Nat := (r2 p * 21 + r2 q) * 56 + r3 r
def ordT (a b c : List Int) : List Int × List Int × List Int := if 3 ≤ a.length then (b, c, a) else if 3 ≤ b.length then (a, c, b) else (a, b, c)
def codeB : List (List Int) → Nat
 | [] => 0
 | [a] => 1 + rA a
 | [a, b] => 121 + (rA a * 120 + rA b)
 | [a, b, c] => 14521 + triC (ordT a b c).1 (ordT a b c).2.1 (ordT a b c).2.2
 | _ => 0
theorem ordT_ok {a b c : List Int} (ha : blk7 a) (hb : blk7 b) (hc : blk7 c) (hl : a.length + b.length + c.length ≤ 7) : (blk7 (ordT a b c).1 ∧ (ordT a b c).1.length = 2) ∧ (blk7 (ordT a b c).2.1 ∧ (ordT a b c).2.1.length = 2) ∧ (blk7 (ordT a b c).2.2 ∧ (ordT a b c).2.2.length ≤ 3) ∧ ∀ x, (x = (ordT a b c).1 ∨ x = (ordT a b c).2.1 ∨ x = (ordT a b c).2.2) ↔ x ∈ [a, b, c] := by
 have h1 := ha.2.2
 have h2 := hb.2.2
 have h3 := hc.2.2
 unfold ordT
 split
 ·exact ⟨⟨hb, by show b.length = 2; omega⟩, ⟨hc, by show c.length = 2; omega⟩, ⟨ha, by show a.length ≤ 3; omega⟩, fun x => by
   show (x = b ∨ x = c ∨ x = a) ↔ _
   simp only [List.mem_cons, List.not_mem_nil, or_false]
   constructor
   ·rintro (h | h | h) <;> simp [h]
   ·rintro (h | h | h) <;> simp [h]⟩
 ·split
  ·exact ⟨⟨ha, by show a.length = 2; omega⟩, ⟨hc, by show c.length = 2; omega⟩, ⟨hb, by show b.length ≤ 3; omega⟩, fun x => by
    show (x = a ∨ x = c ∨ x = b) ↔ _
    simp only [List.mem_cons, List.not_mem_nil, or_false]
    constructor
    ·rintro (h | h | h) <;> simp [h]
    ·rintro (h | h | h) <;> simp [h]⟩
  ·exact ⟨⟨ha, by show a.length = 2; omega⟩, ⟨hb, by show b.length = 2; omega⟩, ⟨hc, by show c.length ≤ 3; omega⟩, fun x => by
    show (x = a ∨ x = b ∨ x = c) ↔ _
    simp only [List.mem_cons, List.not_mem_nil, or_false]⟩
def few7 (L : List (List Int)) : Prop := (∀ b ∈ L, blk7 b) ∧ tot L ≤ 7 ∧ SS L
theorem tot3 (a b c : List Int) : tot [a, b, c] = a.length + b.length + c.length := by simp [tot]; omega
theorem few_len {L : List (List Int)} (h : few7 L) : L.length ≤ 3 := by
 have := tot_two (l := L) (fun b hb => (h.1 b hb).2.2)
 have := h.2.1
 omega
theorem codeB_lt {L : List (List Int)} (h : few7 L) : codeB L < 39217 := by
 have hl := few_len h
 match L, h, hl with
 | [], _, _ => simp [codeB]
 | [a], h, _ =>
  have := rA_lt (h.1 a (by simp))
  simp only [codeB]; omega
 | [a, b], h, _ =>
  have h1 := rA_lt (h.1 a (by simp))
  have h2 := rA_lt (h.1 b (by simp))
  simp only [codeB]; omega
 | [a, b, c], h, _ =>
  have ht := h.2.1
  rw [tot3] at ht
  obtain ⟨⟨p1, p2⟩, ⟨q1, q2⟩, ⟨r1, r2'⟩, _⟩ := ordT_ok (h.1 a (by simp)) (h.1 b (by simp)) (h.1 c (by simp)) ht
  have h1 := r2_lt p1 p2
  have h2 := r2_lt q1 q2
  have h3 := r3_lt r1 r2'
  simp only [codeB, triC]; omega
theorem codeB_inj {L M : List (List Int)} (h : few7 L) (g : few7 M) (e : codeB L = codeB M) : L = M := by
 have hl := few_len h
 have gl := few_len g
 match L, h, hl, M, g, gl, e with
 | [], _, _, [], _, _, _ => rfl
 | [], _, _, [x], _, _, e => simp only [codeB] at e; omega
 | [], _, _, [x, y], _, _, e => simp only [codeB] at e; omega
 | [], _, _, [x, y, z], _, _, e => simp only [codeB] at e; omega
 | [a], h, _, [], _, _, e => simp only [codeB] at e; omega
 | [a], h, _, [x], g, _, e =>
  simp only [codeB] at e
  rw [rA_inj (h.1 a (by simp)) (g.1 x (by simp)) (by omega)]
 | [a], h, _, [x, y], g, _, e =>
  have := rA_lt (h.1 a (by simp))
  simp only [codeB] at e; omega
 | [a], h, _, [x, y, z], g, _, e =>
  have := rA_lt (h.1 a (by simp))
  simp only [codeB] at e; omega
 | [a, b], h, _, [], _, _, e => simp only [codeB] at e; omega
 | [a, b], h, _, [x], g, _, e =>
  have := rA_lt (g.1 x (by simp))
  simp only [codeB] at e; omega
 | [a, b], h, _, [x, y], g, _, e =>
  have h1 := rA_lt (h.1 a (by simp))
  have h2 := rA_lt (h.1 b (by simp))
  have h3 := rA_lt (g.1 x (by simp))
  have h4 := rA_lt (g.1 y (by simp))
  simp only [codeB] at e
  rw [rA_inj (h.1 a (by simp)) (g.1 x (by simp)) (by omega), rA_inj (h.1 b (by simp)) (g.1 y (by simp)) (by omega)]
 | [a, b], h, _, [x, y, z], g, _, e =>
  have h1 := rA_lt (h.1 a (by simp))
  have h2 := rA_lt (h.1 b (by simp))
  simp only [codeB] at e; omega
 | [a, b, c], h, _, [], _, _, e => simp only [codeB] at e; omega
 | [a, b, c], h, _, [x], g, _, e =>
  have := rA_lt (g.1 x (by simp))
  simp only [codeB] at e; omega
 | [a, b, c], h, _, [x, y], g, _, e =>
  have h1 := rA_lt (g.1 x (by simp))
  have h2 := rA_lt (g.1 y (by simp))
  simp only [codeB] at e; omega
 | [a, b, c], h, _, [x, y, z], g, _, e =>
  have ht := h.2.1
  have gt := g.2.1
  rw [tot3] at ht gt
  obtain ⟨⟨p1, p2⟩, ⟨q1, q2⟩, ⟨r1, r2'⟩, hm⟩ := ordT_ok (h.1 a (by simp)) (h.1 b (by simp)) (h.1 c (by simp)) ht
  obtain ⟨⟨s1, s2⟩, ⟨t1, t2⟩, ⟨u1, u2⟩, gm⟩ := ordT_ok (g.1 x (by simp)) (g.1 y (by simp)) (g.1 z (by simp)) gt
  have h1 := r2_lt p1 p2
  have h2 := r2_lt q1 q2
  have h3 := r3_lt r1 r2'
  have g1 := r2_lt s1 s2
  have g2 := r2_lt t1 t2
  have g3 := r3_lt u1 u2
  simp only [codeB, triC] at e
  have e1 := r2_inj p1 p2 s1 s2 (by omega)
  have e2 := r2_inj q1 q2 t1 t2 (by omega)
  have e3 := r3_inj r1 r2' u1 u2 (by omega)
  exact SS.ext h.2.2 g.2.2 fun w => by rw [← hm, ← gm, e1, e2, e3]
theorem BlkOk.few7 {n : Nat} (hn : n ≤ 7) {L : List (List Int)} (h : BlkOk n L) (ht : tot L ≤ n) : few7 L :=
 ⟨fun b hb => ⟨h.lt b hb, fun s hs => by have := h.st b hb s hs; omega, h.two b hb⟩, by omega, h.ss⟩
section
variable {N O : List (List Int)} {k : Nat} {tl : Bool}
theorem sea_few (hV : VM N O k) (hn : N.length ≤ 7) {i x : Nat} {q : List (List (List Int)) × Stp} (h : BInv (dltB N O tl) (fstB N.length) k i x q) : q.1.length ≤ 39217 := by
 have hok := ent_ok hV h
 refine pigeon 39217 _ (fun m => codeB (q.1.getD m (fstB N.length))) (fun m hm => codeB_lt ((hok m hm).1.few7 hn (hok m hm).2)) fun m m' hm hm' e => ?_
 exact h.nodup m m' hm hm' (codeB_inj ((hok m hm).1.few7 hn (hok m hm).2) ((hok m' hm').1.few7 hn (hok m' hm').2) e)
theorem sea_short (hV : VM N O k) (hn : N.length ≤ 7) {w : List Int} (hw : ∀ c ∈ w, 0 ≤ c ∧ c < (k : Int)) (ho : okW N O tl w) (hmin : ∀ v : List Int, (∀ c ∈ v, 0 ≤ c ∧ c < (k : Int)) → okW N O tl v → leB w v) : w.length ≤ 39217 := by
 obtain ⟨K, hK⟩ : ∃ K, K = 9 ^ 10 := ⟨_, rfl⟩
 have hd := fin_done (tl := tl) hV hn hK
 have hlen := sea_few hV hn hd.inv
 by_cases hex : ∃ m, m < (finB N O tl k K).1.length ∧ (finB N O tl k K).1.getD m (fstB N.length) = []
 ·have hfm : ∃ m, m < (finB N O tl k K).1.length ∧ (finB N O tl k K).1.getD m (fstB N.length) = [] ∧ ∀ j, j < m → (finB N O tl k K).1.getD j (fstB N.length) ≠ [] := by
   obtain ⟨m, hm⟩ := hex
   induction m using Nat.strongRecOn with
   | _ m ih =>
    by_cases h : ∃ j, j < m ∧ (finB N O tl k K).1.getD j (fstB N.length) = []
    ·obtain ⟨j, hj, he⟩ := h
     exact ih j hj ⟨by omega, he⟩
    ·exact ⟨m, hm.1, hm.2, fun j hj he => h ⟨j, hj, he⟩⟩
  obtain ⟨m, h1, h2, h3⟩ := hfm
  obtain ⟨f1, f2, _⟩ := sea_found hV hd h1 h2 h3
  have h4 := leB_len (hmin _ f1 f2)
  have h5 := wordOf_len hd.inv.tree m (by rw [hd.inv.len]; exact h1)
  omega
 ·exact absurd ho (sea_none hV hd (fun j hj he => hex ⟨j, hj, he⟩) w hw)
end
end Go.AM
end
