/-
  Plain facts on keys of blocks and on the search for the first shortest word; no program in sight.
-/
import Derived.Test.YtkpoffjimfiabaaGreatP1
import Derived.Lib.Bytealg
import Derived.Laws.Strings
import Derived.Test.YtkpoffjimfiabaaGreatP3
import Derived.Test.YtkpoffjimfiabaaGreatP2
set_option linter.unusedVariables false
set_option linter.unusedSimpArgs false
set_option linter.unusedSectionVars false
set_option linter.unnecessarySimpa false

section
namespace Go.AM
open Go
def bs (l : List UInt8) : ByteArray := ⟨l.toArray⟩
theorem bs_size (l : List UInt8) : (bs l).size = l.length := by simp [bs, ByteArray.size]
theorem bs_data (l : List UInt8) : (bs l).data.toList = l := by simp [bs]
theorem bs_append (a b : List UInt8) : bs a ++ bs b = bs (a ++ b) := by
 have : (bs a ++ bs b).data = (bs (a ++ b)).data := by simp [bs]
 exact ByteArray.ext this
theorem bs_extract (l : List UInt8) (a b : Nat) : (bs l).extract a b = bs ((l.take b).drop a) := by
 refine ByteArray.ext ?_
 simp [bs, List.drop_take]
theorem bs_toList (l : List UInt8) : (bs l).toList = l := by
 rw [ByteArray.toList_eq, bs_data]
theorem beq_bytes (a b : List UInt8) : (a == b) = decide (a = b) := by
 rw [Bool.eq_iff_iff]; simp
theorem bytesOf_bs (l : List Int) : bytesOf l = bs (l.map fun n => UInt8.ofNat n.toNat) := rfl
theorem sbyte_bs (l : List UInt8) (i : Int) : sbyte (bs l) i = ((l.getD i.toNat 0).toNat : Int) := by simp [sbyte, bs]
theorem mk_toList (l : List UInt8) : (ByteArray.mk l.toArray).toList = l := by rw [ByteArray.toList_eq]
theorem empty_data : ByteArray.empty.data.toList = [] := rfl
theorem mk_bs (l : List UInt8) : ByteArray.mk l.toArray = bs l := rfl
attribute [push_cast] bs_size bs_data mk_toList empty_data mk_bs bs_append bs_extract bs_toList beq_bytes bytesOf_bs sbyte_bs
end Go.AM
end

section
namespace Go.AM
open Go
def kB (b : List Int) : List Int := b.map (fun s => s + 1) ++ [0]
def kL (L : List (List Int)) : List Int := L.flatMap kB
theorem kL_snoc {L : List (List Int)} {i : Nat} (h : i < L.length) : kL (L.take (i + 1)) = kL (L.take i) ++ kB (L.getD i []) := by
 have e : L.take (i + 1) = L.take i ++ [L.getD i []] := by rw [List.take_succ_eq_append_getElem h]; simp [List.getD, h]
 rw [e]; simp [kL]
theorem kL_len : ∀ L : List (List Int), (kL L).length ≤ tot L + L.length
 | [] => by simp [kL]
 | b :: L => by
  have := kL_len L
  unfold kL at this ⊢
  rw [List.flatMap_cons, List.length_append, tot_cons, List.length_cons]
  simp only [kB, List.length_append, List.length_map, List.length_singleton]
  omega
theorem kL_inj : ∀ {L M : List (List Int)}, (∀ b ∈ L, ∀ s ∈ b, 0 ≤ s) → (∀ b ∈ M, ∀ s ∈ b, 0 ≤ s) → kL L = kL M → L = M
 | [], [], _, _, _ => rfl
 | [], b :: M, _, _, h => by simp [kL, kB] at h
 | b :: L, [], _, _, h => by simp [kL, kB] at h
 | b :: L, c :: M, hL, hM, h => by
  have go : ∀ (b c : List Int) (x y : List Int), (∀ s ∈ b, 0 ≤ s) → (∀ s ∈ c, 0 ≤ s) → b.map (fun s => s + 1) ++ 0 :: x = c.map (fun s => s + 1) ++ 0 :: y → b = c ∧ x = y := by
   intro b
   induction b with
   | nil =>
    intro c x y _ hc h
    cases c with
    | nil => simpa using h
    | cons t c =>
     have := hc t (by simp)
     simp at h
     omega
   | cons s b ih =>
    intro c x y hb hc h
    cases c with
    | nil =>
     have := hb s (by simp)
     simp at h
     omega
    | cons t c =>
     simp only [List.map_cons, List.cons_append, List.cons.injEq] at h
     obtain ⟨h1, h2⟩ := h
     obtain ⟨h3, h4⟩ := ih c x y (fun s hs => hb s (by simp [hs])) (fun s hs => hc s (by simp [hs])) h2
     exact ⟨by rw [h3, show s = t by omega], h4⟩
  have h' : b.map (fun s => s + 1) ++ 0 :: kL L = c.map (fun s => s + 1) ++ 0 :: kL M := by simpa [kL, kB] using h
  obtain ⟨h1, h2⟩ := go b c _ _ (hL b (by simp)) (hM c (by simp)) h'
  rw [h1, kL_inj (fun b hb => hL b (by simp [hb])) (fun b hb => hM b (by simp [hb])) h2]
end Go.AM
end

section
namespace Go.AM
open Go
def dltB (N O : List (List Int)) (tl : Bool) (B : List (List Int)) (x : Nat) : List (List Int) := if tl = true ∧ stpW N O B x = false then B else stpB N O B x
def dig : List Int → Nat
 | [] => 0
 | c :: l => (c.toNat + 1) + 9 * dig l
theorem dig_lt : ∀ l : List Int, (∀ c ∈ l, 0 ≤ c ∧ c ≤ 7) → dig l < 9 ^ l.length
 | [], _ => by simp [dig]
 | c :: l, h => by
  have h1 := dig_lt l (fun c hc => h c (by simp [hc]))
  have h2 := h c (by simp)
  rw [dig, List.length_cons, Nat.pow_succ]
  omega
theorem dig_inj : ∀ l l' : List Int, (∀ c ∈ l, 0 ≤ c ∧ c ≤ 7) → (∀ c ∈ l', 0 ≤ c ∧ c ≤ 7) → dig l = dig l' → l = l'
 | [], [], _, _, _ => rfl
 | [], c :: l, _, _, h => by simp only [dig] at h; omega
 | c :: l, [], _, _, h => by simp only [dig] at h; omega
 | c :: l, d :: l', h, h', e => by
  have h1 := h c (by simp)
  have h2 := h' d (by simp)
  simp only [dig] at e
  have e1 : c = d := by omega
  have e2 : dig l = dig l' := by omega
  rw [e1, dig_inj l l' (fun c hc => h c (by simp [hc])) (fun c hc => h' c (by simp [hc])) e2]
section
variable {N O : List (List Int)} {k : Nat} {tl : Bool}
theorem dlt_ok (hV : VM N O k) {B : List (List Int)} (h : BlkOk N.length B ∧ tot B ≤ N.length) {x : Nat} (hx : x < k) : BlkOk N.length (dltB N O tl B x) ∧ tot (dltB N O tl B x) ≤ N.length := by
 unfold dltB
 split
 ·exact h
 ·exact ⟨h.1.step hV ⟨by omega, by omega⟩, Nat.le_trans (tot_stpB _ _) h.2⟩
theorem ent_ok (hV : VM N O k) {i x : Nat} {q : List (List (List Int)) × Stp} (h : BInv (dltB N O tl) (fstB N.length) k i x q) : ∀ m, m < q.1.length → BlkOk N.length (q.1.getD m (fstB N.length)) ∧ tot (q.1.getD m (fstB N.length)) ≤ N.length := by
 intro m
 induction m using Nat.strongRecOn with
 | _ m ih =>
  intro hm
  by_cases h0 : 0 < m
  ·obtain ⟨j, y, _, h2, h3, _, h5⟩ := h.ent m h0 hm
   rw [h5]
   exact dlt_ok hV (ih j h2 (by omega)) h3
  ·obtain rfl : m = 0 := by omega
   rw [h.zero]
   exact ⟨fst_ok _, tot_fst _⟩
theorem ok_dig {n : Nat} (hn : n ≤ 7) {B : List (List Int)} (h : BlkOk n B ∧ tot B ≤ n) : (∀ c ∈ kL B, 0 ≤ c ∧ c ≤ 7) ∧ (kL B).length ≤ 10 := by
 refine ⟨fun c hc => ?_, ?_⟩
 ·obtain ⟨b, hb, hc⟩ := List.mem_flatMap.1 hc
  unfold kB at hc
  rcases List.mem_append.1 hc with hc | hc
  ·obtain ⟨s, hs, rfl⟩ := List.mem_map.1 hc
   have := h.1.st b hb s hs
   omega
  ·simp at hc; omega
 ·have h1 := kL_len B
  have h2 := tot_two h.1.two
  have := h.2
  omega
theorem sea_len (hV : VM N O k) (hn : N.length ≤ 7) {i x : Nat} {q : List (List (List Int)) × Stp} (h : BInv (dltB N O tl) (fstB N.length) k i x q) : q.1.length ≤ 9 ^ 10 := by
 have hok := ent_ok hV h
 refine pigeon (9 ^ 10) _ (fun m => dig (kL (q.1.getD m (fstB N.length)))) (fun m hm => ?_) fun m m' hm hm' e => ?_
 ·obtain ⟨h1, h2⟩ := ok_dig hn (hok m hm)
  exact Nat.lt_of_lt_of_le (dig_lt _ h1) (Nat.pow_le_pow_right (by omega) h2)
 ·have e2 := dig_inj _ _ (ok_dig hn (hok m hm)).1 (ok_dig hn (hok m' hm')).1 e
  exact h.nodup m m' hm hm' (kL_inj (fun b hb s hs => ((hok m hm).1.st b hb s hs).1) (fun b hb s hs => ((hok m' hm').1.st b hb s hs).1) e2)
def okW (N O : List (List Int)) (tl : Bool) (w : List Int) : Prop := if tl = true then telW N O w else homW N O w
theorem runW_append {σ : Type} (δ : σ → Nat → σ) (s : σ) : ∀ (u v : List Int), runW δ s (u ++ v) = runW δ (runW δ s u) v
 | [], v => rfl
 | x :: u, v => by simp only [List.cons_append, runW]; exact runW_append δ _ u v
theorem run_hom : ∀ w : List Int, (∀ c ∈ w, 0 ≤ c ∧ c < (k : Int)) → runW (dltB N O false) (fstB N.length) w = (aftB N O w).1 := by
 refine snocRec (fun _ => rfl) fun w x ih h => ?_
 have hx := h x (by simp)
 rw [runW_snoc, ih (fun c hc => h c (by simp [hc])), aftB_snoc]
 unfold dltB aftP
 simp only [Bool.false_eq_true, false_and, if_false]
 rw [show ((x.toNat : Nat) : Int) = x by omega]
theorem run_tel : ∀ w : List Int, (∀ c ∈ w, 0 ≤ c ∧ c < (k : Int)) → (aftB N O w).2 = true → runW (dltB N O true) (fstB N.length) w = (aftB N O w).1 := by
 refine snocRec (fun _ _ => rfl) fun w x ih h h2 => ?_
 have hx := h x (by simp)
 rw [aftB_snoc] at h2 ⊢
 unfold aftP at h2 ⊢
 simp only [Bool.and_eq_true] at h2
 rw [runW_snoc, ih (fun c hc => h c (by simp [hc])) h2.1]
 unfold dltB
 rw [show ((x.toNat : Nat) : Int) = x by omega, if_neg (by rw [h2.2]; simp)]
theorem ok_run (hV : VM N O k) {w : List Int} (hw : ∀ c ∈ w, 0 ≤ c ∧ c < (k : Int)) (h : okW N O tl w) : runW (dltB N O tl) (fstB N.length) w = [] := by
 cases tl with
 | false =>
  rw [run_hom w hw]
  exact (hom_iff hV hw).2 h
 | true =>
  obtain ⟨h1, h2⟩ := (tel_iff hV hw).2 h
  rw [run_tel w hw h1, h2]
theorem run_ok (hV : VM N O k) {w : List Int} (hw : ∀ c ∈ w, 0 ≤ c ∧ c < (k : Int)) (h : runW (dltB N O tl) (fstB N.length) w = []) (hmin : ∀ v : List Int, (∀ c ∈ v, 0 ≤ c ∧ c < (k : Int)) → runW (dltB N O tl) (fstB N.length) v = [] → leB w v) : okW N O tl w := by
 cases tl with
 | false =>
  rw [run_hom w hw] at h
  exact (hom_iff hV hw).1 h
 | true =>
  have key : ∀ u : List Int, ∀ v, w = u ++ v → (aftB N O u).2 = true := by
   refine snocRec (fun _ _ => rfl) fun u x ih v e => ?_
   have hu : ∀ c ∈ u, 0 ≤ c ∧ c < (k : Int) := fun c hc => hw c (by rw [e]; simp [hc])
   have hx := hw x (by rw [e]; simp)
   have h1 := ih (x :: v) (by rw [e]; simp)
   rw [aftB_snoc]
   unfold aftP
   simp only [h1, Bool.true_and]
   cases hs : stpW N O (aftB N O u).1 x with
   | true => rfl
   | false =>
    exfalso
    have hr := run_tel u hu h1
    have hd : dltB N O true (aftB N O u).1 x.toNat = (aftB N O u).1 := by
     unfold dltB
     rw [show ((x.toNat : Nat) : Int) = x by omega, if_pos ⟨rfl, hs⟩]
    have h2 := hmin (u ++ v) (fun c hc => hw c (by
     rw [e]
     rcases List.mem_append.1 hc with hc | hc <;> simp [hc])) (by
     rw [e, List.append_assoc, runW_append, hr] at h
     rw [runW_append, hr]
     rw [List.singleton_append, runW, hd] at h
     exact h)
    unfold leB comesB at h2
    rw [e] at h2
    simp only [List.length_append, List.length_cons, List.length_nil] at h2
    rw [if_neg (by omega)] at h2
    simp at h2
  have h1 := key w [] (by simp)
  rw [run_tel w hw h1] at h
  exact (tel_iff hV hw).1 ⟨h1, h⟩
def finB (N O : List (List Int)) (tl : Bool) (k K : Nat) : List (List (List Int)) × Stp := bfs (dltB N O tl) (fstB N.length) k K
theorem fin_done (hV : VM N O k) (hn : N.length ≤ 7) {K : Nat} (hK : K = 9 ^ 10) : Done (dltB N O tl) (fstB N.length) k (finB N O tl k K) := by
 have h := bfs_inv (δ := dltB N O tl) (s0 := fstB N.length) (k := k) K
 have hl := sea_len hV hn h
 unfold finB
 generalize bfs (dltB N O tl) (fstB N.length) k K = q at *
 have h2 : BInv (dltB N O tl) (fstB N.length) k q.1.length 0 q := by
  refine ⟨h.len, h.pos, h.zero, h.root, fun m h0 h1 => ?_, h.nodup, h.sorted, fun j y hj hy hc => h.closed j y hj hy (.inl (by omega))⟩
  obtain ⟨j, y, a1, a2, a3, _, a5⟩ := h.ent m h0 h1
  exact ⟨j, y, a1, a2, a3, .inl (by omega), a5⟩
 exact ⟨h2⟩
def SeaR (N O : List (List Int)) (tl : Bool) (w : List Int) (e : Int) : Prop :=
 (vmB N O = false ∧ e = 1 ∧ w = []) ∨ (vmB N O = true ∧ 7 < N.length ∧ e = 3 ∧ w = []) ∨
 (vmB N O = true ∧ N.length ≤ 7 ∧ e = 4 ∧ w = [] ∧ ∀ v : List Int, (∀ c ∈ v, 0 ≤ c ∧ c < ((N.getD 0 []).length : Int)) → ¬ okW N O tl v) ∨
 (vmB N O = true ∧ N.length ≤ 7 ∧ e = 0 ∧ (∀ c ∈ w, 0 ≤ c ∧ c < ((N.getD 0 []).length : Int)) ∧ okW N O tl w ∧ ∀ v : List Int, (∀ c ∈ v, 0 ≤ c ∧ c < ((N.getD 0 []).length : Int)) → okW N O tl v → leB w v)
theorem sea_found (hV : VM N O k) {q : List (List (List Int)) × Stp} (h : Done (dltB N O tl) (fstB N.length) k q) {m : Nat} (hm : m < q.1.length) (he : q.1.getD m (fstB N.length) = []) (hf : ∀ j, j < m → q.1.getD j (fstB N.length) ≠ []) :
  (∀ c ∈ wordOf q.2 m, 0 ≤ c ∧ c < (k : Int)) ∧ okW N O tl (wordOf q.2 m) ∧ ∀ v : List Int, (∀ c ∈ v, 0 ≤ c ∧ c < (k : Int)) → okW N O tl v → leB (wordOf q.2 m) v := by
 obtain ⟨h1, h2⟩ := h.reach m hm
 rw [he] at h1
 have h3 : ∀ v : List Int, (∀ c ∈ v, 0 ≤ c ∧ c < (k : Int)) → runW (dltB N O tl) (fstB N.length) v = [] → leB (wordOf q.2 m) v := fun v hv hr => by
  obtain ⟨m', a1, a2, a3⟩ := h.first v hv
  rw [hr] at a2
  by_cases hlt : m' < m
  ·exact absurd a2.symm (hf m' hlt)
  ·by_cases e : m' = m
   ·rw [← e]; exact a3
   ·exact leB_trans (leB_of (h.inv.sorted m m' (by omega) a1)) a3
 exact ⟨h2, run_ok hV h2 h1 h3, fun v hv ho => h3 v hv (ok_run hV hv ho)⟩
theorem sea_none (hV : VM N O k) {q : List (List (List Int)) × Stp} (h : Done (dltB N O tl) (fstB N.length) k q) (hf : ∀ j, j < q.1.length → q.1.getD j (fstB N.length) ≠ []) (v : List Int) (hv : ∀ c ∈ v, 0 ≤ c ∧ c < (k : Int)) : ¬ okW N O tl v := fun ho => by
 obtain ⟨m', a1, a2, _⟩ := h.first v hv
 rw [ok_run hV hv ho] at a2
 exact hf m' a1 a2.symm
end
def kMap (L : List (List (List Int))) : List (List Int × Bool) := L.map fun B => (kL B, true)
def placeC (B : List (List Int)) (z : Bool) (s : Int × Int) : List AV := [.pay (.rows B) z, .int .i64 s.1, .int .i64 s.2]
def placeL (q : List (List (List Int)) × Stp) (Z : List Bool) : List (List AV) := (List.range q.1.length).map fun i => placeC (q.1.getD i []) (Z.getD i false) (q.2.getD i (-1, 0))
theorem placeL_len (q : List (List (List Int)) × Stp) (Z : List Bool) : (placeL q Z).length = q.1.length := by simp [placeL]
theorem placeL_get {q : List (List (List Int)) × Stp} {Z : List Bool} {i : Nat} {d : List (List Int)} (h : i < q.1.length) : (placeL q Z).getD i [] = [.pay (.rows (q.1.getD i d)) (Z.getD i false), .int .i64 (q.2.getD i (-1, 0)).1, .int .i64 (q.2.getD i (-1, 0)).2] := by
 simp [placeL, placeC, List.getD, h]
theorem placeL_app {q : List (List (List Int)) × Stp} {Z : List Bool} {B : List (List Int)} {z : Bool} {a b : Int} (h : q.2.length = q.1.length) (hZ : Z.length = q.1.length) : placeL q Z ++ [[.pay (.rows B) z, .int .i64 a, .int .i64 b]] = placeL (q.1 ++ [B], q.2 ++ [(a, b)]) (Z ++ [z]) := by
 unfold placeL
 simp only [List.length_append, List.length_singleton, List.range_succ, List.map_append, List.map_cons, List.map_nil]
 congr 1
 ·refine List.map_congr_left fun i hi => ?_
  have hi := List.mem_range.1 hi
  rw [getD_append_left hi, getD_append_left (by omega), getD_append_left (by omega)]
 ·have e1 : (q.1 ++ [B]).getD q.1.length [] = B := getD_append_last
  have e2 : (q.2 ++ [(a, b)]).getD q.1.length (-1, 0) = (a, b) := by rw [← h]; exact getD_append_last
  have e3 : (Z ++ [z]).getD q.1.length false = z := by rw [← hZ]; exact getD_append_last
  rw [e1, e2, e3]; rfl
def nnB (L : List (List (List Int))) : Prop := ∀ B ∈ L, ∀ b ∈ B, ∀ s ∈ b, 0 ≤ s
theorem kMap_find {B : List (List Int)} (hB : ∀ b ∈ B, ∀ s ∈ b, 0 ≤ s) : ∀ (L : List (List (List Int))) (i : Nat), nnB L → (mfindK (kL B) (kMap L) i).isSome = decide (B ∈ L) ∧ ∀ r, mfindK (kL B) (kMap L) i = some r → r.2 = true
 | [], i, _ => by simp [kMap, mfindK]
 | C :: L, i, h => by
  have ih := kMap_find hB L (i + 1) (fun D hD => h D (by simp [hD]))
  simp only [kMap, List.map_cons, mfindK]
  by_cases e : B = C
  ·subst e; simp
  ·have e2 : kL B ≠ kL C := fun e2 => e (kL_inj hB (h C (by simp)) e2)
   simp only [e2, decide_false]
   refine ⟨?_, ih.2⟩
   rw [show mfindK (kL B) (List.map (fun B => (kL B, true)) L) (i + 1) = mfindK (kL B) (kMap L) (i + 1) from rfl, ih.1]
   simp [e]
theorem kMap_get {B : List (List Int)} (hB : ∀ b ∈ B, ∀ s ∈ b, 0 ≤ s) {L : List (List (List Int))} (hL : nnB L) : mgetKB (kL B) (kMap L) = decide (B ∈ L) := by
 obtain ⟨h1, h2⟩ := kMap_find hB L 0 hL
 unfold mgetKB
 cases h : mfindK (kL B) (kMap L) 0 with
 | none => rw [h] at h1; simpa using h1
 | some r =>
  rw [h] at h1
  have := h2 r h
  obtain ⟨a, b⟩ := r
  simp only at this
  subst this
  simpa using h1
theorem kMap_put {B : List (List Int)} (hB : ∀ b ∈ B, ∀ s ∈ b, 0 ≤ s) {L : List (List (List Int))} (hL : nnB L) (h : B ∉ L) : mputK (kL B) true (kMap L) = kMap (L ++ [B]) := by
 obtain ⟨h1, _⟩ := kMap_find hB L 0 hL
 unfold mputK
 cases e : mfindK (kL B) (kMap L) 0 with
 | none => simp [kMap]
 | some r => rw [e] at h1; simp [h] at h1
theorem kMap_byte {L : List (List (List Int))} (hL : ∀ B ∈ L, ∀ c ∈ kL B, 0 ≤ c ∧ c ≤ 7) : keysB (kMap L) := fun x hx c hc => by
 obtain ⟨B, hB, rfl⟩ := List.mem_map.1 hx
 have := hL B hB c hc
 omega
theorem strK_key {B : List (List Int)} (h : ∀ c ∈ kL B, 0 ≤ c ∧ c ≤ 7) : strK (bs ((kL B).map fun x => UInt8.ofNat x.toNat)) = kL B := by
 unfold strK
 rw [bs_data, List.map_map]
 conv => rhs; rw [← List.map_id (kL B)]
 refine List.map_congr_left fun c hc => ?_
 have := h c hc
 show (((UInt8.ofNat c.toNat).toNat : Nat) : Int) = c
 have e : (UInt8.ofNat c.toNat).toNat = c.toNat := by
  simp [UInt8.toNat_ofNat]
  omega
 rw [e]; omega
end Go.AM
end
