/-
  Contracts of sorting in place and of lent arguments; conditions in each statement.
-/
import Derived.Test.YtkpoffjimfiabaaGreatF5
import Derived.Test.YtkpoffjimfiabaaGreatP3
import Derived.Shelf.SlSortCmp.Whole1
set_option linter.unusedVariables false
set_option linter.unusedSimpArgs false
set_option linter.unusedSectionVars false
set_option linter.unnecessarySimpa false

section
namespace Go.AM
open Go Go.Sort Go.Proofs
theorem PV.ints_len {w : World} {S : CellSet} {l : List Int} {z : Bool} {v : Value} (h : PV w S (.pay (.ints .i64 l) z) v) : ∃ a cap, v = .slice a l.length cap := by
 cases h with
 | pay ad vs hlen => exact ⟨_, _, by rw [← hlen]; rfl⟩
theorem PV.ints_unique {w : World} {S S' : CellSet} {l l' : List Int} {z z' : Bool} {v : Value} (h : PV w S (.pay (.ints .i64 l) z) v) (h' : PV w S' (.pay (.ints .i64 l') z') v) : l = l' := by
 cases h with
 | pay ad vs hlen hcap hwf hnz had hsp hc hS hr =>
  cases h' with
  | pay ad' vs' hlen' hcap' hwf' hnz' had' hsp' hc' hS' hr' =>
   have e1 : l.length = _ := hlen
   have e2 : l'.length = _ := hlen'
   refine List.ext_getElem (e1.trans e2.symm) fun j h1 h2 => ?_
   have hj := e1 ▸ h1
   have ea : ad = ad' := Option.some.inj ((had (by omega)).symm.trans (had' (by omega)))
   subst ea
   have g1 := hc j 0 hj (Nat.lt_succ_self 0)
   have g2 := hc' j 0 hj (Nat.lt_succ_self 0)
   have ev : vs j 0 = vs' j 0 := Option.some.inj (g1.symm.trans g2)
   have p1 := hr j 0 (Nat.lt_succ_self 0) hj
   have p2 := hr' j 0 (Nat.lt_succ_self 0) hj
   simp only [Pay.at, List.getElem_cons_zero] at p1 p2
   rw [ev] at p1
   have q1 : l.getD j 0 = l[j] := by simp [List.getD, h1]
   have q2 : l'.getD j 0 = l'[j] := by simp [List.getD, h2]
   rw [q1] at p1
   rw [q2] at p2
   generalize l[j] = n1 at *
   generalize l'[j] = n2 at *
   generalize vs' j 0 = v at *
   cases p1; cases p2; rfl
abbrev RowVal (w : World) (S : CellSet) (B : Nat) : Type := { v : Value // ∃ l : List Int, l.length ≤ B ∧ PV w S (.pay (.ints .i64 l) false) v }
theorem rowVal_nil (w : World) (S : CellSet) (B : Nat) : ∃ l : List Int, l.length ≤ B ∧ PV w S (.pay (.ints .i64 l) false) (.slice none 0 0) :=
 ⟨[], Nat.zero_le _, .pay ⟨0, 0, none⟩ (fun _ _ => undef) rfl (Nat.le_refl _) (Pay.wf_ints _ _) (fun h => by cases h) (fun h => absurd rfl h) rfl (fun j c h => absurd h (Nat.not_lt_zero _)) (fun j c h => absurd h (Nat.not_lt_zero _)) (fun j c _ h => absurd h (Nat.not_lt_zero _))⟩
instance (w : World) (S : CellSet) (B : Nat) : Inhabited (RowVal w S B) := ⟨⟨.slice none 0 0, rowVal_nil w S B⟩⟩
noncomputable def rdV {w : World} {S : CellSet} {B : Nat} (x : RowVal w S B) : List Int := x.2.choose
theorem rdV_len {w : World} {S : CellSet} {B : Nat} (x : RowVal w S B) : (rdV x).length ≤ B := x.2.choose_spec.1
theorem rdV_PV {w : World} {S : CellSet} {B : Nat} (x : RowVal w S B) : PV w S (.pay (.ints .i64 (rdV x)) false) x.1 := x.2.choose_spec.2
theorem rdV_eq {w : World} {S : CellSet} {B : Nat} (x : RowVal w S B) {l : List Int} {z : Bool} (h : PV w S (.pay (.ints .i64 l) z) x.1) : rdV x = l := (rdV_PV x).ints_unique h
def vlV {w : World} {S : CellSet} {B : Nat} (x : RowVal w S B) : Value := x.1
theorem vlV_one {w : World} {S : CellSet} {B : Nat} : OneCell (vlV : RowVal w S B → Value) := fun x => by
 obtain ⟨a, cap, e⟩ := (rdV_PV x).ints_len
 show x.1.oneCell' = true
 rw [e]; rfl
theorem FR.rowRow {w : World} {S0 : CellSet} {β : Nat → Nat → Option Nat} {L : List (List Int)} {ai : AI} {vs : Array Value} {args : List AV} {B : Nat} (h0 : args[0]? = some (.own 0)) (hB : ∀ r ∈ L, r.length ≤ B)
  (hfr : FR ⟨w, S0, ownB β⟩ β ⟨args.length, enumE 0 args, [.arr (.rows L) ai]⟩ vs w) :
  ∃ a cap, vs[0]! = .slice a L.length cap ∧ L.length ≤ cap ∧ (ai.nz = true → L.length = 0 → a = none) ∧ (β 0 0 = none → L = [] ∧ a = none ∧ cap = 0) ∧
   ∀ b, β 0 0 = some b → a = some ⟨b, 0, none⟩ ∧ cap ≤ maxLen ∧ b < w.heap.size ∧ ∃ cur, w.heap[b]? = some (.cells cur ai.e (0, 0)) ∧ cur.size = cap ∧
    ∃ d : Array (RowVal w (fun b o => S0 b o ∨ claim β [.arr (.rows L) ai] b o) B), d.size = L.length ∧ Holds vlV w b 0 d ∧ ∀ j, j < L.length → rdV d[j]! = L.getD j [] := by
 have hsz : vs.size = args.length := hfr.size
 have hal : 0 < args.length := by
  by_cases h : 0 < args.length
  ·exact h
  ·rw [List.getElem?_eq_none (by omega)] at h0; cases h0
 have h := hfr.env 0
 have e1 : getE 0 (enumE 0 args) = .own 0 := by
  cases args with
  | nil => simp at h0
  | cons x r => simp at h0; subst h0; rfl
 have e2 : vs.getD 0 undef = vs[0]! := by rw [getElem!_pos vs 0 (by omega), Array.getD_eq_getD_getElem?, Array.getElem?_eq_getElem (by omega)]; rfl
 simp only [e1, e2] at h
 generalize vs[0]! = v at h
 obtain ⟨o1, o2, o3, o4⟩ := hfr.objs 0 _ rfl
 cases h with
 | pure h => cases h
 | @own i p nz a len cap ho hlen hnz hn hb =>
  simp only [List.getElem?_cons_zero, Option.some.injEq, AObj.arr.injEq] at ho
  obtain ⟨rfl, rfl⟩ := ho
  simp only [Pay.len] at hlen
  subst hlen
  refine ⟨a, cap, rfl, ?_, hnz, fun e => ⟨List.eq_nil_of_length_eq_zero (by simpa [Pay.len] using o2 e), (hn e).1, (hn e).2⟩, fun b e => ?_⟩
  ·cases e : β 0 0 with
   | none => have := o2 e; simp only [Pay.len] at this; omega
   | some b => exact (hb b e).2.1
  ·obtain ⟨h1, h2, h3, h4⟩ := hb b e
   obtain ⟨⟨cur, h5, h6⟩, h7⟩ := o4 b e
   have hsh : cur.size = cap := by simpa [World.shape?, h5, Pay.sz] using h4
   have h8 : ∀ j, ∃ v, j < L.length → w.cell? ⟨b, j, none⟩ = some v ∧ PV w (fun b o => S0 b o ∨ claim β [.arr (.rows L) ai] b o) (.pay (.ints .i64 (L.getD j [])) false) v := fun j => by
    by_cases hj : j < L.length
    ·obtain ⟨v, g1, g2⟩ := h7 j 0 (by simp [Pay.at]) hj
     simp only [Pay.sz, Nat.mul_one, Nat.add_zero] at g1
     exact ⟨v, fun _ => ⟨g1, g2⟩⟩
    ·exact ⟨undef, fun h => absurd h hj⟩
   obtain ⟨V, hV⟩ := Classical.axiomOfChoice h8
   refine ⟨h1, h3, (hfr.rng 0 0 b e).1, cur, h5, hsh, Array.ofFn (n := L.length) (fun j => ⟨V j.1, L.getD j.1 [], hB _ (by simp [List.getD]), (hV j.1 j.2).2⟩), by simp, fun j hj => ?_, fun j hj => ?_⟩
   ·have hj' : j < L.length := by simpa using hj
    refine ⟨?_, by simp [World.frozen?, h5]⟩
    rw [Nat.zero_add, (hV j hj').1, getElem!_pos _ j (by simpa using hj')]
    simp [vlV]
   ·refine rdV_eq _ (z := false) ?_
    rw [getElem!_pos _ j (by simpa using hj)]
    simpa using (hV j hj).2
theorem rowsRow_obj {w' : World} {S : CellSet} {β : Nat → Nat → Option Nat} {objs : List AObj} {L L' : List (List Int)} {ai : AI} (hle : L'.length ≤ L.length) (h1 : β 0 0 = none → L = []) (h2 : ∀ j, β 0 (j + 1) = none)
  (h3 : ∀ b, β 0 0 = some b → ∃ cur, w'.heap[b]? = some (.cells cur ai.e (0, 0)) ∧ L.length ≤ cur.size ∧ ∀ j, j < L'.length → ∃ v, cur[j]? = some v ∧ PV w' S (.pay (.ints .i64 (L'.getD j [])) false) v) :
  ObjOk w' S β objs 0 (.arr (.rows L') ai) := by
 refine ⟨Pay.wf_rows _, fun e => ?_, h2, fun b e => ?_⟩
 ·have := h1 e; subst this; simpa [Pay.len] using hle
 ·obtain ⟨cur, h4, h5, h6⟩ := h3 b e
  refine ⟨⟨cur, h4, by simp only [Pay.len, Pay.sz]; omega⟩, fun j c h hj => ?_⟩
  simp only [Pay.at, List.length_singleton] at h
  have : c = 0 := by omega
  subst this
  simp only [Pay.len] at hj
  obtain ⟨v, g1, g2⟩ := h6 j hj
  exact ⟨v, by simp [World.cell?, h4, Pay.sz, g1], by simp only [Pay.at, List.getElem_cons_zero]; exact g2⟩
theorem gcall_rowsInPlace {P : Program} {y : Yc} {f c : FuncId} {fn : Func} {g : Gh} {L : List (List Int)} {ai : AI} {B : Nat} {Good : List (List Int) → Prop} (hf : P.funcs[f]? = some fn) (hn : (fn.name == "runtime.NumGoroutine") = false) (hb : fn.body.isNone = false)
  (hB : ∀ r ∈ L, r.length ≤ B) (hg0 : L = [] → Good [])
  (hnil : L = [] → ∀ (a : Option Addr) cap w, Calls P f #[.slice a 0 cap, .func (.func c) #[] #[]] w fun e w' => e = .returned (.tuple #[]) ∧ w' = w)
  (hrow : ∀ w (S : CellSet) b cap (d : Array (RowVal w S B)), (∀ b o, S b o → b < w.heap.size) → (∀ o, S b o) → Holds vlV w b 0 d → d.size = L.length → (∀ j, j < L.length → rdV d[j]! = L.getD j []) → b < w.heap.size → L.length ≤ cap →
   Calls P f #[.slice (some ⟨b, 0, none⟩) L.length cap, .func (.func c) #[] #[]] w fun e w' => e = .returned (.tuple #[]) ∧ ∃ (d' : Array (RowVal w S B)) (n : Nat) (os : Array Obj), d'.size = L.length ∧ w' = rowWorld vlV w b n d' os ∧ Good (d'.toList.map rdV)) :
  GCall P y f g [.own 0, .clo c []] [.arr (.rows L) ai] (fun g' r A O => g' = g ∧ r = .tup [] ∧ A = [.own 0, .junk] ∧ ∃ L', L'.length = L.length ∧ Good L' ∧ O = [.arr (.rows L') ai]) := by
 refine ⟨enters_of hf hn hb, fun J hJs hR w S0 β vs hfr hj => callsIn_FW.2 ?_⟩
 obtain ⟨a, cap, hv, hcap, hnz, hno, hso⟩ := FR.rowRow rfl hB hfr
 have hvs : vs = #[.slice a L.length cap, .func (.func c) #[] #[]] := by
  have hs : vs.size = 2 := hfr.size
  have h1 := hfr.env 1
  obtain ⟨l⟩ := vs
  match l, hs with
  | [x, y], _ =>
   simp at hv
   rw [hv]
   simp only [enumE, getE, Nat.beq] at h1
   have e : (#[x, y] : Array Value).getD 1 undef = y := rfl
   rw [e] at h1
   have : y = .func (.func c) #[] #[] := by
    cases h1 with
    | pure h => cases h with
     | @clo f cells vs hl hr => have : vs = #[] := Array.eq_empty_of_size_eq_zero hl.symm; rw [this]
    | @clo f cells vs hl hr => have : vs = #[] := Array.eq_empty_of_size_eq_zero hl.symm; rw [this]
   rw [this]
 subst hvs
 have o3 : ∀ j, β 0 (j + 1) = none := (hfr.objs 0 _ rfl).2.2.1
 by_cases h0 : L = []
 ·subst h0
  refine (hnil rfl a cap w).mono ?_
  rintro e w' ⟨rfl, rfl⟩
  refine GRet.row hJs (p' := .rows []) («as» := [.own 0, .junk]) (r := .tup []) hfr hj ⟨rfl, rfl, rfl, Nat.le_refl _, Nat.le_refl _, fun _ _ _ => rfl⟩ rfl ?_ (.tup rfl (fun c h => absurd h (Nat.not_lt_zero _))) (fun c h => ?_) ⟨rfl, rfl, rfl, [], rfl, hg0 rfl, rfl⟩
  ·refine rowsRow_obj (L := []) (Nat.le_refl _) (fun _ => rfl) o3 (fun b e => ?_)
   obtain ⟨_, _, _, cur, h5, h6, _⟩ := hso b e
   exact ⟨cur, h5, Nat.zero_le _, fun j hj => by simp at hj⟩
  ·match c, h with
   | 0, _ =>
    refine .own rfl rfl hnz (fun e => ⟨(hno e).2.1, (hno e).2.2⟩) (fun b e => ?_)
    obtain ⟨h1, h2, _, cur, h5, h6, _⟩ := hso b e
    exact ⟨h1, Nat.zero_le _, h2, by simp [World.shape?, h5, Pay.sz, h6]⟩
   | 1, _ => exact .pure (.junk _)
 ·cases hβ : β 0 0 with
  | none => exact absurd (hno hβ).1 h0
  | some b =>
   obtain ⟨rfl, hm, hbl, cur, h5, h6, d, hd1, hH, hd2⟩ := hso b hβ
   have hS : ∀ b' o, (S0 b' o ∨ claim β [.arr (.rows L) ai] b' o) → b' < w.heap.size := fun b' o hh => by
    rcases hh with hh | ⟨i, ob, k1, k2⟩
    ·exact (hfr.s0 b' o hh).1
    ·obtain ⟨_, j, hj⟩ := claims_block k2
     exact (hfr.rng _ _ _ hj).1
   refine (hrow w _ b cap d hS (fun o => .inr ⟨0, _, rfl, claims_mk o (by simp) hβ⟩) hH hd1 hd2 hbl hcap).mono ?_
   rintro e w' ⟨rfl, d', n, os, hs', rfl, hgood⟩
   have hat := rowWorld_at vlV (n := n) (d := d') (os := os) h5
   have hst : RowStep w (rowWorld vlV w b n d' os) (β 0 0) := by rw [hβ]; exact rowWorld_step _ _ _ _ _ _
   have hl' : (d'.toList.map rdV).length = L.length := by simp [hs']
   have hcl : ∀ b o, claim β [.arr (.rows (d'.toList.map rdV)) ai] b o ↔ claim β [.arr (.rows L) ai] b o := fun b o => by
    constructor
    ·rintro ⟨i, ob, h1, h2⟩
     have hb := (claims_block h2).2.choose_spec
     cases i with
     | zero => exact ⟨0, _, rfl, claims_mk o (by simp) hb⟩
     | succ i => simp at h1
    ·rintro ⟨i, ob, h1, h2⟩
     have hb := (claims_block h2).2.choose_spec
     cases i with
     | zero => exact ⟨0, _, rfl, claims_mk o (by simp) hb⟩
     | succ i => simp at h1
   refine GRet.row hJs (p' := .rows (d'.toList.map rdV)) («as» := [.own 0, .junk]) (r := .tup []) hfr hj hst rfl ?_ (.tup rfl (fun c h => absurd h (Nat.not_lt_zero _))) (fun c h => ?_) ⟨rfl, rfl, rfl, _, hl', hgood, rfl⟩
   ·refine rowsRow_obj (L := L) (by omega) (fun e => by rw [hβ] at e; cases e) o3 (fun b' e => ?_)
    rw [hβ] at e; cases e
    refine ⟨_, hat, by rw [putCells_size]; omega, fun j hj => ⟨vlV d'[j]!, by rw [putCells_get _ _ _ (by omega) (by omega)], ?_⟩⟩
    have e1 : (d'.toList.map rdV).getD j [] = rdV d'[j]! := by
     have : j < d'.size := by omega
     simp [List.getD, this]
    rw [e1]
    exact (rdV_PV d'[j]!).keeps (RowStep.keeps hst) fun b o _ _ hn hh => hn (hh.imp id (hcl b o).1)
   ·match c, h with
    | 0, _ =>
     refine .own rfl (by simpa [Pay.len] using hl') (fun e h => hnz e h) (fun e => by rw [hβ] at e; cases e) (fun b' e => ?_)
     rw [hβ] at e; cases e
     exact ⟨rfl, hcap, hm, by simp [World.shape?, hat, putCells_size, Pay.sz, h6]⟩
    | 1, _ => exact .pure (.junk _)
theorem KeepL.grown {w w' : World} (h : KeepL (fun _ => False) w w') : ∃ q os, w' = grow (w.drewN q) os := by
 refine ⟨w'.drawn - w.drawn, w'.heap.extract w.heap.size w'.heap.size, ?_⟩
 have e1 : w.heap ++ w'.heap.extract w.heap.size w'.heap.size = w'.heap := by
  refine Array.ext_getElem? fun i => ?_
  by_cases hi : i < w.heap.size
  ·rw [Array.getElem?_append_left hi, h.block i hi id]
  ·have hi := Nat.le_of_not_lt hi
   rw [Array.getElem?_append_right hi]
   by_cases h2 : i < w'.heap.size
   ·rw [Array.getElem?_eq_getElem (by simp; omega), Array.getElem?_eq_getElem h2]
    simp only [Array.getElem_extract]
    congr 2; omega
   ·rw [Array.getElem?_eq_none (show (w'.heap.extract w.heap.size w'.heap.size).size ≤ i - w.heap.size by rw [Array.size_extract]; omega), Array.getElem?_eq_none (by omega)]
 have e2 : w.drawn + (w'.drawn - w.drawn) = w'.drawn := by have := h.drawn; omega
 cases w'
 simp only [grow, World.drewN] at *
 simp only [World.mk.injEq]
 exact ⟨e1.symm, h.tape, e2.symm, h.os, h.output⟩
theorem ACallR.int {w w' : World} {S : CellSet} {n : Int} {e : Ending} (h : ACallR w S (fun r objs => r = .int .i64 n ∧ objs = []) e w') : e = .returned (.int .i64 n) ∧ KeepL (fun _ => False) w w' := by
 cases e with
 | returned v =>
  obtain ⟨r, objs, β, ⟨rfl, rfl⟩, hk, hf⟩ := h
  have := hf.env 0
  simp only [getE, Nat.beq] at this
  have e2 : (#[v] : Array Value).getD 0 undef = v := rfl
  rw [e2] at this
  refine ⟨?_, hk⟩
  cases this with | pure h => cases h; rfl
 | _ => exact h.elim
theorem ACallR.bool {w w' : World} {S : CellSet} {n : Bool} {e : Ending} (h : ACallR w S (fun r objs => r = .bool n ∧ objs = []) e w') : e = .returned (.bool n) ∧ KeepL (fun _ => False) w w' := by
 cases e with
 | returned v =>
  obtain ⟨r, objs, β, ⟨rfl, rfl⟩, hk, hf⟩ := h
  have := hf.env 0
  simp only [getE, Nat.beq] at this
  have e2 : (#[v] : Array Value).getD 0 undef = v := rfl
  rw [e2] at this
  refine ⟨?_, hk⟩
  cases this with | pure h => cases h; rfl
 | _ => exact h.elim
theorem rowWorld_keeps {α : Type} [Inhabited α] (enc : α → Value) {w : World} {S : CellSet} {b n : Nat} {d : Array α} {os : Array Obj} (hb : ∀ o, S b o) : Keeps S w (rowWorld enc w b n d os) := fun b' o v hn hc =>
 (cell?_of_heap (rowWorld_ne enc (lt_of_cell? hc) fun e => hn (e ▸ hb o))).trans hc
theorem cmpLays_of {P : Program} {c : FuncId} {B : Nat} (hc : ∀ x y : List Int, x.length ≤ B → y.length ≤ B → ACall P c [.pay (.ints .i64 x) false, .pay (.ints .i64 y) false] (fun r objs => r = .int .i64 (cmpL x y) ∧ objs = []))
  {w : World} {S : CellSet} {b size : Nat} (hS : ∀ b o, S b o → b < w.heap.size) (hb : ∀ o, S b o) : CmpLays1 P c #[] (vlV : RowVal w S B → Value) (fun x y => cmpL (rdV x) (rdV y)) b 0 size w := by
 intro m os dk _ x y
 have hk : Keeps S w (rowWorld vlV w b m dk os) := rowWorld_keeps vlV hb
 refine Calls.mono' ((hc _ _ (rdV_len x) (rdV_len y)).calls S (rowWorld vlV w b m dk os) #[vlV x, vlV y] (fun b' o h => Nat.lt_of_lt_of_le (hS b' o h) (rowWorld_step vlV w b m dk os).size) rfl (fun k h => ?_)) fun e w' hr => ?_
 ·match k, h with
  | 0, _ => exact (rdV_PV x).keeps hk fun _ _ _ _ h => h
  | 1, _ => exact (rdV_PV y).keeps hk fun _ _ _ _ h => h
 ·obtain ⟨rfl, hkp⟩ := hr.int
  exact ⟨rfl, hkp.grown⟩
theorem cmpL_SWO {w : World} {S : CellSet} {B : Nat} : SWO (ltOf fun x y : RowVal w S B => cmpL (rdV x) (rdV y)) := by
 have h : ∀ x y : RowVal w S B, ltOf (fun x y : RowVal w S B => cmpL (rdV x) (rdV y)) x y = befB (rdV x) (rdV y) := fun x y => by
  unfold ltOf
  cases e : befB (rdV x) (rdV y) with
  | true => simpa using cmpL_lt.2 e
  | false => exact decide_eq_false fun hh => by rw [cmpL_lt.1 hh] at e; cases e
 refine ⟨fun x => by rw [h, befB_irrefl], fun x y z h1 h2 => ?_, fun x y z h1 h2 => ?_⟩
 ·rw [h] at *; exact befB_trans h1 h2
 ·rw [h] at *
  rcases befB_tri (rdV x) (rdV z) with g | g | g
  ·exfalso
   rcases befB_tri (rdV x) (rdV y) with k | k | k
   ·rw [k] at h1; cases h1
   ·rw [← k, g] at h2; cases h2
   ·have := befB_trans k g; rw [this] at h2; cases h2
  ·rw [g, befB_irrefl]
  ·exact befB_asymm g
abbrev SR (l : List (List Int)) : Prop := l.Pairwise (fun x y => befB y x = false)
theorem sorted_map {w : World} {S : CellSet} {B : Nat} {d : Array (RowVal w S B)} (h : SortedIn (ltOf fun x y : RowVal w S B => cmpL (rdV x) (rdV y)) 0 d.size d) : SR (d.toList.map rdV) := by
 refine List.pairwise_iff_getElem.2 fun i j hi hj hij => ?_
 have hi' : i < d.size := by simpa using hi
 have hj' : j < d.size := by simpa using hj
 have := h i j (Nat.zero_le _) hij hj'
 rw [getElem!_pos d i hi', getElem!_pos d j hj'] at this
 simp only [List.getElem_map, Array.getElem_toList]
 cases e : befB (rdV d[j]) (rdV d[i]) with
 | false => rfl
 | true => have h2 := cmpL_lt.2 e; simp [ltOf] at this; omega
end Go.AM
namespace Go.AM
open Go
theorem GCall.frz {P : Program} {y : Yc} {f : FuncId} {g : Gh} {args : List AV} {objs : List AObj} {Q Q' : QG} (h : GCall P y f g args objs Q)
  (hq : ∀ g' r av os, av.length = args.length → Q g' r av os → ∃ (l : List Nat) (r' : AV) (av1 : List AV) (os' : List AObj), (⟨args.length + 1, enumE 0 (r :: av), os⟩ : St).freezeL l = ⟨args.length + 1, enumE 0 (r' :: av1), os'⟩ ∧ av1.length = args.length ∧ Q' g' r' (List.replicate args.length .junk) os') : GCall P y f g args objs Q' := by
 refine ⟨h.enters, fun J hJs hR w S0 β vs hfr hj => ?_⟩
 refine callsIn_FW.2 (Calls.mono' (callsIn_FW.1 (h.calls J hJs hR w S0 β vs hfr hj)) fun e w' hr => ?_)
 cases e with
 | returned v =>
  obtain ⟨g', r, av, os, S0', β', hq', hlen, hf, hj'⟩ := hr
  obtain ⟨l, r', av1, os', h4, h5, h6⟩ := hq g' r av os hlen hq'
  obtain ⟨β2, hf2⟩ := FR.freezeL l _ _ hf
  rw [h4] at hf2
  have hsub : ∀ b, ownB β2 b → ownB β' b := fun b ⟨i, j, hb⟩ => (hf2.rng i j b hb).2 (hf2.rng i j b hb).1
  refine ⟨g', r', List.replicate args.length .junk, os', S0', β2, h6, by simp, ⟨KeepL.refl _ _, fun b o hs => ⟨(hf2.s0 b o hs).1, fun hh => (hf2.s0 b o hs).2 (hsub b hh)⟩, hf2.inj, fun i j b hb => ⟨(hf2.rng i j b hb).1, fun _ => ⟨i, j, hb⟩⟩, hf2.out, hf2.objs, hf2.size, fun t => ?_⟩, ?_⟩
  ·have ht := hf2.env t
   cases t with
   | zero => exact ht
   | succ t =>
    have e : getE (t + 1) (enumE 0 (r' :: List.replicate args.length AV.junk)) = .junk := by
     rcases getE_enumE (r' :: List.replicate args.length AV.junk) 0 (t + 1) with ⟨c, hc, h1, h2⟩ | h2
     ·rw [h2]
      have : c = t + 1 := by omega
      subst this
      simp
     ·exact h2
    rw [e]
    exact .pure (.junk _)
  ·refine hJs g' w' w' S0' _ _ hj' (KeepL.refl _ _) (fun b hb _ => ?_) (fun b hb => ?_) (fun b hb => ?_)
   ·exact (blkOf_claim hf b).1 (hsub b ((blkOf_claim hf2 b).2 hb))
   ·obtain ⟨i, j, e⟩ := (blkOf_claim hf2 b).2 hb
    exact (hf2.rng i j b e).1
   ·rintro ⟨o, hs⟩
    exact (hf2.s0 b o hs).2 (hsub b ((blkOf_claim hf2 b).2 hb))
 | _ => exact hr
end Go.AM
end

section
namespace Go.AM
open Go
theorem FR.lentTo {w : World} {S0 : CellSet} {β β2 : Nat → Nat → Option Nat} {st : St} {vs : Array Value} (hf2 : FR ⟨w, S0, ownB β⟩ β2 st vs w) : FR ⟨w, S0, ownB β2⟩ β2 st vs w ∧ ∀ b, ownB β2 b → ownB β b := by
 have hsub : ∀ b, ownB β2 b → ownB β b := fun b ⟨i, j, hb⟩ => (hf2.rng i j b hb).2 (hf2.rng i j b hb).1
 exact ⟨⟨KeepL.refl _ _, fun b o hs => ⟨(hf2.s0 b o hs).1, fun hh => (hf2.s0 b o hs).2 (hsub b hh)⟩, hf2.inj, fun i j b hb => ⟨(hf2.rng i j b hb).1, fun _ => ⟨i, j, hb⟩⟩, hf2.out, hf2.objs, hf2.size, hf2.env⟩, hsub⟩
theorem Inv.less {J : Inv} (hJs : J.stable) {g : Gh} {w : World} {S0 : CellSet} {β β2 : Nat → Nat → Option Nat} {st st2 : St} {vs vs2 : Array Value} (hf : FR ⟨w, S0, ownB β⟩ β st vs w) (hj : J g w S0 (claim β st.objs)) (hf2 : FR ⟨w, S0, ownB β⟩ β2 st2 vs2 w) : J g w S0 (claim β2 st2.objs) := by
 have hsub := hf2.lentTo.2
 refine hJs g w w S0 _ _ hj (KeepL.refl _ _) (fun b hb _ => ?_) (fun b hb => ?_) (fun b hb => ?_)
 ·exact (blkOf_claim hf b).1 (hsub b ((blkOf_claim hf2 b).2 hb))
 ·obtain ⟨i, j, e⟩ := (blkOf_claim hf2 b).2 hb
  exact (hf2.rng i j b e).1
 ·rintro ⟨o, hs⟩
  exact (hf2.s0 b o hs).2 (hsub b ((blkOf_claim hf2 b).2 hb))
theorem GCall.pre {P : Program} {y : Yc} {f : FuncId} {g : Gh} {args args' : List AV} {objs objs' : List AObj} {Q : QG} (l sel : List Nat) (h : GCall P y f g args' objs' Q) (hlen : args'.length = args.length)
  (he : ((⟨args.length, enumE 0 args, objs⟩ : St).freezeL l).select sel = ⟨args.length, enumE 0 args', objs'⟩) (hnd : sel.Nodup) : GCall P y f g args objs Q := by
 refine ⟨h.enters, fun J hJs hR w S0 β vs hfr hj => ?_⟩
 obtain ⟨β1, h1⟩ := FR.freezeL l _ _ hfr
 have h2 := h1.select sel hnd
 rw [he] at h2
 have hj2 := Inv.less hJs hfr hj h2
 have := h.calls J hJs hR w S0 _ vs (by rw [hlen]; exact h2.lentTo.1) hj2
 rw [hlen] at this
 exact this
def nilOwn (k n : Nat) (args : List AV) : List AV := args.set k (.own n)
theorem GCall.nilA {P : Program} {y : Yc} {f : FuncId} {g : Gh} {args : List AV} {objs : List AObj} {Q : QG} (k : Nat) (p : Pay) (e : TypeId) (hp : p.len = 0) (hk : args[k]? = some (.lit (.slice none 0 0)))
  (h : GCall P y f g (args.set k (.own objs.length)) (objs ++ [.arr p ⟨e, true⟩]) Q) : GCall P y f g args objs Q := by
 refine ⟨h.enters, fun J hJs hR w S0 β vs hfr hj => ?_⟩
 have hkl : k < args.length := (List.getElem?_eq_some_iff.1 hk).1
 have hwf : p.wf := fun j hj => by omega
 have hn := hfr.newObj (.arr p ⟨e, true⟩) none (KeepL.refl _ w) (by simp) (fun b e => by cases e) ⟨hwf, fun _ => hp, fun j => updB_succ, fun b e => (by rw [updB_same] at e; cases e)⟩
 have h2 : FR ⟨w, S0, ownB β⟩ (updB β objs.length none) ⟨args.length, enumE 0 (args.set k (.own objs.length)), objs ++ [.arr p ⟨e, true⟩]⟩ vs w := hn.reenv (st := ⟨args.length, enumE 0 args, objs ++ [.arr p ⟨e, true⟩]⟩) hfr.size fun t => by
  rcases getE_enumE (args.set k (.own objs.length)) 0 t with ⟨c, hc, h1, h2⟩ | h2
  ·rw [h2]
   have h1 : t = c := by omega
   subst h1
   have hc' : t < args.length := by simpa using hc
   have ht := hn.env t
   have e1 : getE t (enumE 0 args) = args[t] := by
    have := getE_enum_lt args 0 t hc'
    rwa [Nat.zero_add] at this
   simp only [e1] at ht
   rw [List.getElem_set]
   split
   ·rename_i e2
    subst e2
    have e3 : args[k] = .lit (.slice none 0 0) := by
     rw [List.getElem?_eq_getElem hc'] at hk
     exact Option.some.inj hk
    rw [e3] at ht
    rw [TV_lit ht]
    exact .own (p := p) (nz := ⟨e, true⟩) (by simp) hp (fun _ _ => rfl) (fun _ => ⟨rfl, rfl⟩) (fun b e => by rw [updB_same] at e; cases e)
   ·exact ht
  ·rw [h2]; exact .pure (.junk _)
 have hj2 := Inv.less hJs hfr hj h2
 have := h.calls J hJs hR w S0 _ vs (by rw [List.length_set]; exact h2.lentTo.1) hj2
 rw [List.length_set] at this
 exact this
theorem GCall.nilP {P : Program} {y : Yc} {f : FuncId} {g : Gh} {args : List AV} {objs : List AObj} {Q : QG} (k : Nat) (p : Pay) (hp : p.len = 0) (hk : args[k]? = some (.lit (.slice none 0 0)))
  (h : GCall P y f g (args.set k (.pay p true)) objs Q) : GCall P y f g args objs Q := by
 refine ⟨h.enters, fun J hJs hR w S0 β vs hfr hj => ?_⟩
 have hkl : k < args.length := (List.getElem?_eq_some_iff.1 hk).1
 have h2 : FR ⟨w, S0, ownB β⟩ β ⟨args.length, enumE 0 (args.set k (.pay p true)), objs⟩ vs w := hfr.reenv (st := ⟨args.length, enumE 0 args, objs⟩) hfr.size fun t => by
  rcases getE_enumE (args.set k (.pay p true)) 0 t with ⟨c, hc, h1, h2⟩ | h2
  ·rw [h2]
   have h1 : t = c := by omega
   subst h1
   have hc' : t < args.length := by simpa using hc
   have ht := hfr.env t
   have e1 : getE t (enumE 0 args) = args[t] := by
    have := getE_enum_lt args 0 t hc'
    rwa [Nat.zero_add] at this
   simp only [e1] at ht
   rw [List.getElem_set]
   split
   ·rename_i e2
    subst e2
    have e3 : args[k] = .lit (.slice none 0 0) := by
     rw [List.getElem?_eq_getElem hc'] at hk
     exact Option.some.inj hk
    rw [e3] at ht
    rw [TV_lit ht]
    exact .pure (PV.empty hp true)
   ·exact ht
  ·rw [h2]; exact .pure (.junk _)
 have := h.calls J hJs hR w S0 _ vs (by rw [List.length_set]; exact h2) hj
 rw [List.length_set] at this
 exact this
end Go.AM
end
