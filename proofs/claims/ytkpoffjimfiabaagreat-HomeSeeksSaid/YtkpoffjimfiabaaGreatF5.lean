/-
  Contracts of Go's library become contracts over abstract values; frozen results; counting loops; a struct that becomes a trie.
-/
import Derived.Test.YtkpoffjimfiabaaGreatF4
import Derived.Sort.Grow
import Derived.Sort.Row
set_option linter.unusedVariables false
set_option linter.unusedSimpArgs false
set_option linter.unusedSectionVars false
set_option linter.unnecessarySimpa false

section
namespace Go.AM
open Go
theorem ACallR.pure {w w' : World} {S0 : CellSet} {Q : AV → List AObj → Prop} {r : AV} {v : Value} (hS : ∀ b o, S0 b o → b < w.heap.size) (hk : KeepL (fun _ => False) w w') (hv : PV w' S0 r v) (hq : Q r []) : ACallR w S0 Q (.returned v) w' := by
 refine ⟨r, [], fun _ _ => none, hq, hk, hk, fun b o h => ⟨hS b o h, id⟩, fun _ _ _ _ _ h => (by cases h), fun _ _ _ h => (by cases h), fun _ _ _ => rfl, fun i o ho => by simp at ho, rfl, fun t => ?_⟩
 cases t with
 | zero =>
  refine .pure (hv.keeps (Keeps.refl _ _) fun b o _ _ h hh => ?_)
  rcases hh with hh | ⟨i, ob, h1, _⟩
  ·exact h hh
  ·simp at h1
 | succ t => exact .pure (by simp [getE]; exact .junk _)
theorem acall_of {P : Program} {f : FuncId} {args : List AV} {Q : AV → List AObj → Prop} {fn : Func} (hf : P.funcs[f]? = some fn) (hn : (fn.name == "runtime.NumGoroutine") = false) (hb : fn.body.isNone = false)
  (h : ∀ (S0 : CellSet) (w : World) (vs : Array Value), (∀ b o, S0 b o → b < w.heap.size) → args.length = vs.size → (∀ c (h : c < args.length), PV w S0 (args[c]) (vs[c]!)) → Calls P f vs w (ACallR w S0 Q)) : ACall P f args Q := ⟨enters_of hf hn hb, h⟩
theorem zero_of {P : Program} {t : TypeId} {z : Value} (h : (P.info? t).bind (·.zero) = some z) (w : World) : (zeroValue t).run P w = .ok z w := by
 cases hi : P.info? t with
 | none => rw [hi] at h; cases h
 | some inf =>
  rw [hi] at h
  have e : (typeInfo t).run P w = .ok inf w := by simp [Go.typeInfo, program, hi, Sem.run, bind, Sem.bind, pure]
  simp only [Option.bind] at h
  simp [Go.zeroValue, e, h]
def scal : AV → Option Value
 | .int k n => some (.int k n)
 | .bool b => some (.bool b)
 | .str s => some (.string s)
 | .lit v => some v
 | _ => none
theorem scal_PV {w : World} {S : CellSet} {a : AV} {v u : Value} (h : scal a = some v) (hp : PV w S a u) : u = v := by
 cases a <;> simp [scal] at h <;> (subst h; cases hp; rfl)
theorem acall_scal {P : Program} {f : FuncId} {fn : Func} {args : List AV} {vs : List Value} {r : AV} {v : Value} (hf : P.funcs[f]? = some fn) (hn : (fn.name == "runtime.NumGoroutine") = false) (hb : fn.body.isNone = false)
  (hs : args.map scal = vs.map some) (h : ∀ w, Calls P f vs.toArray w fun e w' => e = .returned v ∧ KeepL (fun _ => False) w w') (hr : ∀ w S, PV w S r v) : ACall P f args (fun r' objs => r' = r ∧ objs = []) := by
 refine acall_of hf hn hb fun S0 w us hS hl ha => ?_
 have hlen : args.length = vs.length := by have := congrArg List.length hs; simpa using this
 have e : us = vs.toArray := by
  refine Array.ext (by simp; omega) fun c h1 h2 => ?_
  have hc : c < args.length := by omega
  have h3 := ha c hc
  rw [getElem!_pos us c h1] at h3
  have h4 : scal (args[c]) = some (vs[c]'(by omega)) := by
   have := congrArg (·[c]?) hs
   simpa [List.getElem?_map, hc, show c < vs.length by omega] using this
  rw [scal_PV h4 h3]; simp
 subst e
 refine Calls.mono' (h w) ?_
 rintro e w' ⟨rfl, hk⟩
 exact ACallR.pure hS hk (hr _ _) ⟨rfl, rfl⟩
theorem ACallR.arr {w w' : World} {S0 : CellSet} {Q : AV → List AObj → Prop} {p : Pay} {ai : AI} {b len cap : Nat} {cur : Array Value} (hS : ∀ b o, S0 b o → b < w.heap.size) (hk : KeepL (fun _ => False) w w') (hwf : p.wf) (hlen : p.len = len)
  (hnz : ai.nz = true → len ≠ 0) (hcap : len ≤ cap) (hmax : cap ≤ maxLen) (hnew : w.heap.size ≤ b) (hb : w'.heap[b]? = some (.cells cur ai.e (0, 0))) (hcur : cur.size = cap * p.sz)
  (hc : ∀ j c (h : c < (p.at j).length), j < p.len → ∃ v, cur[j * p.sz + c]? = some v ∧ PV w' (fun b' o => S0 b' o ∨ b' = b) ((p.at j)[c]) v) (hq : Q (.own 0) [.arr p ai]) : ACallR w S0 Q (.returned (.slice (some ⟨b, 0, none⟩) len cap)) w' := by
 have hbl : b < w'.heap.size := (Array.getElem?_eq_some_iff.1 hb).1
 have hcl : ∀ b' o, (⟨w, S0, fun _ => False⟩ : Cx).S (fun i j => if i = 0 ∧ j = 0 then some b else none) [.arr p ai] b' o ↔ S0 b' o ∨ b' = b := fun b' o => by
  constructor
  ·rintro (h | ⟨i, ob, h1, h2⟩)
   ·exact .inl h
   ·have := (claims_block h2).2.choose_spec
    simp only at this
    split at this
    ·cases this; exact .inr rfl
    ·cases this
  ·rintro (h | rfl)
   ·exact .inl h
   ·exact .inr ⟨0, _, rfl, claims_mk (j := 0) o (by simp) (by simp)⟩
 refine ⟨.own 0, [.arr p ai], fun i j => if i = 0 ∧ j = 0 then some b else none, hq, hk, hk, fun b o h => ⟨hS b o h, id⟩, fun i j i' j' b' h h' => ?_, fun i j b' h => ?_, fun i j h => ?_, fun i o ho => ?_, rfl, fun t => ?_⟩
 ·split at h
  ·split at h'
   ·omega
   ·cases h'
  ·cases h
 ·split at h
  ·cases h; exact ⟨hbl, fun h => absurd h (Nat.not_lt.2 hnew)⟩
  ·cases h
 ·cases i with
  | zero => simp at h
  | succ i => simp
 ·cases i with
  | succ i => simp at ho
  | zero =>
   simp only [List.getElem?_cons_zero, Option.some.injEq] at ho
   subst ho
   refine ⟨hwf, by simp, by simp, fun b' hb' => ?_⟩
   simp only [and_self, if_true, Option.some.injEq] at hb'
   subst hb'
   refine ⟨⟨cur, hb, by rw [hcur, hlen]; exact Nat.mul_le_mul_right _ hcap⟩, fun j c h hj => ?_⟩
   obtain ⟨v, h1, h2⟩ := hc j c h hj
   refine ⟨v, by simp [World.cell?, hb, h1], h2.keeps (Keeps.refl _ _) fun b' o _ _ hn => fun hh => hn ((hcl _ _).1 hh)⟩
 ·cases t with
  | succ t => exact .pure (by simp [getE]; exact .junk _)
  | zero =>
   refine .own (p := p) (nz := ai) rfl hlen (fun h e => absurd e (hnz h)) (by simp) fun b' hb' => ?_
   simp only [and_self, if_true, Option.some.injEq] at hb'
   subst hb'
   exact ⟨rfl, hcap, hmax, by simp [World.shape?, hb, hcur]⟩
structure RowStep (w w' : World) (b : Option Nat) : Prop where
 os : w'.os = w.os
 tape : w'.tape = w.tape
 output : w'.output = w.output
 drawn : w.drawn ≤ w'.drawn
 size : w.heap.size ≤ w'.heap.size
 block : ∀ k, k < w.heap.size → b ≠ some k → w'.heap[k]? = w.heap[k]?
theorem GRet.row {J : Inv} (hJs : J.stable) {g : Gh} {w w' : World} {S0 : CellSet} {β : Nat → Nat → Option Nat} {p p' : Pay} {ai : AI} {args as : List AV} {vs : Array Value} {Q : QG} {v : Value} {r : AV}
  (hfr : FR ⟨w, S0, ownB β⟩ β ⟨args.length, enumE 0 args, [.arr p ai]⟩ vs w) (hj : J g w S0 (claim β [.arr p ai])) (hst : RowStep w w' (β 0 0)) (hlen : as.length = args.length)
  (hob : ObjOk w' (fun b o => S0 b o ∨ claim β [.arr p' ai] b o) β [.arr p' ai] 0 (.arr p' ai)) (hr : TV w' (fun b o => S0 b o ∨ claim β [.arr p' ai] b o) β [.arr p' ai] r v)
  (has : ∀ c (h : c < as.length), TV w' (fun b o => S0 b o ∨ claim β [.arr p' ai] b o) β [.arr p' ai] (as[c]) (vs[c]!)) (hq : Q g r as [.arr p' ai]) : GRet J args.length vs Q (.returned v) w' := by
 have hsz : args.length = vs.size := hfr.size.symm
 have hcl : ∀ b o, claim β [.arr p' ai] b o ↔ claim β [.arr p ai] b o := fun b o => by
  constructor
  ·rintro ⟨i, ob, h1, h2⟩
   have hb := (claims_block h2).2.choose_spec
   cases i with
   | zero => exact ⟨0, _, rfl, claims_mk o (by simp) hb⟩
   | succ i => simp at h1
  ·rintro ⟨i, ob, h1, h2⟩
   have hb := (claims_block h2).2.choose_spec
   cases i with
   | zero => exact ⟨0, _, rfl, claims_mk o (by simp) hb⟩
   | succ i => simp at h1
 have hown : ∀ b, blkOf (claim β [.arr p ai]) b ↔ ownB β b := fun b => (blkOf_claim hfr b).symm
 have hown0 : ∀ b, ownB β b → β 0 0 = some b := fun b hb => by
  obtain ⟨o, i, ob, h1, h2⟩ := (hown b).2 hb
  cases i with
  | zero =>
   obtain ⟨_, j4, h4⟩ := claims_block h2
   cases j4 with
   | zero => exact h4
   | succ j4 => rw [(hfr.objs 0 _ rfl).2.2.1 j4] at h4; cases h4
  | succ i => simp at h1
 have hceq : claim β [.arr p' ai] = claim β [.arr p ai] := by funext b o; exact propext (hcl b o)
 refine ⟨g, r, as, [.arr p' ai], S0, β, hq, hlen, ⟨KeepL.refl _ _, fun b o h => ⟨Nat.lt_of_lt_of_le (hfr.s0 b o h).1 hst.size, (hfr.s0 b o h).2⟩, hfr.inj, fun i j b hb => ⟨Nat.lt_of_lt_of_le (hfr.rng i j b hb).1 hst.size, fun _ => ⟨i, j, hb⟩⟩, fun i j h => hfr.out i j ?_, fun i o ho => ?_, ?_, fun t => ?_⟩, ?_⟩
 ·cases i with
  | zero => simp at h
  | succ i => simp
 ·cases i with
  | zero => simp only [List.getElem?_cons_zero, Option.some.injEq] at ho; subst ho; exact hob
  | succ i => simp at ho
 ·simp; omega
 ·rcases getE_enumE (r :: as) 0 t with ⟨c, h, h1, h2⟩ | h
  ·rw [h2]
   have h1 : t = c := by omega
   subst h1
   cases t with
   | zero =>
    have e : (#[v] ++ vs).getD 0 undef = v := by rw [Array.getD_eq_getD_getElem?, Array.getElem?_append_left (by simp)]; rfl
    rw [e]; exact hr
   | succ t =>
    have h' : t < as.length := by simpa using h
    have := has t h'
    have e : (#[v] ++ vs).getD (t + 1) undef = vs[t]! := by
     rw [getElem!_pos vs t (by omega), Array.getD_eq_getD_getElem?, Array.getElem?_append_right (by simp)]
     simp [show t < vs.size by omega]
    rw [e]
    exact this
  ·rw [h]; exact .pure (.junk _)
 ·rw [hceq]
  refine hJs g w w' S0 _ _ hj ⟨hst.os, hst.tape, hst.output, hst.drawn, hst.size, fun k hk hL => hst.block k hk fun e => hL ((hown k).2 ⟨0, 0, e⟩)⟩ (fun b h _ => h) (fun b h => ?_) (fun b h => ?_)
  ·obtain ⟨i, j, hb⟩ := (hown b).1 h
   exact Nat.lt_of_lt_of_le (hfr.rng i j b hb).1 hst.size
  ·rintro ⟨o, ho⟩
   exact (hfr.s0 b o ho).2 ((hown b).1 h)
theorem RowStep.keeps {w w' : World} {S0 : CellSet} {β : Nat → Nat → Option Nat} {p : Pay} {ai : AI} (hst : RowStep w w' (β 0 0)) :
  Keeps (fun b o => S0 b o ∨ claim β [.arr p ai] b o) w w' := fun b o v hn hc => by
 have hlt := lt_of_cell? hc
 refine (cell?_of_heap (hst.block b hlt fun e => hn (.inr ⟨0, _, rfl, claims_mk o (by simp) e⟩))).trans hc
end Go.AM
end

section
namespace Go.AM
open Go Go.Sort
def rowWorld {α : Type} [Inhabited α] (enc : α → Value) (w : World) (b n : Nat) (d : Array α) (os : Array Obj) : World := grow (putRow enc (Sort.ahead w n) b 0 d) os
theorem rowWorld_ne {α : Type} [Inhabited α] (enc : α → Value) {w : World} {b n : Nat} {d : Array α} {os : Array Obj} {k : Nat} (hk : k < w.heap.size) (hb : k ≠ b) : (rowWorld enc w b n d os).heap[k]? = w.heap[k]? := by
 have e : k < (w.heap.modify b (onCells (putCells enc 0 d))).size := by simpa using hk
 simp only [rowWorld, grow, putRow, mapBlock, Sort.ahead]
 rw [Array.getElem?_append_left e, Array.getElem?_modify, if_neg (Ne.symm hb)]
theorem rowWorld_at {α : Type} [Inhabited α] (enc : α → Value) {w : World} {b n : Nat} {d : Array α} {os : Array Obj} {cur : Array Value} {e : TypeId} (hb : w.heap[b]? = some (.cells cur e (0, 0))) : (rowWorld enc w b n d os).heap[b]? = some (.cells (putCells enc 0 d cur) e (0, 0)) := by
 have hlt := (Array.getElem?_eq_some_iff.1 hb).1
 have e1 : b < (w.heap.modify b (onCells (putCells enc 0 d))).size := by simpa using hlt
 simp only [rowWorld, grow, putRow, mapBlock, Sort.ahead]
 rw [Array.getElem?_append_left e1, Array.getElem?_modify, if_pos rfl, hb]
 rfl
theorem rowWorld_step {α : Type} [Inhabited α] (enc : α → Value) (w : World) (b n : Nat) (d : Array α) (os : Array Obj) : RowStep w (rowWorld enc w b n d os) (some b) :=
 ⟨rfl, rfl, rfl, Nat.le_add_right _ _, by simp [rowWorld, grow, putRow, mapBlock, Sort.ahead], fun k hk hb => rowWorld_ne enc hk fun e => hb (by rw [e])⟩
theorem putCells_size {α : Type} [Inhabited α] (enc : α → Value) (d : Array α) (c : Array Value) : (putCells enc 0 d c).size = c.size := by simp [putCells]
theorem putCells_get {α : Type} [Inhabited α] (enc : α → Value) (d : Array α) (c : Array Value) {j : Nat} (h : j < c.size) (hd : j < d.size) : (putCells enc 0 d c)[j]? = some (enc d[j]!) := by
 simp [putCells, h, hd]
theorem FR.intRow {w : World} {S0 : CellSet} {β : Nat → Nat → Option Nat} {l : List Int} {ai : AI} {vs : Array Value} {args : List AV} (h0 : args[0]? = some (.own 0)) (hfr : FR ⟨w, S0, ownB β⟩ β ⟨args.length, enumE 0 args, [.arr (.ints .i64 l) ai]⟩ vs w) :
  ∃ a cap, vs[0]! = .slice a l.length cap ∧ l.length ≤ cap ∧ (β 0 0 = none → l = [] ∧ a = none ∧ cap = 0) ∧ ∀ b, β 0 0 = some b → a = some ⟨b, 0, none⟩ ∧ cap ≤ maxLen ∧ b < w.heap.size ∧ ∃ cur, w.heap[b]? = some (.cells cur ai.e (0, 0)) ∧ cur.size = cap ∧ Holds (Value.int .i64) w b 0 l.toArray := by
 have hsz : vs.size = args.length := hfr.size
 have hal : 0 < args.length := by
  by_cases h : 0 < args.length
  ·exact h
  ·rw [List.getElem?_eq_none (by omega)] at h0; cases h0
 have h := hfr.env 0
 have e1 : getE 0 (enumE 0 args) = .own 0 := by
  cases args with
  | nil => simp at h0
  | cons x r => simp at h0; subst h0; rfl
 have e2 : vs.getD 0 undef = vs[0]! := by rw [getElem!_pos vs 0 (by omega), Array.getD_eq_getD_getElem?, Array.getElem?_eq_getElem (by omega)]; rfl
 simp only [e1, e2] at h
 generalize vs[0]! = v at h
 obtain ⟨o1, o2, o3, o4⟩ := hfr.objs 0 _ rfl
 cases h with
 | pure h => cases h
 | @own i p nz a len cap ho hlen hnz hn hb =>
  simp only [List.getElem?_cons_zero, Option.some.injEq, AObj.arr.injEq] at ho
  obtain ⟨rfl, rfl⟩ := ho
  simp only [Pay.len] at hlen
  subst hlen
  refine ⟨a, cap, rfl, ?_, fun e => ⟨List.eq_nil_of_length_eq_zero (by simpa [Pay.len] using o2 e), (hn e).1, (hn e).2⟩, fun b e => ?_⟩
  ·cases e : β 0 0 with
   | none => have := o2 e; simp only [Pay.len] at this; omega
   | some b => exact (hb b e).2.1
  ·obtain ⟨h1, h2, h3, h4⟩ := hb b e
   obtain ⟨⟨cur, h5, h6⟩, h7⟩ := o4 b e
   have hsh : cur.size = cap := by simpa [World.shape?, h5, Pay.sz] using h4
   refine ⟨h1, h3, (hfr.rng 0 0 b e).1, cur, h5, hsh, fun j hj => ?_⟩
   have hj' : j < l.length := by simpa using hj
   obtain ⟨v, g1, g2⟩ := h7 j 0 (by simp [Pay.at]) hj'
   simp only [Pay.sz, Nat.mul_one, Nat.add_zero] at g1
   cases g2
   refine ⟨?_, by simp [World.frozen?, h5]⟩
   rw [Nat.zero_add, g1]
   simp [List.getD, hj']
theorem intRow_obj {w' : World} {S : CellSet} {β : Nat → Nat → Option Nat} {objs : List AObj} {l l' : List Int} {ai : AI} (hle : l'.length ≤ l.length) (h1 : β 0 0 = none → l = []) (h2 : ∀ j, β 0 (j + 1) = none) (h3 : ∀ b, β 0 0 = some b → ∃ cur, w'.heap[b]? = some (.cells cur ai.e (0, 0)) ∧ l.length ≤ cur.size ∧ ∀ j, j < l'.length → cur[j]? = some (.int .i64 (l'.getD j 0))) :
  ObjOk w' S β objs 0 (.arr (.ints .i64 l') ai) := by
 refine ⟨Pay.wf_ints _ _, fun e => ?_, h2, fun b e => ?_⟩
 ·have := h1 e; subst this; simpa [Pay.len] using hle
 ·obtain ⟨cur, h4, h5, h6⟩ := h3 b e
  refine ⟨⟨cur, h4, by simp only [Pay.len, Pay.sz]; omega⟩, fun j c h hj => ?_⟩
  simp only [Pay.at, List.length_singleton] at h
  have : c = 0 := by omega
  subst this
  simp only [Pay.len] at hj
  exact ⟨.int .i64 (l'.getD j 0), by simp [World.cell?, h4, Pay.sz, h6 j hj], by simp only [Pay.at, List.getElem_cons_zero]; exact .int _ _⟩
theorem gcall_inPlace {P : Program} {y : Yc} {f : FuncId} {fn : Func} {g : Gh} {l l' : List Int} {ai : AI} (hf : P.funcs[f]? = some fn) (hn : (fn.name == "runtime.NumGoroutine") = false) (hb : fn.body.isNone = false) (hlen : l'.length = l.length)
  (hnil : l = [] → ∀ (a : Option Addr) cap w, Calls P f #[.slice a 0 cap] w fun e w' => e = .returned (.tuple #[]) ∧ w' = w)
  (hrow : ∀ w b cap, Holds (Value.int .i64) w b 0 l.toArray → b < w.heap.size → l.length ≤ cap → Calls P f #[.slice (some ⟨b, 0, none⟩) l.length cap] w fun e w' => e = .returned (.tuple #[]) ∧ ∃ n os, w' = rowWorld (Value.int .i64) w b n l'.toArray os) :
  GCall P y f g [.own 0] [.arr (.ints .i64 l) ai] (fun g' r A O => g' = g ∧ r = .tup [] ∧ A = [.own 0] ∧ O = [.arr (.ints .i64 l') ai]) := by
 refine ⟨enters_of hf hn hb, fun J hJs hR w S0 β vs hfr hj => callsIn_FW.2 ?_⟩
 obtain ⟨a, cap, hv, hcap, hno, hso⟩ := FR.intRow rfl hfr
 have hvs : vs = #[.slice a l.length cap] := by
  have hs : vs.size = 1 := hfr.size
  obtain ⟨L⟩ := vs
  match L, hs with
  | [x], _ => simp at hv; rw [hv]
 subst hvs
 have o3 : ∀ j, β 0 (j + 1) = none := (hfr.objs 0 _ rfl).2.2.1
 cases hβ : β 0 0 with
 | none =>
  obtain ⟨rfl, rfl, rfl⟩ := hno hβ
  have : l' = [] := List.eq_nil_of_length_eq_zero (by simpa using hlen)
  subst this
  refine (hnil rfl none 0 w).mono ?_
  rintro e w' ⟨rfl, rfl⟩
  refine GRet.row hJs (p' := .ints .i64 []) (as := [.own 0]) (r := .tup []) hfr hj (by rw [hβ]; exact ⟨rfl, rfl, rfl, Nat.le_refl _, Nat.le_refl _, fun _ _ _ => rfl⟩) rfl ?_ (.tup rfl (fun c h => absurd h (Nat.not_lt_zero _))) (fun c h => ?_) ⟨rfl, rfl, rfl, rfl⟩
  ·exact intRow_obj (l := []) (Nat.le_refl _) (fun _ => rfl) o3 (fun b e => by rw [hβ] at e; cases e)
  ·have : c = 0 := by simpa using h
   subst this
   exact .own rfl rfl (fun _ _ => rfl) (fun _ => ⟨rfl, rfl⟩) (fun b e => by rw [hβ] at e; cases e)
 | some b =>
  obtain ⟨rfl, hm, hbl, cur, h5, h6, hH⟩ := hso b hβ
  refine (hrow w b cap hH hbl hcap).mono ?_
  rintro e w' ⟨rfl, n, os, rfl⟩
  have hat := rowWorld_at (Value.int .i64) (n := n) (d := l'.toArray) (os := os) h5
  refine GRet.row hJs (p' := .ints .i64 l') (as := [.own 0]) (r := .tup []) hfr hj (by rw [hβ]; exact rowWorld_step _ _ _ _ _ _) rfl ?_ (.tup rfl (fun c h => absurd h (Nat.not_lt_zero _))) (fun c h => ?_) ⟨rfl, rfl, rfl, rfl⟩
  ·refine intRow_obj (l := l) (by omega) (fun e => by rw [hβ] at e; cases e) o3 (fun b' e => ?_)
   rw [hβ] at e; cases e
   refine ⟨_, hat, by rw [putCells_size]; omega, fun j hj => ?_⟩
   rw [putCells_get _ _ _ (by omega) (by simpa using hj)]
   simp [List.getD, hj]
  ·have : c = 0 := by simpa using h
   subst this
   refine .own rfl (by simpa [Pay.len] using hlen) (fun e h0 => ?_) (fun e => by rw [hβ] at e; cases e) (fun b' e => ?_)
   ·have ht := hfr.env 0
    simp only [enumE, getE] at ht
    have e2 : (#[Value.slice (some ⟨b, 0, none⟩) l.length cap]).getD 0 undef = .slice (some ⟨b, 0, none⟩) l.length cap := rfl
    rw [e2] at ht
    cases ht with
    | pure h => cases h
    | own ho hlen hnz hn hb =>
     simp only [List.getElem?_cons_zero, Option.some.injEq, AObj.arr.injEq] at ho
     obtain ⟨rfl, rfl⟩ := ho
     exact hnz e h0
   ·rw [hβ] at e; cases e
    exact ⟨rfl, hcap, hm, by simp [World.shape?, hat, putCells_size, Pay.sz, h6]⟩
theorem gcall_cut {P : Program} {y : Yc} {f : FuncId} {fn : Func} {g : Gh} {l l' : List Int} {ai : AI} (hf : P.funcs[f]? = some fn) (hn : (fn.name == "runtime.NumGoroutine") = false) (hb : fn.body.isNone = false) (hlen : l'.length ≤ l.length) (hpos : l'.length = 0 → l = [])
  (hnil : l = [] → ∀ (a : Option Addr) cap w, Calls P f #[.slice a 0 cap] w fun e w' => e = .returned (.slice a 0 cap) ∧ w' = w)
  (hrow : ∀ w b cap, Holds (Value.int .i64) w b 0 l.toArray → b < w.heap.size → l.length ≤ cap → Calls P f #[.slice (some ⟨b, 0, none⟩) l.length cap] w fun e w' => e = .returned (.slice (some ⟨b, 0, none⟩) l'.length cap) ∧ ∃ n os, ∃ d : Array Int, d.size = l.length ∧ (∀ j, j < l'.length → d[j]! = l'.getD j 0) ∧ w' = rowWorld (Value.int .i64) w b n d os) :
  GCall P y f g [.own 0] [.arr (.ints .i64 l) ai] (fun g' r A O => g' = g ∧ r = .own 0 ∧ A = [.junk] ∧ O = [.arr (.ints .i64 l') ai]) := by
 refine ⟨enters_of hf hn hb, fun J hJs hR w S0 β vs hfr hj => callsIn_FW.2 ?_⟩
 obtain ⟨a, cap, hv, hcap, hno, hso⟩ := FR.intRow rfl hfr
 have hvs : vs = #[.slice a l.length cap] := by
  have hs : vs.size = 1 := hfr.size
  obtain ⟨L⟩ := vs
  match L, hs with
  | [x], _ => simp at hv; rw [hv]
 subst hvs
 have hnz : ai.nz = true → l.length = 0 → a = none := by
  have ht := hfr.env 0
  simp only [enumE, getE] at ht
  have e2 : (#[Value.slice a l.length cap]).getD 0 undef = .slice a l.length cap := rfl
  rw [e2] at ht
  cases ht with
  | pure h => cases h
  | own ho hlen hnz hn hb =>
   simp only [List.getElem?_cons_zero, Option.some.injEq, AObj.arr.injEq] at ho
   obtain ⟨rfl, rfl⟩ := ho
   exact hnz
 have o3 : ∀ j, β 0 (j + 1) = none := (hfr.objs 0 _ rfl).2.2.1
 by_cases h0 : l = []
 ·subst h0
  have : l' = [] := List.eq_nil_of_length_eq_zero (by simpa using hlen)
  subst this
  refine (hnil rfl a cap w).mono ?_
  rintro e w' ⟨rfl, rfl⟩
  refine GRet.row hJs (p' := .ints .i64 []) (as := [.junk]) (r := .own 0) hfr hj ⟨rfl, rfl, rfl, Nat.le_refl _, Nat.le_refl _, fun _ _ _ => rfl⟩ rfl ?_ ?_ (fun c h => ?_) ⟨rfl, rfl, rfl, rfl⟩
  ·refine intRow_obj (l := []) (Nat.le_refl _) (fun _ => rfl) o3 (fun b e => ?_)
   obtain ⟨_, _, _, cur, h5, _, _⟩ := hso b e
   exact ⟨cur, h5, Nat.zero_le _, fun j hj => by simp at hj⟩
  ·refine .own rfl rfl hnz (fun e => ⟨(hno e).2.1, (hno e).2.2⟩) (fun b e => ?_)
   obtain ⟨h1, h2, _, cur, h5, h6, _⟩ := hso b e
   exact ⟨h1, Nat.zero_le _, h2, by simp [World.shape?, h5, Pay.sz, h6]⟩
  ·have : c = 0 := by simpa using h
   subst this
   exact .pure (.junk _)
 ·cases hβ : β 0 0 with
  | none => exact absurd (hno hβ).1 h0
  | some b =>
   obtain ⟨rfl, hm, hbl, cur, h5, h6, hH⟩ := hso b hβ
   refine (hrow w b cap hH hbl hcap).mono ?_
   rintro e w' ⟨rfl, n, os, d, hd1, hd2, rfl⟩
   have hat := rowWorld_at (Value.int .i64) (n := n) (d := d) (os := os) h5
   refine GRet.row hJs (p' := .ints .i64 l') (as := [.junk]) (r := .own 0) hfr hj (by rw [hβ]; exact rowWorld_step _ _ _ _ _ _) rfl ?_ ?_ (fun c h => ?_) ⟨rfl, rfl, rfl, rfl⟩
   ·refine intRow_obj (l := l) hlen (fun e => by rw [hβ] at e; cases e) o3 (fun b' e => ?_)
    rw [hβ] at e; cases e
    refine ⟨_, hat, by rw [putCells_size]; omega, fun j hj => ?_⟩
    rw [putCells_get _ _ _ (by omega) (by omega), hd2 j hj]
   ·refine .own rfl rfl (fun _ e => absurd (hpos e) h0) (fun e => by rw [hβ] at e; cases e) (fun b' e => ?_)
    rw [hβ] at e; cases e
    exact ⟨rfl, by omega, hm, by simp [World.shape?, hat, putCells_size, Pay.sz, h6]⟩
   ·have : c = 0 := by simpa using h
    subst this
    exact .pure (.junk _)
end Go.AM
end

section
namespace Go.AM
open Go
theorem TV.dead {w : World} {S : CellSet} {β : Nat → Nat → Option Nat} {objs : List AObj} (hd : ∀ (i : Nat) (o : AObj), objs[i]? = some o → o = AObj.dead) (hβ : ∀ i j, β i j = none) {av : AV} {v : Value} (h : TV w S β objs av v) : TV w S β [] av v := by
 induction h with
 | pure h => exact .pure h
 | own ho => exact absurd (hd _ _ ho) (by simp)
 | ref hb => rw [hβ] at hb; cases hb
 | eref ho => exact absurd (hd _ _ ho) (by simp)
 | mapr hb => rw [hβ] at hb; cases hb
 | mh ho hm => rw [hd _ _ ho] at hm; exact hm.elim
 | hbox hsp hc hS hr ih => exact .hbox hsp hc hS ih
 | agg hl hr ih => exact .agg hl ih
 | tup hl hr ih => exact .tup hl ih
 | clo hl hr ih => exact .clo hl ih
theorem FR.dead {cx : Cx} {β : Nat → Nat → Option Nat} {n : Nat} {env : List (Nat × AV)} {objs : List AObj} {tmps : Array Value} {w : World} (h : FR cx β ⟨n, env, objs⟩ tmps w) (hd : ∀ (i : Nat) (o : AObj), objs[i]? = some o → o = AObj.dead) : FR cx β ⟨n, env, []⟩ tmps w := by
 have hβ : ∀ i j, β i j = none := fun i j => by
  cases ho : objs[i]? with
  | none => exact h.out i j ho
  | some o =>
   have hob := h.objs i o ho
   rw [hd i o ho] at hob
   exact hob j
 have hS : cx.S β objs = cx.S β [] := by
  funext b o
  refine propext ⟨fun hh => ?_, fun hh => ?_⟩
  ·rcases hh with hh | ⟨i, ob, h1, h2⟩
   ·exact .inl hh
   ·have := (claims_block h2).2.choose_spec; rw [hβ] at this; cases this
  ·rcases hh with hh | ⟨i, ob, h1, h2⟩
   ·exact .inl hh
   ·simp at h1
 refine ⟨h.keep, h.s0, h.inj, h.rng, fun i j _ => hβ i j, fun i o ho => by simp at ho, h.size, fun t => ?_⟩
 have := (h.env t).dead hd hβ
 simp only at this
 rw [hS] at this
 exact this
theorem ACall.frz {P : Program} {f : FuncId} {args : List AV} {Q Q' : AV → List AObj → Prop} (h : ACall P f args Q)
  (hq : ∀ r objs, Q r objs → ∃ (l : List Nat) (r' : AV) (n : Nat), (⟨1, [(0, r)], objs⟩ : St).freezeL l = ⟨1, [(0, r')], List.replicate n AObj.dead⟩ ∧ Q' r' []) : ACall P f args Q' :=
 ⟨h.enters, fun S0 w vs h1 h2 h3 => Calls.mono' (h.calls S0 w vs h1 h2 h3) fun e w' hr => by
  cases e with
  | returned v =>
   obtain ⟨r, objs, β, hq', hk, hf⟩ := hr
   obtain ⟨l, r', n, h4, h5⟩ := hq r objs hq'
   obtain ⟨β', hf'⟩ := FR.freezeL l _ _ hf
   rw [h4] at hf'
   exact ⟨r', [], β', h5, hk, hf'.dead fun i o ho => by
    rw [List.getElem?_replicate] at ho
    split at ho
    ·cases ho; rfl
    ·cases ho⟩
  | _ => exact hr⟩
theorem frz_none {r : AV} {Q' : AV → List AObj → Prop} (h : Q' r []) : ∃ (l : List Nat) (r' : AV) (n : Nat), (⟨1, [(0, r)], []⟩ : St).freezeL l = ⟨1, [(0, r')], List.replicate n AObj.dead⟩ ∧ Q' r' [] := ⟨[], r, 0, rfl, h⟩
theorem ACall.weak {P : Program} {f : FuncId} {args : List AV} {Q Q' : AV → List AObj → Prop} (h : ACall P f args Q)
  (hq : ∀ r objs, Q r objs → ∃ r', (∀ w S β v, TV w S β objs r v → TV w S β objs r' v) ∧ Q' r' objs) : ACall P f args Q' :=
 ⟨h.enters, fun S0 w vs h1 h2 h3 => Calls.mono' (h.calls S0 w vs h1 h2 h3) fun e w' hr => by
  cases e with
  | returned v =>
   obtain ⟨r, objs, β, hq', hk, hf⟩ := hr
   obtain ⟨r', h4, h5⟩ := hq r objs hq'
   refine ⟨r', objs, β, h5, hk, hf.keep, hf.s0, hf.inj, hf.rng, hf.out, hf.objs, hf.size, fun t => ?_⟩
   have := hf.env t
   cases t with
   | zero => exact h4 _ _ _ _ this
   | succ t => exact .pure (by simp [getE]; exact .junk _)
  | _ => exact hr⟩
def fillNil (p : Pay) : Nat → AV → AV
 | d, av => match av with
  | .lit (.slice none 0 0) => .pay p true
  | .agg cs => match d with
   | 0 => .agg cs
   | d + 1 => .agg (cs.map (fillNil p d))
  | .tup cs => match d with
   | 0 => .tup cs
   | d + 1 => .tup (cs.map (fillNil p d))
  | av => av
theorem PV.nil {w : World} {S : CellSet} {p : Pay} (hp : p.len = 0) : PV w S (.pay p true) (.slice none 0 0) :=
 .pay ⟨0, 0, none⟩ (fun _ _ => .bool false) hp (Nat.le_refl _) (fun j hj => by omega) (fun _ _ => rfl) (fun e => absurd rfl e) rfl (fun j c hj => by omega) (fun j c hj => by omega) (fun j c _ hj => by omega)
theorem fillNil_PV {w : World} {S : CellSet} {p : Pay} (hp : p.len = 0) : ∀ (d : Nat) (av : AV) (v : Value), PV w S av v → PV w S (fillNil p d av) v := by
 intro d
 induction d with
 | zero =>
  intro av v h
  unfold fillNil
  split
  ·cases h; exact PV.nil hp
  ·exact h
  ·exact h
  ·exact h
 | succ d ih =>
  intro av v h
  unfold fillNil
  split
  ·cases h; exact PV.nil hp
  ·cases h with | agg hl hr => exact .agg (by simpa using hl) fun c hc => by simpa using ih _ _ (hr c (by simpa using hc))
  ·cases h with | tup hl hr => exact .tup (by simpa using hl) fun c hc => by simpa using ih _ _ (hr c (by simpa using hc))
  ·exact h
theorem fillNil_TV {w : World} {S : CellSet} {β : Nat → Nat → Option Nat} {objs : List AObj} {p : Pay} (hp : p.len = 0) : ∀ (d : Nat) (av : AV) (v : Value), TV w S β objs av v → TV w S β objs (fillNil p d av) v := by
 intro d
 induction d with
 | zero =>
  intro av v h
  unfold fillNil
  split
  ·rw [TV_lit h]; exact .pure (PV.nil hp)
  ·exact h
  ·exact h
  ·exact h
 | succ d ih =>
  intro av v h
  unfold fillNil
  split
  ·rw [TV_lit h]; exact .pure (PV.nil hp)
  ·cases h with
   | pure h => cases h with | agg hl hr => exact .pure (.agg (by simpa using hl) fun c hc => by simpa using fillNil_PV hp d _ _ (hr c (by simpa using hc)))
   | agg hl hr => exact .agg (by simpa using hl) fun c hc => by simpa using ih _ _ (hr c (by simpa using hc))
  ·cases h with
   | pure h => cases h with | tup hl hr => exact .pure (.tup (by simpa using hl) fun c hc => by simpa using fillNil_PV hp d _ _ (hr c (by simpa using hc)))
   | tup hl hr => exact .tup (by simpa using hl) fun c hc => by simpa using ih _ _ (hr c (by simpa using hc))
  ·exact h
theorem ACall.nilArgs {P : Program} {f : FuncId} {args : List AV} {Q : AV → List AObj → Prop} (p : Pay) (hp : p.len = 0) (h : ACall P f (args.map (fillNil p 3)) Q) : ACall P f args Q :=
 ⟨h.enters, fun S0 w vs h1 h2 h3 => h.calls S0 w vs h1 (by simpa using h2) fun c hc => by simpa using fillNil_PV hp 3 _ _ (h3 c (by simpa using hc))⟩
theorem ACall.fill {P : Program} {f : FuncId} {args : List AV} {Q Q' : AV → List AObj → Prop} (p : Pay) (hp : p.len = 0) (h : ACall P f args Q) (hq : ∀ r objs, Q r objs → Q' (fillNil p 3 r) objs) : ACall P f args Q' :=
 h.weak fun r objs hr => ⟨_, fun _ _ _ _ ht => fillNil_TV hp 3 _ _ ht, hq r objs hr⟩
end Go.AM
end

section
namespace Go.AM
open Go
variable {P : Program} {T : Tys} {y : Yc}
theorem FR.virt {cx : Cx} {β : Nat → Nat → Option Nat} {st : St} {tmps : Array Value} {w : World} (h : FR cx β st tmps w) {i c : Nat} {cells : List AV} {p : Pay} (e : TypeId) (ho : st.objs[i]? = some (.box cells)) (hc : cells[c]? = some (.lit (.slice none 0 0))) (hp : p.len = 0) :
  ∃ β', FR cx β' { st with objs := (st.objs ++ [AObj.arr p ⟨e, true⟩]).set i (AObj.box (cells.set c (.own st.objs.length))) } tmps w := by
 have hil : i < st.objs.length := (List.getElem?_eq_some_iff.1 ho).1
 have h1 := h.newObj (AObj.arr p ⟨e, true⟩) none (KeepL.refl _ w) (by simp) (fun b e => by cases e) ⟨fun j hj => by omega, fun _ => hp, fun j => updB_succ, fun b e => by rw [updB_same] at e; cases e⟩
 have ho1 : (st.objs ++ [AObj.arr p ⟨e, true⟩])[i]? = some (.box cells) := by rw [List.getElem?_append_left hil]; exact ho
 obtain ⟨o1, b, o2, o3, o4⟩ := h1.objs i _ ho1
 refine ⟨_, h1.mut (.box (cells.set c (.own st.objs.length))) ho1 o2 (by simp) (by simp) (fun _ _ => rfl) rfl rfl rfl rfl (Nat.le_refl _) (fun _ _ h => h) (fun p nz e => by cases e) ⟨o1, b, o2, o3, fun c' hc' => ?_⟩⟩
 have hk : ArrKeep (st.objs ++ [AObj.arr p ⟨e, true⟩]) ((st.objs ++ [AObj.arr p ⟨e, true⟩]).set i (AObj.box (cells.set c (.own st.objs.length)))) := ArrKeep.of fun k o hq hbx => by
  by_cases hki : k = i
  ·subst hki; rw [ho1] at hq; cases hq; exact absurd rfl (hbx _)
  ·rw [List.getElem?_set_ne (Ne.symm hki)]; exact hq
 have hc0 : c' < cells.length := by simpa using hc'
 obtain ⟨v, hv1, hv2⟩ := o4 c' hc0
 refine ⟨v, hv1, ?_⟩
 by_cases hcc : c = c'
 ·subst hcc
  have e1 : cells[c] = .lit (.slice none 0 0) := by rw [List.getElem?_eq_getElem hc0] at hc; exact Option.some.inj hc
  rw [e1] at hv2
  rw [TV_lit hv2]
  simp only [List.getElem_set_self]
  refine .own (p := p) (nz := ⟨e, true⟩) ?_ (by rw [hp]) (fun _ _ => rfl) (fun _ => ⟨rfl, rfl⟩) (fun b hb => ?_)
  ·rw [List.getElem?_set_ne (by omega)]; simp
  ·simp only [updB_same] at hb; cases hb
 ·simp only [List.getElem_set_ne hcc]
  exact hv2.step (Keeps.refl _ _) (fun _ _ _ _ h => h) hk (fun _ _ _ h => h) (fun _ _ _ _ h => h) (fun _ _ h => h)
theorem awp_virt {g : Gh} {code : Code} {st : St} {Q : Gh → Exit → St → Prop} {i c : Nat} {cells : List AV} {p : Pay} (e : TypeId) (ho : st.objs[i]? = some (.box cells)) (hc : cells[c]? = some (.lit (.slice none 0 0))) (hp : p.len = 0)
  (h : AWP P y g code { st with objs := (st.objs ++ [AObj.arr p ⟨e, true⟩]).set i (AObj.box (cells.set c (.own st.objs.length))) } Q) : AWP P y g code st Q := by
 intro J hJ hR pn nr hpn ro hro B cx β tmps w ds hfr hm hj hpin
 obtain ⟨β0, hf0⟩ := hfr.anchor.virt e ho hc hp
 obtain ⟨hj0, hm0⟩ := Inv.walk (cx := cx) hJ hfr hm hj hf0
 exact h J hJ hR pn nr hpn ro hro B _ β0 _ w _ hf0 hm0 hj0 hpin
end Go.AM
end

section
namespace Go.AM
open Go
variable {P : Program} {T : Tys} {y : Yc}
def updEnv : List (Nat × AV) → List (Nat × AV) → List (Nat × AV)
 | [], e => e
 | (t, v) :: r, e => updEnv r (putE t v e)
def updObjs : List (Nat × AObj) → List AObj → List AObj
 | [], o => o
 | (i, x) :: r, o => updObjs r (o.set i x)
def St.upd (st : St) (e : List (Nat × AV)) (o : List (Nat × AObj)) : St := ⟨st.n, updEnv e st.env, updObjs o st.objs⟩
attribute [push_cast] updEnv updObjs St.upd
theorem awp_upd (hT : TyOk P T) (cfg : VCfg) (N : Nat) {g : Gh} {c : Code} {st : St} {Q : Gh → Exit → St → Prop} (keys : List Nat) (m : Nat) (R : Nat → Prop) (E : Nat → List (Nat × AV)) (O : Nat → List (Nat × AObj)) (hd : codeD P cfg c = true) (h0 : st.gc keys = (st.gc keys).upd (E 0) (O 0)) (r0 : R 0)
  (h : ∀ i, i ≤ m → R i → vc P T cfg y N g [.code c] ((st.gc keys).upd (E i) (O i)) (uptoQ g m R (fun i => (st.gc keys).upd (E i) (O i)) keys i Q)) : AWP P y g (.loop c) st Q :=
 awp_upto hT cfg N keys m R _ hd h0 r0 h
theorem bool_beq (a b : Bool) : ((a == b) = true) = (a = b) := by cases a <;> cases b <;> simp
theorem bool_beqf (a b : Bool) : ((a == b) = false) = (a ≠ b) := by cases a <;> cases b <;> simp
attribute [push_cast] beq_self_eq_true bne_self_eq_false' bool_beq bool_beqf
end Go.AM
end

section
namespace Go.AM
open Go
variable {P : Program} {T : Tys} {y : Yc}
theorem awp_freeze {g : Gh} {code : Code} {st : St} {Q : Gh → Exit → St → Prop} (l : List Nat) (h : AWP P y g code (st.freezeL l) Q) : AWP P y g code st Q := by
 intro J hJ hR pn nr hpn ro hro B cx β tmps w ds hfr hm hj hpin
 obtain ⟨β0, hf0⟩ := FR.freezeL l _ _ hfr.anchor
 obtain ⟨hj0, hm0⟩ := Inv.walk (cx := cx) hJ hfr hm hj hf0
 exact h J hJ hR pn nr hpn ro hro B _ β0 _ w _ hf0 hm0 hj0 hpin
end Go.AM
end

section
namespace Go.AM
open Go
variable {P : Program} {T : Tys} {y : Yc}
theorem FR.toTrie {cx : Cx} {β : Nat → Nat → Option Nat} {st : St} {tmps : Array Value} {w : World} (h : FR cx β st tmps w) {i : Nat} {cs : List AV} (ho : st.objs[i]? = some (.box (.bool false :: cs))) (hcs : nilPs cs = true) :
  ∃ b β', FR cx β' (st.remap (absL i i b) i (.trie cs.length [⟨[], b, false⟩])) tmps w := by
 have hil : i < st.objs.length := (List.getElem?_eq_some_iff.1 ho).1
 obtain ⟨o1, b, o2, o3, o4⟩ := h.objs i _ ho
 have hkS : Keeps (cx.S β st.objs) w w := Keeps.refl _ _
 have hS : ∀ b' o v, w.cell? ⟨b', o, none⟩ = some v → ¬ cx.S β st.objs b' o → ¬ cx.S (updB β i (some b)) (st.remap (absL i i b) i (.trie cs.length [⟨[], b, false⟩])).objs b' o := fun b' o v hc hn hs => by
  rcases hs with hs | hs
  ·exact hn (.inl hs)
  ·rcases remap_claim hil hs with ⟨_, e⟩ | ⟨k, o1', hk, ho1, hc1⟩
   ·cases e; exact hn (h.S_own o2 o)
   ·exact hn (.inr ⟨k, o1', ho1, hc1⟩)
 refine ⟨b, _, h.remap (f := absL i i b) (.trie cs.length [⟨[], b, false⟩]) (some b) ho hkS (Nat.le_refl _) h.keep hS (fun _ _ _ _ _ => rfl) (fun b' e => ?_) (fun av v hh ht => ?_) ?_⟩
 ·cases e
  exact ⟨(h.rng i 0 b o2).1, (h.rng i 0 b o2).2, fun k j hk e => hk (h.inj _ _ _ _ _ e o2).1⟩
 ·have hget : ∀ k o, k ≠ i → st.objs[k]? = some o → (st.remap (absL i i b) i (.trie cs.length [⟨[], b, false⟩])).objs[k]? = some (o.mapH (absL i i b)) := fun k o hk e => by
   simp only [St.remap, List.getElem?_set_ne (Ne.symm hk), List.getElem?_map, e]; rfl
  have hgi : (st.remap (absL i i b) i (.trie cs.length [⟨[], b, false⟩])).objs[i]? = some (.trie cs.length [⟨[], b, false⟩]) := by
   simp [St.remap, hil]
  have hB : ∀ k j, k ≠ i → updB β i (some b) k j = β k j := fun k j hk => updB_ne hk j
  rcases isH_cases hh with ⟨a, rfl⟩ | ⟨a, o, rfl⟩ | ⟨a, jj, c, rfl⟩ | ⟨a, rfl⟩ | ⟨a, x, rfl⟩ <;> simp only [absL] <;> rcases beq_cases a i with ⟨e, rfl⟩ | ⟨e, hne⟩ <;> rw [e]
  ·exact .pure (.junk _)
  ·cases ht with
   | pure h => cases h
   | own ho' hlen hnz hn hb => exact .own (hget _ _ hne ho') hlen hnz (fun e => hn (by rw [← hB a 0 hne]; exact e)) (fun b' e => hb b' (by rw [← hB a 0 hne]; exact e))
  ·cases o with
   | succ o => exact .pure (.junk _)
   | zero =>
    cases ht with
    | pure h => cases h
    | ref hb =>
     rw [o2] at hb; cases hb
     exact .mh hgi rfl
  ·cases ht with
   | pure h => cases h
   | ref hb => exact .ref ((hB a 0 hne).trans hb)
  ·exact .pure (.junk _)
  ·cases ht with
   | pure h => cases h
   | eref ho' hb hj => exact .eref (hget _ _ hne ho') ((hB a 0 hne).trans hb) hj
  ·exact .pure (.junk _)
  ·cases ht with
   | pure h => cases h
   | mapr hb => exact .mapr ((hB a 0 hne).trans hb)
  ·exact .pure (.junk _)
  ·cases ht with
   | pure h => cases h
   | @mh _ _ o _ ho' hm =>
    cases o with
    | nest rows' hole'' gone'' ai' e2' am' => exact .mh (hget _ _ hne ho') (hm.step (fun c => hB a c hne) (fun _ _ _ _ hx => hx))
    | arr p ai => exact .mh (hget _ _ hne ho') (hm.arr (fun b' e' => (hB a 0 hne).trans e') rfl rfl)
    | trie m T => exact .mh (hget _ _ hne ho') hm.trie
    | _ => exact hm.elim
 ·refine ⟨by simp, fun q z hq => ?_, fun j => ?_, fun t ht => ?_⟩
  ·exfalso
   unfold lkT at hq
   split at hq
   ·rename_i e; simp at e
   ·cases hq
  ·cases j with
   | zero => exact updB_same
   | succ j => exact updB_succ
  ·simp only [List.mem_singleton] at ht
   subst ht
   refine ⟨o3, ?_, fun x hx => ?_⟩
   ·obtain ⟨v, g1, g2⟩ := o4 0 (by simp)
    simp only [List.getElem_cons_zero] at g2
    rw [g1]
    cases g2 with | pure g2 => cases g2; rfl
   ·obtain ⟨v, g1, g2⟩ := o4 (1 + x) (by simp; omega)
    have e9 : (AV.bool false :: cs)[1 + x]'(by simp; omega) = .lit (.pointer none) := by
     simp only [Nat.add_comm 1 x, List.getElem_cons_succ]
     exact nilPs_get hcs hx
    rw [e9] at g2
    rw [g1]
    have : kidT [⟨[], b, false⟩] [] x = none := by simp [kidT, lkT]
    rw [this]
    cases g2 with | pure g2 => cases g2; rfl
theorem awp_trie {g : Gh} {code : Code} {st : St} {Q : Gh → Exit → St → Prop} (i : Nat) {cs : List AV} (ho : st.objs[i]? = some (.box (.bool false :: cs))) (hcs : nilPs cs = true)
  (h : ∀ b, AWP P y g code (st.remap (absL i i b) i (.trie cs.length [⟨[], b, false⟩])) Q) : AWP P y g code st Q := by
 intro J hJ hR pn nr hpn ro hro B cx β tmps w ds hfr hm hj hpin
 obtain ⟨b, β0, hf0⟩ := hfr.anchor.toTrie ho hcs
 obtain ⟨hj0, hm0⟩ := Inv.walk (cx := cx) hJ hfr hm hj hf0
 exact h b J hJ hR pn nr hpn ro hro B _ β0 _ w _ hf0 hm0 hj0 hpin
end Go.AM
end

section
namespace Go.AM
open Go
section
variable {P : Program} {T : Tys} {y : Yc}
def cutC : Nat → Code → List Code
 | k + 1, .seq a b => a :: cutC k b
 | _, _ => []
def restC : Nat → Code → Code
 | k + 1, .seq _ b => restC k b
 | _, c => c
def codesI : List Code → List Item
 | [] => []
 | c :: r => .code c :: codesI r
theorem cut_eq : ∀ (k : Nat) (c : Code), (cutC k c).foldr Code.seq (restC k c) = c
 | 0, c => by simp [cutC, restC]
 | k + 1, c => by
  cases c <;> simp [cutC, restC, cut_eq k]
theorem semX_codes_ne {ro : Option Nat} {ld : Oper → Bool} {Q : Exit → Act → World → Prop} {e : Exit} (he : e ≠ .normal) : ∀ (l : List Code) {a : Act} {w : World} {S : CellSet}, semX ro ld P (codesI l) Q e a w S → Q e a w
 | [], _, _, _, h => h
 | c :: l, a, w, S, h => by
  cases e with
  | normal => exact absurd rfl he
  | _ => exact semX_codes_ne he l h
theorem wpIn_codes {ro : Option Nat} {ld : Oper → Bool} {Q Q' : Exit → Act → World → Prop} {b : Code} (h1 : ∀ a w, Q .normal a w → b.wpIn (FW ro) 0 P Q' a w) (h2 : ∀ e a w, e ≠ .normal → Q e a w → Q' e a w) :
  ∀ (l : List Code) {a : Act} {w : World} {S : CellSet}, semX ro ld P (codesI l) Q .normal a w S → (l.foldr Code.seq b).wpIn (FW ro) 0 P Q' a w
 | [], _, _, _, h => h1 _ _ h
 | c :: l, a, w, S, h => by
  refine wpIn_seq (wpIn_mono h fun e a w hq => ?_)
  obtain ⟨S, hq⟩ := hq
  cases e with
  | normal => exact wpIn_codes h1 h2 l hq
  | _ => exact h2 _ _ _ (by simp) (semX_codes_ne (by simp) l hq)
def cutQ (R : Gh → St → Prop) (keys : List Nat) (Q : Gh → Exit → St → Prop) : Gh → Exit → St → Prop := fun g e st =>
 match e with
 | .normal => R g (st.gc keys)
 | e => Q g e st
theorem codes_W {ks : List Nat} {nr : Bool} {b : Code} : ∀ (l : List Code), codeW ks nr (l.foldr Code.seq b) = true → (codesI l).all (itemW ks nr) = true ∧ codeW ks nr b = true
 | [], h => ⟨rfl, h⟩
 | c :: l, h => by
  simp only [List.foldr_cons, codeW, Bool.and_eq_true] at h
  obtain ⟨i1, i2⟩ := codes_W l h.2
  refine ⟨?_, i2⟩
  simp only [codesI, List.all_cons, Bool.and_eq_true]
  exact ⟨h.1, i1⟩
theorem codes_D {cfg : VCfg} {b : Code} : ∀ (l : List Code), codeD P cfg (l.foldr Code.seq b) = true → (codesI l).all (itemD P cfg) = true ∧ codeD P cfg b = true
 | [], h => ⟨rfl, h⟩
 | c :: l, h => by
  simp only [List.foldr_cons, codeD, Bool.and_eq_true] at h
  obtain ⟨i1, i2⟩ := codes_D l h.2
  refine ⟨?_, i2⟩
  simp only [codesI, List.all_cons, Bool.and_eq_true]
  exact ⟨h.1, i1⟩
theorem awp_cut (hT : TyOk P T) (cfg : VCfg) (N k : Nat) {g : Gh} {c : Code} {st : St} {Q : Gh → Exit → St → Prop} (keys : List Nat) (R : Gh → St → Prop) (hd : codeD P cfg c = true)
  (h1 : vc P T cfg y N g (codesI (cutC k c)) st (cutQ R keys Q)) (h2 : ∀ g st, R g st → AWP P y g (restC k c) st Q) : AWP P y g c st Q := by
 intro J hJ hR pn nr hpn ro hro B cx β tmps w ds hfr hm hj hp
 have e := cut_eq k c
 rw [← e] at hpn hd ⊢
 obtain ⟨w1, w2⟩ := codes_W _ hpn
 obtain ⟨d1, _⟩ := codes_D _ hd
 refine wpIn_codes (Q := QV J pn B (cutQ R keys Q)) (fun a w hq => ?_) (fun e a w he hq => ?_) _ (vc_ok (ro := ro) hT cfg hJ hR pn nr hro B _ N g _ _ h1 w1 d1 cx β tmps w ds hfr hm hj hp)
 ·obtain ⟨cx2, β2, g2, st2, hq, hf2, hm2, hj2, hp2⟩ := hq
  obtain ⟨β3, hf3⟩ := hf2.anchor.gc keys
  obtain ⟨hj3, hm3⟩ := Inv.walk (cx := cx2) hJ hf2 hm2 hj2 hf3
  exact h2 _ _ hq J hJ hR pn nr w2 ro hro B _ β3 _ w _ hf3 hm3 hj3 hp2
 ·obtain ⟨cx2, β2, g2, st2, hq, h⟩ := hq
  refine ⟨cx2, β2, g2, st2, ?_, h⟩
  cases e with
  | normal => exact absurd rfl he
  | _ => exact hq
theorem acall_awp (hT : TyOk P T) {f : FuncId} {fn : Func} {c : Code} {args : List AV} {Q : AV → List AObj → Prop} (rs : List ResultVar) (hf : P.funcs[f]? = some fn) (hb : fn.body = some c)
  (hn : (fn.name == "runtime.NumGoroutine") = false) (hr : fn.results = rs.toArray)
  (h : AWP P noY (false, 0) c ⟨args.length + (fn.ntmps - args.length), enumE 0 args, []⟩ (retC T rs Q)) : ACall P f args Q := by
 refine ⟨enters_of hf hn (by rw [hb]; rfl), fun S0 w vs hS hl ha => ?_⟩
 refine (callsIn_FW (ro := none) (n := 0)).1 ?_
 refine callsIn_of_wp_marks hf hb trivial ?_
 have hfr : FR ⟨w, S0, fun _ => False⟩ (fun _ _ => none) ⟨args.length + (fn.ntmps - args.length), enumE 0 args, []⟩ (vs ++ Array.replicate (fn.ntmps - vs.size) undef) w := by
  refine ⟨KeepL.refl _ _, fun b o hs => ⟨hS b o hs, id⟩, fun _ _ _ _ _ h => (by cases h), fun _ _ _ h => (by cases h), fun _ _ _ => rfl, fun i o ho => by simp at ho, by simp [hl], fun t => ?_⟩
  rcases getE_enumE args 0 t with ⟨c, h, h1, h2⟩ | h
  ·rw [h2]
   have h1 : t = c := by omega
   subst h1
   have hv : t < vs.size := by omega
   have e : (vs ++ Array.replicate (fn.ntmps - vs.size) undef).getD t undef = vs[t]! := by
    rw [getElem!_pos vs t hv, Array.getD_eq_getD_getElem?, Array.getElem?_append_left hv, Array.getElem?_eq_getElem hv]
    rfl
   rw [e]
   refine .pure ((ha t h).keeps (Keeps.refl _ _) fun b o v _ hn hs => ?_)
   rcases hs with hs | ⟨i, ob, h1, _⟩
   ·exact hn hs
   ·simp at h1
  ·rw [h]; exact .pure (.junk _)
 let J : Inv := fun _ w1 Cc Ci => Cc = S0 ∧ KeepL (fun _ => False) w w1 ∧ ∀ b, blkOf Ci b → w.heap.size ≤ b
 have hJ : J.stable := by
  rintro g w1 w2 Cc Ci Ci' ⟨rfl, hk, hge⟩ hk2 h1 _ _
  refine ⟨rfl, ⟨hk2.os.trans hk.os, hk2.tape.trans hk.tape, hk2.output.trans hk.output, Nat.le_trans hk.drawn hk2.drawn, Nat.le_trans hk.size hk2.size, fun k hlt _ => ?_⟩, fun b hb => ?_⟩
  ·rw [hk2.block k (Nat.lt_of_lt_of_le hlt hk.size) fun hb => by have := hge k hb; omega]
   exact hk.block k hlt id
  ·by_cases hlt : b < w1.heap.size
   ·exact hge b (h1 b hb hlt)
   ·have := hk.size; omega
 have hR : Rounds P noY J := fun k hk => absurd hk (Nat.not_lt_zero _)
 refine wpIn_mono (h J hJ hR [] false (by
  exact codeW_nil c) none (fun _ => rfl) w.heap.size _ _ _ w [] hfr (Mk.nil (Nat.le_refl _)) ⟨rfl, KeepL.refl _ _, fun b hb => ?_⟩ (fun tv ht => by cases ht)) (fun e a' w' hq => ?_)
 ·rcases blkOf_claimM.1 hb with ⟨o, i, ob, h1, _⟩ | hb
  ·simp at h1
  ·exact absurd hb mkB_nil
 obtain ⟨cx, β1, g1, st, hq, hf1, hm1, hj1, _⟩ := hq
 have fin : retC1 Q st (resA T st rs) → LeavesInM (FW none) 0 P fn a'.tmps (ACallR w S0 Q) a'.defers .returning w' := fun hq => by
  refine leaves_marks _ _ hm1.one (fun d hd => let ⟨r, h1, _, h3, _⟩ := hm1.ok d hd; ⟨r, h1, h3⟩) (fun w2 hw2 => ?_)
  have hf2 := hf1.offM hm1 hw2
  obtain ⟨hS0, hk2, hge⟩ := J_offM (g := g1) hJ hf1 hm1 hw2 hj1
  cases hra : resA T st rs with
  | none => rw [hra] at hq; exact hq.elim
  | some avs =>
   rw [hra] at hq
   obtain ⟨v, hrun, htv⟩ := results_run hT hr hf2 hra
   refine ⟨v, hrun, ?_⟩
   obtain ⟨β3, hf3, hl3⟩ := endS_ok hf2 (l := [resR avs]) (vs := #[v]) rfl (fun k hk => by
    have : k = 0 := by simpa using hk
    subst this; exact htv)
   unfold retC1 at hq
   simp only at hq
   generalize hsn : sndE (endS st [resR avs]).env = sn at hq hf3 hl3
   match sn, hl3, hq, hf3 with
   | [r], _, hq, hf3 =>
    refine ⟨r, _, β3, hq, hk2, ⟨hk2, fun b o hs => ⟨hS b o hs, id⟩, hf3.inj, fun i j b hb => ⟨(hf3.rng i j b hb).1, fun hlt => ?_⟩, hf3.out, fun i o ho => ?_, hf3.size, fun t => ?_⟩⟩
    ·obtain ⟨i', j', e⟩ := (hf3.rng i j b hb).2 (hf3.rng i j b hb).1
     exact absurd hlt (Nat.not_lt.2 (hge b ((blkOf_claim hf2 b).1 ⟨i', j', e⟩)))
    ·have := hf3.objs i o ho
     unfold Cx.S at this ⊢
     simp only [hS0] at this
     exact this
    ·have := hf3.env t
     unfold Cx.S at this ⊢
     simp only [hS0] at this
     exact this
 cases e with
 | normal => exact fin hq
 | ret => exact fin hq
 | _ => exact hq.elim
theorem gcall_awp (hT : TyOk P T) {f : FuncId} {fn : Func} {c : Code} {g : Gh} {args : List AV} {objs : List AObj} {Q : QG} (rs : List ResultVar) (ks : List Nat) (hf : P.funcs[f]? = some fn) (hb : fn.body = some c)
  (hn : (fn.name == "runtime.NumGoroutine") = false) (hr : fn.results = rs.toArray) (hks : ks.all (fun k => Nat.blt k args.length) = true) (hw : codeW ks false c = true)
  (h : AWP P y g c ⟨args.length + (fn.ntmps - args.length), enumE 0 args, objs⟩ (retG T rs ks args.length Q)) : GCall P y f g args objs Q := by
 refine ⟨enters_of hf hn (by rw [hb]; rfl), fun J hJ hR w S0 β vs hfr0 hj0 => ?_⟩
 have hl : args.length = vs.size := hfr0.size.symm
 refine callsIn_of_wp_marks hf hb trivial ?_
 have hget : ∀ t, t < vs.size → (vs ++ Array.replicate (fn.ntmps - vs.size) undef)[t]? = vs[t]? := fun t ht => Array.getElem?_append_left ht
 have hfr : FR ⟨w, S0, ownB β⟩ β ⟨args.length + (fn.ntmps - args.length), enumE 0 args, objs⟩ (vs ++ Array.replicate (fn.ntmps - vs.size) undef) w := hfr0.reenv (st := ⟨args.length, enumE 0 args, objs⟩) (by simp [hl]) fun t => by
  rcases getE_enumE args 0 t with ⟨c, hc, h1, h2⟩ | h2
  ·have h1 : t = c := by omega
   subst h1
   have := hfr0.env t
   have e : (vs ++ Array.replicate (fn.ntmps - vs.size) undef).getD t undef = vs.getD t undef := by
    rw [Array.getD_eq_getD_getElem?, hget t (by omega), Array.getD_eq_getD_getElem?]
   rw [e]; exact this
  ·rw [h2]; exact .pure (.junk _)
 let pn : Pins := ks.map fun k => (k, vs[k]!)
 have hpk : pn.ks = ks := by simp [pn, Pins.ks, Function.comp_def]
 have hpin : Pin pn (vs ++ Array.replicate (fn.ntmps - vs.size) undef) := fun tv ht => by
  obtain ⟨k, hk, rfl⟩ := List.mem_map.1 ht
  have hlt : k < args.length := by simpa using List.all_eq_true.1 hks k hk
  simp only
  rw [hget k (by omega), getElem!_pos vs k (by omega)]
  exact Array.getElem?_eq_getElem _
 refine wpIn_mono (h J hJ hR pn false (by rw [hpk]; exact hw) none (fun _ => rfl) w.heap.size _ _ _ w [] hfr (Mk.nil (Nat.le_refl _)) ?_ hpin) (fun e a' w' hq => ?_)
 ·exact hJ _ _ _ _ _ _ hj0 (KeepL.refl _ _) (fun b hb _ => (blkOf_claimM.1 hb).resolve_right mkB_nil) (fun b hb => by
   obtain ⟨i, j, e⟩ := (blkOf_claim hfr b).2 ((blkOf_claimM.1 hb).resolve_right mkB_nil)
   exact (hfr.rng _ _ _ e).1) (fun b hb hc => by
   obtain ⟨i, j, e⟩ := (blkOf_claim hfr b).2 ((blkOf_claimM.1 hb).resolve_right mkB_nil)
   obtain ⟨o, hc⟩ := hc
   exact hfr.notS0 e o hc)
 obtain ⟨cx, β1, g1, st, hq, hf1, hm1, hj1, hp1⟩ := hq
 have fin : retG1 Q g1 ks args.length st (resA T st rs) → LeavesInM (FW none) 0 P fn a'.tmps (GRet J args.length vs Q) a'.defers .returning w' := fun hq => by
  refine leaves_marks _ _ hm1.one (fun d hd => let ⟨r, h1, _, h3, _⟩ := hm1.ok d hd; ⟨r, h1, h3⟩) (fun w2 hw2 => ?_)
  have hf2 := hf1.offM hm1 hw2
  have hj2 := J_offM (g := g1) hJ hf1 hm1 hw2 hj1
  cases hra : resA T st rs with
  | none => rw [hra] at hq; exact hq.elim
  | some avs =>
   rw [hra] at hq
   obtain ⟨v, hrun, htv⟩ := results_run hT hr hf2 hra
   refine ⟨v, hrun, ?_⟩
   have hlen : (pinE st.env ks 0 args.length).length = args.length := pinE_len _ _ _ _
   obtain ⟨β3, hf3, hl3⟩ := endS_ok hf2 (l := resR avs :: pinE st.env ks 0 args.length) (vs := #[v] ++ vs) (by rw [List.length_cons, hlen, hl]; simp; omega) (fun k hk => by
    cases k with
    | zero =>
     have e : (#[v] ++ vs)[0]! = v := by rw [getElem!_pos (#[v] ++ vs) 0 (by simp; omega)]; simp
     rw [e]; exact htv
    | succ k =>
     have hk' : k < (pinE st.env ks 0 args.length).length := by simpa using hk
     have hkv : k < vs.size := by omega
     have e : (#[v] ++ vs)[k + 1]! = vs[k]! := by
      rw [getElem!_pos (#[v] ++ vs) (k + 1) (by simp; omega), getElem!_pos vs k hkv, Array.getElem_append_right (by simp)]
      simp
     rw [e]
     simp only [List.getElem_cons_succ]
     rw [pinE_get st.env ks args.length 0 k hk']
     simp only [Nat.zero_add]
     cases hel : elemN k ks with
     | false => exact .pure (.junk _)
     | true =>
      have hmem := elemN_iff.1 hel
      have := hp1 (k, vs[k]!) (List.mem_map.2 ⟨k, hmem, rfl⟩)
      simp only at this
      have h4 := hf2.env k
      have e5 : a'.tmps.getD k undef = vs[k]! := by rw [Array.getD_eq_getD_getElem?, this]; rfl
      rw [e5] at h4
      exact h4)
   have hne : sndE (endS st (resR avs :: pinE st.env ks 0 args.length)).env ≠ [] := fun e => by rw [e] at hl3; simp at hl3
   unfold retG1 at hq
   simp only at hq
   generalize hsn : sndE (endS st (resR avs :: pinE st.env ks 0 args.length)).env = sn at hq hf3 hl3 hne
   cases sn with
   | nil => exact absurd rfl hne
   | cons r as =>
    have hal : as.length = args.length := by simp [hlen] at hl3; exact hl3
    refine ⟨g1, r, as, _, cx.S0, β3, hq, hal, ?_, ?_⟩
    ·have hf4 := hf3.anchor
     have : (resR avs :: pinE st.env ks 0 args.length).length = args.length + 1 := by simp [hlen]
     rw [this] at hf4
     exact hf4
    ·refine J_sub (cx := ⟨w2, cx.S0, ownB β1⟩) (st' := ⟨(resR avs :: pinE st.env ks 0 args.length).length, enumE 0 (r :: as), (endS st (resR avs :: pinE st.env ks 0 args.length)).objs⟩) hJ rfl hf2 hf3 (fun b ⟨i, j, e⟩ => ?_) hj2
     have := (hf3.rng _ _ _ e).1
     exact (hf3.rng _ _ _ e).2 this
 cases e with
 | normal => exact fin hq
 | ret => exact fin hq
 | _ => exact hq.elim
theorem cutQ_normal {R : Gh → St → Prop} {keys : List Nat} {Q : Gh → Exit → St → Prop} {g : Gh} {st : St} : cutQ R keys Q g .normal st = R g (st.gc keys) := rfl
theorem cutQ_ret {R : Gh → St → Prop} {keys : List Nat} {Q : Gh → Exit → St → Prop} {g : Gh} {st : St} : cutQ R keys Q g .ret st = Q g .ret st := rfl
theorem cutQ_exit {R : Gh → St → Prop} {keys : List Nat} {Q : Gh → Exit → St → Prop} {g : Gh} {id : Nat} {st : St} : cutQ R keys Q g (.exit id) st = Q g (.exit id) st := rfl
end
attribute [push_cast] cutQ_normal cutQ_ret cutQ_exit cutC restC codesI
end Go.AM
end

section
namespace Go.AM
open Go
variable {P : Program} {T : Tys} {y : Yc}
def Weak (st st' : St) : Prop := ∀ cx β tmps w, FR cx β st tmps w → ∃ β', FR cx β' st' tmps w
theorem Weak.refl (st : St) : Weak st st := fun _ β _ _ h => ⟨β, h⟩
theorem Weak.trans {a b c : St} (h : Weak a b) (h' : Weak b c) : Weak a c := fun cx β tmps w hf => by
 obtain ⟨β1, h1⟩ := h cx β tmps w hf
 exact h' cx β1 tmps w h1
theorem Weak.gc (st : St) (keys : List Nat) : Weak st (st.gc keys) := fun _ _ _ _ h => h.gc keys
inductive JLe : AV → AV → Prop
 | junk (a : AV) : JLe a .junk
 | refl (a : AV) : JLe a a
 | agg {cs ds : List AV} (hl : cs.length = ds.length) (h : ∀ c (h : c < cs.length) (h' : c < ds.length), JLe cs[c] ds[c]) : JLe (.agg cs) (.agg ds)
theorem JLe.tv {w : World} {S : CellSet} {β : Nat → Nat → Option Nat} {objs : List AObj} {a b : AV} (h : JLe a b) : ∀ {v : Value}, TV w S β objs a v → TV w S β objs b v := by
 induction h with
 | junk a => exact fun _ => .pure (.junk _)
 | refl a => exact fun h => h
 | @agg cs ds hl h ih =>
  intro v hv
  cases hv with
  | pure hv => cases hv with
   | agg hl2 hr => exact .agg (by omega) fun c hc => ih c (by omega) hc (.pure (hr c (by omega)))
  | agg hl2 hr => exact .agg (by omega) fun c hc => ih c (by omega) hc (hr c (by omega))
theorem Weak.env {st : St} {env : List (Nat × AV)} (h : ∀ t, JLe (getE t st.env) (getE t env)) : Weak st { st with env := env } := fun _ β _ _ hf =>
 ⟨β, hf.reenv (st := st) hf.size fun t => (h t).tv (hf.env t)⟩
theorem getE_putE {t u : Nat} {v : AV} : ∀ {env : List (Nat × AV)}, getE t (putE u v env) = if u = t then v else getE t env
 | [] => by
  simp only [putE, getE]
  rcases beq_cases u t with ⟨e, rfl⟩ | ⟨e, h⟩
  ·rw [e]; simp
  ·rw [e]; simp [h]
 | (a, x) :: r => by
  have ih := getE_putE (t := t) (u := u) (v := v) (env := r)
  simp only [putE]
  rcases beq_cases a u with ⟨e, rfl⟩ | ⟨e, h⟩
  ·rw [e]
   simp only [getE]
   rcases beq_cases a t with ⟨e2, rfl⟩ | ⟨e2, h2⟩
   ·rw [e2]; simp
   ·rw [e2]; simp [h2]
  ·rw [e]
   simp only [getE]
   rcases beq_cases a t with ⟨e2, rfl⟩ | ⟨e2, h2⟩
   ·rw [e2]; simp [Ne.symm h]
   ·rw [e2]; exact ih
theorem Weak.put {st : St} (u : Nat) (v : AV) (h : JLe (getE u st.env) v) : Weak st { st with env := putE u v st.env } := .env fun t => by
 rw [getE_putE]
 split
 ·rename_i e; subst e; exact h
 ·exact .refl _
theorem awp_weak {g : Gh} {code : Code} {st st' : St} {Q : Gh → Exit → St → Prop} (hw : Weak st st') (h : AWP P y g code st' Q) : AWP P y g code st Q := by
 intro J hJ hR pn nr hpn ro hro B cx β tmps w ds hfr hm hj hpin
 obtain ⟨β0, hf0⟩ := hw _ _ _ _ hfr.anchor
 obtain ⟨hj0, hm0⟩ := Inv.walk (cx := cx) hJ hfr hm hj hf0
 exact h J hJ hR pn nr hpn ro hro B _ β0 _ w _ hf0 hm0 hj0 hpin
def loopWQ (I : Nat → Gh → St → Prop) (n : Nat) (Q : Gh → Exit → St → Prop) : Gh → Exit → St → Prop := fun g e st =>
 match e with
 | .normal => ∃ m st', m < n ∧ Weak st st' ∧ I m g st'
 | e => Q g e st
theorem loopWQ_normal {I : Nat → Gh → St → Prop} {n : Nat} {Q : Gh → Exit → St → Prop} {g : Gh} {st : St} : loopWQ I n Q g .normal st = ∃ m st', m < n ∧ Weak st st' ∧ I m g st' := rfl
theorem loopWQ_exit {I : Nat → Gh → St → Prop} {n : Nat} {Q : Gh → Exit → St → Prop} {g : Gh} {st : St} {id : Nat} : loopWQ I n Q g (.exit id) st = Q g (.exit id) st := rfl
theorem loopWQ_ret {I : Nat → Gh → St → Prop} {n : Nat} {Q : Gh → Exit → St → Prop} {g : Gh} {st : St} : loopWQ I n Q g .ret st = Q g .ret st := rfl
attribute [push_cast] loopWQ_normal loopWQ_exit loopWQ_ret
theorem awp_loopW (hT : TyOk P T) (cfg : VCfg) (N : Nat) {g : Gh} {c : Code} {st st0 : St} {Q : Gh → Exit → St → Prop} (I : Nat → Gh → St → Prop) (n : Nat) (hd : codeD P cfg c = true) (hw : Weak st st0) (h0 : I n g st0)
  (h : ∀ n g st, I n g st → vc P T cfg y N g [.code c] st (loopWQ I n Q)) : AWP P y g (.loop c) st Q := by
 intro J hJ hR pn nr hpn ro hro B cx β tmps w ds hfr hm hj hp
 obtain ⟨β0, hf0⟩ := hw _ _ _ _ hfr.anchor
 obtain ⟨hj0, hm0⟩ := Inv.walk (cx := cx) hJ hfr hm hj hf0
 refine wpIn_loopN (fun n a w => ∃ cx β g st, I n g st ∧ FR cx β st a.tmps w ∧ Mk B β cx.S0 a.defers w ∧ J g w cx.S0 (claimM β st.objs a.defers) ∧ Pin pn a.tmps) (fun n a w hR1 => ?_) n _ w ⟨_, β0, g, _, h0, hf0, hm0, hj0, hp⟩
 obtain ⟨cx1, β1, g1, st1, hI, hf1, hm1, hj1, hp1⟩ := hR1
 refine wpIn_mono (awp_vc hT cfg N hd (h n g1 st1 hI) J hJ hR pn nr hpn ro hro B cx1 β1 _ w _ hf1 hm1 hj1 hp1) (fun e a w hq => ?_)
 obtain ⟨cx2, β2, g2, st2, hq, hf2, hm2, hj2, hp2⟩ := hq
 cases e with
 | normal =>
  obtain ⟨m, st3, hm, hw3, hI2⟩ := hq
  obtain ⟨β3, hf3⟩ := hw3 _ _ _ _ hf2.anchor
  obtain ⟨hj3, hm3⟩ := Inv.walk (cx := cx2) hJ hf2 hm2 hj2 hf3
  exact ⟨m, hm, _, β3, g2, _, hI2, hf3, hm3, hj3, hp2⟩
 | _ => exact ⟨cx2, β2, g2, st2, hq, hf2, hm2, hj2, hp2⟩
end Go.AM
end

section
namespace Go.AM
open Go
variable {P : Program} {T : Tys} {y : Yc}
def ownsFrom (n : Nat) : Nat → List AV
 | 0 => []
 | m + 1 => ownsFrom n m ++ [.own (n + m)]
theorem ownsFrom_len (n : Nat) : ∀ m, (ownsFrom n m).length = m
 | 0 => rfl
 | m + 1 => by simp [ownsFrom, ownsFrom_len n m]
theorem Weak.virts {st : St} {i : Nat} {cells : List AV} {p : Pay} (e : TypeId) (ho : st.objs[i]? = some (.box cells)) (hp : p.len = 0) : ∀ m, m ≤ cells.length → (∀ c, c < m → cells[c]? = some (.lit (.slice none 0 0))) →
  Weak st { st with objs := (st.objs ++ List.replicate m (AObj.arr p ⟨e, true⟩)).set i (.box (ownsFrom st.objs.length m ++ cells.drop m)) }
 | 0, _, _ => by
  have hi : i < st.objs.length := (List.getElem?_eq_some_iff.1 ho).1
  have : (st.objs ++ List.replicate 0 (AObj.arr p ⟨e, true⟩)).set i (.box (ownsFrom st.objs.length 0 ++ cells.drop 0)) = st.objs := by
   simp only [List.replicate_zero, List.append_nil, ownsFrom, List.nil_append, List.drop_zero]
   have h2 := (List.getElem?_eq_some_iff.1 ho).2
   rw [← h2, List.set_getElem_self]
  rw [this]
  exact .refl _
 | m + 1, hm, hc => by
  have hi : i < st.objs.length := (List.getElem?_eq_some_iff.1 ho).1
  refine (Weak.virts e ho hp m (by omega) fun c h => hc c (by omega)).trans fun cx β tmps w hf => ?_
  have hcm := hc m (by omega)
  have hlt : m < cells.length := by omega
  obtain ⟨β', h'⟩ := hf.virt (i := i) (c := m) (cells := ownsFrom st.objs.length m ++ cells.drop m) (p := p) e (by rw [List.getElem?_set_self (by rw [List.length_append]; omega)]) (by
   rw [List.getElem?_append_right (by rw [ownsFrom_len]; omega), ownsFrom_len, Nat.sub_self, List.getElem?_drop]
   exact hcm) hp
  refine ⟨β', ?_⟩
  have e1 : ((((st.objs ++ List.replicate m (AObj.arr p ⟨e, true⟩)).set i (.box (ownsFrom st.objs.length m ++ cells.drop m))) ++ [AObj.arr p ⟨e, true⟩]).set i (AObj.box ((ownsFrom st.objs.length m ++ cells.drop m).set m (.own ((st.objs ++ List.replicate m (AObj.arr p ⟨e, true⟩)).set i (.box (ownsFrom st.objs.length m ++ cells.drop m))).length)))) = (st.objs ++ List.replicate (m + 1) (AObj.arr p ⟨e, true⟩)).set i (.box (ownsFrom st.objs.length (m + 1) ++ cells.drop (m + 1))) := by
   have e2 : (ownsFrom st.objs.length m ++ cells.drop m).set m (.own ((st.objs ++ List.replicate m (AObj.arr p ⟨e, true⟩)).set i (.box (ownsFrom st.objs.length m ++ cells.drop m))).length) = ownsFrom st.objs.length (m + 1) ++ cells.drop (m + 1) := by
    rw [List.set_append_right _ _ (by rw [ownsFrom_len]; omega), ownsFrom_len, Nat.sub_self, List.drop_eq_getElem_cons hlt, List.set_cons_zero, List.length_set, List.length_append, List.length_replicate]
    simp [ownsFrom]
   rw [e2, List.replicate_succ', ← List.append_assoc]
   generalize hX : st.objs ++ List.replicate m (AObj.arr p ⟨e, true⟩) = X
   have hXi : i < X.length := by rw [← hX, List.length_append]; omega
   rw [List.set_append_left _ _ (by rw [List.length_set]; exact hXi), List.set_append_left _ _ hXi, List.set_set]
  rw [← e1]
  exact h'
def junkAt (t i : Nat) (st : St) : St := match getE t st.env with
 | .agg cs => { st with env := putE t (.agg (cs.set i .junk)) st.env }
 | _ => st
theorem Weak.junkAt (st : St) (t i : Nat) : Weak st (junkAt t i st) := by
 unfold Go.AM.junkAt
 split
 ·rename_i cs h
  refine .put t _ ?_
  rw [h]
  refine .agg (by simp) fun c hc hc' => ?_
  by_cases e : i = c
  ·subst e; rw [List.getElem_set_self]; exact .junk _
  ·rw [List.getElem_set_ne e]; exact .refl _
 ·exact .refl _
attribute [push_cast] Go.AM.junkAt
end Go.AM
end
