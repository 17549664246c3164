/-
  Groundwork of the abstract machine: effects, stores, appends, maps and drawn orders, each with the conditions in its lemma.
-/
import Derived.Test.YtkpoffjimfiabaaGreatF1
import Derived.Laws.IdiomCopy
import Derived.Laws.AppendOwn
import Derived.Deep.AppendSrc
import Derived.OrdersIn
import Derived.RangeFuncIn
import Derived.Orders
import Derived.Carry
set_option linter.unusedVariables false
set_option linter.unusedSimpArgs false
set_option linter.unusedSectionVars false
set_option linter.unnecessarySimpa false

section
namespace Go.AM
open Go
structure Cfg where
 mb : List Nat
 ab : List Nat
 ov : List Nat
 kp : List Nat
 deriving Inhabited
theorem wp_of_run {P : Program} {o : Oper} {a : Act} {w w' : World} {v : Value} {next : Act → World → Prop} {Q : Exit → Act → World → Prop}
  (h : (execOp a.eval o).run P w = .ok (.value v) w') (hn : next (a.put o.dst v) w') : o.wp P a w next Q := by
 unfold Oper.wp Oper.upon
 rw [h]; exact hn
theorem wp_of_skip {P : Program} {o : Oper} {a : Act} {w w' : World} {next : Act → World → Prop} {Q : Exit → Act → World → Prop}
  (h : (execOp a.eval o).run P w = .ok .skip w') (hn : next (a.put o.dst undef) w') : o.wp P a w next Q := by
 unfold Oper.wp Oper.upon
 rw [h]; exact hn
def EPost (K : St → Prop) (cx : Cx) (S : CellSet) (ds : List Deferred) (quiet : Bool) (w : World) : Act → World → Prop :=
 fun a' w' => ∃ β' st', K st' ∧ FR cx β' st' a'.tmps w' ∧ a'.defers = ds ∧ Keeps S w w' ∧ (quiet = true → KeepL (fun _ => False) w w')
def EffOk (P : Program) (quiet : Bool) (o : Oper) (st : St) (K : St → Prop) : Prop :=
 ∀ cx β tmps w ds Q, FR cx β st tmps w → o.wp P { tmps, defers := ds } w (EPost K cx (cx.S β st.objs) ds quiet w) Q
theorem put_defers (a : Act) (d : Option Tmp) (v : Value) : (a.put d v).defers = a.defers := by cases d <;> rfl
theorem size_alloc (w : World) (o : Obj) : (w.alloc o).heap.size = w.heap.size + 1 := Array.size_push ..
theorem heap_new (w : World) (o : Obj) : (w.alloc o).heap[w.heap.size]? = some o := heap_alloc_new w o
theorem keepL_alloc (w : World) (o : Obj) : KeepL (fun _ => False) w (w.alloc o) := ⟨rfl, rfl, rfl, Nat.le_refl _, by rw [size_alloc]; exact Nat.le_succ _, fun k hk _ => heap_alloc_old w o k hk⟩
theorem cell_alloc (w : World) (c : Array Value) (t : TypeId) (i : Nat) : (w.alloc (.cells c t)).cell? ⟨w.heap.size, i, none⟩ = c[i]? := World.cell?_alloc_new w c t i
theorem frozen_alloc (w : World) (c : Array Value) (t : TypeId) (i : Nat) : (w.alloc (.cells c t)).frozen? ⟨w.heap.size, i, none⟩ = false := World.frozen?_alloc_new w c t i
theorem run_newVar {P : Program} (t : TypeId) (v : Value) (w : World) : (newVar t v).run P w = .ok ⟨w.heap.size, 0, none⟩ (w.alloc (.cells v.cells t)) := rfl
theorem PV.fref_new {w : World} {S S' : CellSet} {xs : List AV} {vs : Array Value} {t : TypeId} (hl : xs.length = vs.size) (hr : ∀ c (h : c < xs.length), PV w S (xs[c]) (vs[c]!))
  (hS : ∀ b o, S' b o → b < w.heap.size) (hs : ∀ b o v, w.cell? ⟨b, o, none⟩ = some v → ¬ S b o → ¬ S' b o) : PV (w.alloc (.cells vs t)) S' (.fref xs) (.pointer (some ⟨w.heap.size, 0, none⟩)) := by
 refine .fref (fun c => vs[c]!) rfl (fun c hc => ?_) (fun c _ h => ?_) (fun c hc => ?_)
 ·simp only [Nat.zero_add]
  rw [cell_alloc]
  have : c < vs.size := by omega
  simp [this]
 ·have := hS _ _ h
  simp at this
 ·exact (hr c hc).keeps ((keepL_alloc w _).keeps fun _ _ _ => id) hs
theorem FR.Slt {cx β st tmps w} (h : FR cx β st tmps w) (b o : Nat) (hs : cx.S β st.objs b o) : b < w.heap.size := by
 rcases hs with hs | ⟨i, ob, h1, h2⟩
 ·exact Nat.lt_of_lt_of_le (h.s0 b o hs).1 h.keep.size
 ·exact (h.rng i _ b (claims_block h2).2.choose_spec).1
def boxF (st : St) (d : Option Tmp) (x : AV) (K : St → Prop) : Prop :=
 match cellsA x with
 | some xs => match xs.all (AV.noH 3) with
  | true => K (st.put d (.fref xs))
  | false => match xs with
   | [x] => K (st.put d (.hbox x))
   | _ => False
 | none => False
theorem boxF_ok {P : Program} {o : Oper} {st : St} {e : TypeId} {x : Operand} (ho : o.op = .box e x) {K : St → Prop} (h : boxF st o.dst (st.ev x) K) : EffOk P true o st K := by
 intro cx β tmps w ds Q hfr
 unfold boxF at h
 split at h
 ·rename_i xs hxs
  split at h
  ·rename_i hno
   have hx := hfr.ev ds x
   obtain ⟨hl, hr⟩ := cellsA_ok hx hxs
   have hp : ∀ c (hc : c < xs.length), PV w (cx.S β st.objs) (xs[c]) ((({ tmps, defers := ds } : Act).eval x).cells[c]!) := fun c hc =>
    TV.noH 3 _ _ (List.all_eq_true.1 hno _ (List.getElem_mem hc)) (hr c hc)
   have hg := hfr.grow (keepL_alloc w (.cells (({ tmps, defers := ds } : Act).eval x).cells e))
   refine wp_of_run (v := .pointer (some ⟨w.heap.size, 0, none⟩)) (w' := w.alloc (.cells (({ tmps, defers := ds } : Act).eval x).cells e)) ?_ ?_
   ·unfold execOp; rw [ho]; rfl
   ·exact ⟨β, _, h, hg.put (.pure (PV.fref_new hl hp hfr.Slt (fun _ _ _ _ => id))) _ ds, put_defers _ _ _, (keepL_alloc w _).keeps fun _ _ _ => id, fun _ => keepL_alloc w _⟩
  ·split at h
   ·rename_i x0
    have hx := hfr.ev ds x
    obtain ⟨hl, hr⟩ := cellsA_ok hx hxs
    have hk := keepL_alloc w (.cells (({ tmps, defers := ds } : Act).eval x).cells e)
    have hg := hfr.grow hk
    have hl1 : (({ tmps, defers := ds } : Act).eval x).cells.size = 1 := by rw [← hl]; rfl
    refine wp_of_run (v := .pointer (some ⟨w.heap.size, 0, none⟩)) (w' := w.alloc (.cells (({ tmps, defers := ds } : Act).eval x).cells e)) ?_ ?_
    ·unfold execOp; rw [ho]; rfl
    ·refine ⟨β, _, h, hg.put (.hbox (v := (({ tmps, defers := ds } : Act).eval x).cells[0]!) rfl ?_ ?_ ?_) _ ds, put_defers _ _ _, hk.keeps fun _ _ _ => id, fun _ => hk⟩
     ·rw [cell_alloc]
      simp [hl1]
     ·intro hs
      have := hfr.Slt _ _ hs
      simp at this
     ·exact (hr 0 (by simp)).step (hk.keeps fun _ _ _ => id) (fun _ _ _ _ => id) (ArrKeep.refl _) (fun _ _ _ h => h) (fun _ _ _ _ h => h) (fun r x hx => by rw [shape?_of_heap (hk.block r (lt_of_shape? hx) id)]; exact hx)
   ·exact h.elim
 ·exact h.elim
theorem boxM_ok {P : Program} {o : Oper} {st : St} {K : St → Prop} {xs : List AV} {t : TypeId} {vsf : Act → Array Value}
  (hrun : ∀ (a : Act) w, (execOp a.eval o).run P w = .ok (.value (.pointer (some ⟨w.heap.size, 0, none⟩))) (w.alloc (.cells (vsf a) t)))
  (hxs : ∀ cx β tmps w ds, FR cx β st tmps w → xs.length = (vsf { tmps, defers := ds }).size ∧ ∀ c (h : c < xs.length), TV w (cx.S β st.objs) β st.objs (xs[c]) ((vsf { tmps, defers := ds })[c]!))
  (h : K (({ st with objs := st.objs ++ [.box xs] } : St).put o.dst (.ref st.objs.length 0))) : EffOk P true o st K := by
 intro cx β tmps w ds Q hfr
 obtain ⟨hl, hr⟩ := hxs cx β tmps w ds hfr
 have hk := keepL_alloc w (.cells (vsf { tmps, defers := ds }) t)
 have hn := hfr.newObj (.box xs) (some w.heap.size) hk (by simp) (fun b e => by cases e; exact ⟨Nat.le_refl _, by rw [size_alloc]; exact Nat.lt_succ_self _⟩) ?_
 ·refine wp_of_run (hrun _ w) ?_
  exact ⟨_, _, h, hn.put (.ref updB_same) _ ds, put_defers _ _ _, hk.keeps fun _ _ _ => id, fun _ => hk⟩
 ·refine ⟨fun j => updB_succ, w.heap.size, updB_same, fun o => frozen_alloc w _ _ _, fun c hc => ?_⟩
  have hcs : c < (vsf { tmps, defers := ds }).size := by omega
  refine ⟨(vsf { tmps, defers := ds })[c]!, by rw [cell_alloc]; simp [hcs], ?_⟩
  have hlt : ∀ (i : Nat) (o : AObj), st.objs[i]? = some o → i < st.objs.length := fun i o ho => (List.getElem?_eq_some_iff.1 ho).1
  refine (hr c hc).step (hk.keeps fun _ _ _ => id) (fun b o v hce hns hs => ?_) (ArrKeep.of fun i o ho _ => by rw [List.getElem?_append_left (hlt _ _ ho)]; exact ho) (fun i j b hb => ?_) (fun i j o ho hb => by rw [updB_ne (Nat.ne_of_lt (hlt _ _ ho))]; exact hb)
   (fun r x hx => by rw [shape?_of_heap (hk.block r (lt_of_shape? hx) id)]; exact hx)
  ·rcases hs with hs | ⟨i, ob1, h1, h2⟩
   ·exact hns (.inl hs)
   ·obtain ⟨h3, j4, h4⟩ := claims_block h2
    by_cases hi : i = st.objs.length
    ·subst hi
     cases j4 with
     | succ j4 => rw [updB_succ] at h4; cases h4
     | zero =>
     rw [updB_same] at h4
     cases h4
     have := lt_of_cell? hce
     omega
    ·rw [updB_ne hi] at h4
     have hil : i < st.objs.length := by
      have := (List.getElem?_eq_some_iff.1 h1).1
      simp at this; omega
     rw [List.getElem?_append_left hil] at h1
     exact hns (.inr ⟨i, ob1, h1, claims_mk o h3 h4⟩)
  ·have : i ≠ st.objs.length := fun e => by
    have := hfr.out i j (by rw [List.getElem?_eq_none_iff]; omega)
    rw [this] at hb; cases hb
   rw [updB_ne this]; exact hb
end Go.AM
end

section
namespace Go.AM
open Go
def toInts (k : IntKind) : List AV → Option (List Int)
 | [] => some []
 | .int k' n :: r => match decide (k = k'), toInts k r with
  | true, some l => some (n :: l)
  | _, _ => none
 | _ :: _ => none
def toBools : List AV → Option (List Bool)
 | [] => some []
 | .bool b :: r => match toBools r with
  | some l => some (b :: l)
  | none => none
 | .lit (.bool b) :: r => match toBools r with
  | some l => some (b :: l)
  | none => none
 | _ :: _ => none
def toStrs : List AV → Option (List ByteArray)
 | [] => some []
 | .str b :: r => match toStrs r with
  | some l => some (b :: l)
  | none => none
 | _ :: _ => none
def toRows : List AV → Option (List (List Int))
 | [] => some []
 | .pay (.ints .i64 b) _ :: r => match toRows r with
  | some l => some (b :: l)
  | none => none
 | .lit (.slice none 0 0) :: r => match toRows r with
  | some l => some ([] :: l)
  | none => none
 | _ :: _ => none
def chunks (sz : Nat) : Nat → List AV → List (List AV)
 | 0, _ => []
 | n + 1, l => l.take sz :: chunks sz n (l.drop sz)
def payOf (T : Tys) (e : TypeId) (n : Nat) (cells : List AV) : Option Pay :=
 match T e with
 | some { k := .int k, .. } => (toInts k cells).map (.ints k)
 | some { k := .bool, .. } => (toBools cells).map .bools
 | some { k := .str, .. } => (toStrs cells).map .strs
 | some { k := .slice e', sz, .. } => match T e' with
  | some { k := .int .i64, .. } => (toRows cells).map .rows
  | _ => match cells.all (AV.noH 3) with
   | true => some (.gen sz (chunks sz n cells))
   | false => none
 | some { sz, .. } => match cells.all (AV.noH 3) with
  | true => some (.gen sz (chunks sz n cells))
  | false => none
 | none => none
structure PayIs (p : Pay) (n sz : Nat) (cells : List AV) : Prop where
 len : p.len = n
 size : p.sz = sz
 wf : p.wf
 rel : ∀ (w : World) (S : CellSet) (β : Nat → Nat → Option Nat) (objs : List AObj) j c (h : c < (p.at j).length) v, j < n → TV w S β objs (cells.getD (j * sz + c) .junk) v → PV w S ((p.at j)[c]) v
theorem toInts_spec {k : IntKind} : ∀ {cells : List AV} {l : List Int}, toInts k cells = some l → l.length = cells.length ∧ ∀ j, j < cells.length → cells.getD j .junk = .int k (l.getD j 0) := by
 intro cells
 induction cells with
 | nil => intro l h; simp [toInts] at h; subst h; exact ⟨rfl, fun j hj => absurd hj (Nat.not_lt_zero j)⟩
 | cons a r ih =>
  intro l h
  cases a <;> simp only [toInts] at h <;> first
   | (split at h
      ·rename_i l' hk hl'
       have hk := of_decide_eq_true hk
       cases h
       obtain ⟨h1, h2⟩ := ih hl'
       subst hk
       refine ⟨by simp [h1], fun j hj => ?_⟩
       cases j with
       | zero => rfl
       | succ j => simpa using h2 j (by simpa using hj)
      ·cases h)
   | cases h
theorem toBools_spec : ∀ {cells : List AV} {l : List Bool}, toBools cells = some l → l.length = cells.length ∧ ∀ j, j < cells.length → cells.getD j .junk = .bool (l.getD j false) ∨ cells.getD j .junk = .lit (.bool (l.getD j false)) := by
 intro cells
 induction cells with
 | nil => intro l h; simp [toBools] at h; subst h; exact ⟨rfl, fun j hj => absurd hj (Nat.not_lt_zero j)⟩
 | cons a r ih =>
  intro l h
  unfold toBools at h
  split at h
  ·rename_i heq; cases heq
  ·rename_i b r' heq
   cases heq
   split at h
   ·rename_i l' hl'
    cases h
    obtain ⟨h1, h2⟩ := ih hl'
    refine ⟨by simp [h1], fun j hj => ?_⟩
    cases j with
    | zero => exact .inl rfl
    | succ j => simpa using h2 j (by simpa using hj)
   ·cases h
  ·rename_i b r' heq
   cases heq
   split at h
   ·rename_i l' hl'
    cases h
    obtain ⟨h1, h2⟩ := ih hl'
    refine ⟨by simp [h1], fun j hj => ?_⟩
    cases j with
    | zero => exact .inr rfl
    | succ j => simpa using h2 j (by simpa using hj)
   ·cases h
  ·cases h
theorem toStrs_spec : ∀ {cells : List AV} {l : List ByteArray}, toStrs cells = some l → l.length = cells.length ∧ ∀ j, j < cells.length → cells.getD j .junk = .str (l.getD j ByteArray.empty) := by
 intro cells
 induction cells with
 | nil => intro l h; simp [toStrs] at h; subst h; exact ⟨rfl, fun j hj => absurd hj (Nat.not_lt_zero j)⟩
 | cons a r ih =>
  intro l h
  unfold toStrs at h
  split at h
  ·rename_i heq; cases heq
  ·rename_i b r' heq
   cases heq
   split at h
   ·rename_i l' hl'
    cases h
    obtain ⟨h1, h2⟩ := ih hl'
    refine ⟨by simp [h1], fun j hj => ?_⟩
    cases j with
    | zero => rfl
    | succ j => simpa using h2 j (by simpa using hj)
   ·cases h
  ·cases h
theorem toRows_spec : ∀ {cells : List AV} {l : List (List Int)}, toRows cells = some l → l.length = cells.length ∧ ∀ j, j < cells.length → (∃ nz, cells.getD j .junk = .pay (.ints .i64 (l.getD j [])) nz) ∨ (cells.getD j .junk = .lit (.slice none 0 0) ∧ l.getD j [] = []) := by
 intro cells
 induction cells with
 | nil => intro l h; simp [toRows] at h; subst h; exact ⟨rfl, fun j hj => absurd hj (Nat.not_lt_zero j)⟩
 | cons a r ih =>
  intro l h
  unfold toRows at h
  split at h
  ·rename_i heq; cases heq
  ·rename_i b nz r' heq
   cases heq
   split at h
   ·rename_i l' hl'
    cases h
    obtain ⟨h1, h2⟩ := ih hl'
    refine ⟨by simp [h1], fun j hj => ?_⟩
    cases j with
    | zero => exact .inl ⟨_, rfl⟩
    | succ j => simpa using h2 j (by simpa using hj)
   ·cases h
  ·rename_i r' heq
   cases heq
   split at h
   ·rename_i l' hl'
    cases h
    obtain ⟨h1, h2⟩ := ih hl'
    refine ⟨by simp [h1], fun j hj => ?_⟩
    cases j with
    | zero => exact .inr ⟨rfl, rfl⟩
    | succ j => simpa using h2 j (by simpa using hj)
   ·cases h
  ·cases h
theorem chunks_len (sz : Nat) : ∀ (n : Nat) (l : List AV), (chunks sz n l).length = n
 | 0, _ => rfl
 | n + 1, l => by simp [chunks, chunks_len sz n]
theorem chunks_get (sz : Nat) : ∀ (n : Nat) (l : List AV) (j : Nat), j < n → (chunks sz n l).getD j [] = (l.drop (j * sz)).take sz
 | 0, _, _, h => absurd h (Nat.not_lt_zero _)
 | n + 1, l, 0, _ => by simp [chunks]
 | n + 1, l, j + 1, h => by
  have := chunks_get sz n (l.drop sz) j (by omega)
  simp only [chunks, List.getD_cons_succ, this, List.drop_drop]
  congr 2
  rw [Nat.add_mul]; omega
theorem PV.nzf {w S} {p : Pay} {nz : Bool} {v : Value} (h : PV w S (.pay p nz) v) : PV w S (.pay p false) v := by
 cases h with
 | pay ad vs hlen hcap hwf hnz had hsp hc hS hr => exact .pay ad vs hlen hcap hwf (fun e => by cases e) had hsp hc hS hr
theorem gen_is {n sz : Nat} {cells : List AV} (hl : cells.length = n * sz) (hno : cells.all (AV.noH 3) = true) : PayIs (.gen sz (chunks sz n cells)) n sz cells := by
 have hat : ∀ j, j < n → (Pay.gen sz (chunks sz n cells)).at j = (cells.drop (j * sz)).take sz := fun j hj => chunks_get sz n cells j hj
 have hle : ∀ j, j < n → j * sz + sz ≤ cells.length := fun j hj => by
  rw [hl]
  calc j * sz + sz = (j + 1) * sz := by rw [Nat.add_mul, Nat.one_mul]
   _ ≤ n * sz := Nat.mul_le_mul_right _ hj
 refine ⟨chunks_len sz n cells, rfl, fun j hj => ?_, fun w S β objs j c h v hj hv => ?_⟩
 ·have hj : j < n := by simpa [Pay.len, chunks_len] using hj
  rw [hat j hj]
  have := hle j hj
  simp [Pay.sz]; omega
 ·have hc : c < sz := by rw [hat j hj] at h; simp at h; omega
  have := hle j hj
  have hlt : j * sz + c < cells.length := by omega
  rw [List.getD_eq_getElem?_getD, List.getElem?_eq_getElem hlt] at hv
  simp only [Option.getD_some] at hv
  have e : ((Pay.gen sz (chunks sz n cells)).at j)[c] = cells[j * sz + c] := by
   simp only [hat j hj, List.getElem_take, List.getElem_drop]
  rw [e]
  exact TV.noH 3 _ _ (List.all_eq_true.1 hno _ (List.getElem_mem hlt)) hv
theorem payOf_is {T : Tys} {e : TypeId} {n : Nat} {cells : List AV} {p : Pay} {ei : TyI} (he : T e = some ei) (hsz : cells.length = n * ei.sz) (h1 : ei.k.agg = false → ei.sz = 1) (h : payOf T e n cells = some p) : PayIs p n ei.sz cells := by
 unfold payOf at h
 rw [he] at h
 split at h
 ·rename_i sz by' k z heq
  cases heq
  have hs : sz = 1 := h1 rfl
  subst hs
  have hsz : cells.length = n := by simpa using hsz
  simp only [Option.map_eq_some_iff] at h
  obtain ⟨l, hl, rfl⟩ := h
  obtain ⟨h2, h3⟩ := toInts_spec hl
  refine ⟨by simp [Pay.len, h2, hsz], rfl, Pay.wf_ints _ _, fun w S β objs j c hc v hj hv => ?_⟩
  simp [Pay.at] at hc
  subst hc
  rw [Nat.mul_one, Nat.add_zero, h3 j (by omega)] at hv
  cases hv with | pure hv => exact hv
 ·rename_i sz by' z heq
  cases heq
  have hs : sz = 1 := h1 rfl
  subst hs
  have hsz : cells.length = n := by simpa using hsz
  simp only [Option.map_eq_some_iff] at h
  obtain ⟨l, hl, rfl⟩ := h
  obtain ⟨h2, h3⟩ := toBools_spec hl
  refine ⟨by simp [Pay.len, h2, hsz], rfl, Pay.wf_bools _, fun w S β objs j c hc v hj hv => ?_⟩
  simp [Pay.at] at hc
  subst hc
  rw [Nat.mul_one, Nat.add_zero] at hv
  rcases h3 j (by omega) with e1 | e1
  ·rw [e1] at hv; cases hv with | pure hv => exact hv
  ·rw [e1] at hv; cases hv with | pure hv => cases hv; exact .bool _
 ·rename_i sz by' z heq
  cases heq
  have hs : sz = 1 := h1 rfl
  subst hs
  have hsz : cells.length = n := by simpa using hsz
  simp only [Option.map_eq_some_iff] at h
  obtain ⟨l, hl, rfl⟩ := h
  obtain ⟨h2, h3⟩ := toStrs_spec hl
  refine ⟨by simp [Pay.len, h2, hsz], rfl, Pay.wf_strs _, fun w S β objs j c hc v hj hv => ?_⟩
  simp [Pay.at] at hc
  subst hc
  rw [Nat.mul_one, Nat.add_zero, h3 j (by omega)] at hv
  cases hv with | pure hv => exact hv
 ·rename_i sz by' e' z heq
  cases heq
  have hs : sz = 1 := h1 rfl
  split at h
  ·simp only [Option.map_eq_some_iff] at h
   obtain ⟨l, hl, rfl⟩ := h
   obtain ⟨h2, h3⟩ := toRows_spec hl
   subst hs
   have hsz : cells.length = n := by simpa using hsz
   refine ⟨by simp [Pay.len, h2, hsz], rfl, Pay.wf_rows _, fun w S β objs j c hc v hj hv => ?_⟩
   simp [Pay.at] at hc
   subst hc
   rw [Nat.mul_one, Nat.add_zero] at hv
   simp only [Pay.at, List.getElem_cons_zero]
   rcases h3 j (by omega) with ⟨nz, e1⟩ | ⟨e1, e2⟩
   ·rw [e1] at hv; cases hv with | pure hv => exact hv.nzf
   ·rw [e1] at hv
    cases hv with | pure hv => cases hv; rw [e2]; exact PV.empty rfl false
  ·split at h
   ·rename_i hno; cases h; exact gen_is hsz hno
   ·cases h
 ·rename_i sz by' k z _ _ _ _ heq
  cases heq
  split at h
  ·rename_i hno; cases h; exact gen_is hsz hno
  ·cases h
 ·rename_i heq; cases heq
end Go.AM
end

section
namespace Go.AM
open Go
theorem conv_new {cx : Cx} {β : Nat → Nat → Option Nat} {st : St} {w : World} (ob : AObj) {b o : Nat} {v : Value} (hc : w.cell? ⟨b, o, none⟩ = some v) (hn : ¬ cx.S β st.objs b o) {nb : Nat} (hnb : w.heap.size ≤ nb) :
  ¬ cx.S (updB β st.objs.length (some nb)) (st.objs ++ [ob]) b o := fun hs => by
 rcases hs with hs | ⟨i, ob1, h1, h2⟩
 ·exact hn (.inl hs)
 ·obtain ⟨h3, j4, h4⟩ := claims_block h2
  by_cases hi : i = st.objs.length
  ·subst hi
   cases j4 with
   | succ j4 => rw [updB_succ] at h4; cases h4
   | zero =>
   rw [updB_same] at h4
   cases h4
   have := lt_of_cell? hc
   omega
  ·rw [updB_ne hi] at h4
   have hil : i < st.objs.length := by
    have := (List.getElem?_eq_some_iff.1 h1).1
    simp at this; omega
   rw [List.getElem?_append_left hil] at h1
   exact hn (.inr ⟨i, ob1, h1, claims_mk o h3 h4⟩)
theorem FR.newArr {cx β st tmps w} (h : FR cx β st tmps w) {p : Pay} {ai : AI} {vs : Array Value} (hwf : p.wf) (hsz : p.len * p.sz ≤ vs.size)
  (hr : ∀ j c (hc : c < (p.at j).length), j < p.len → PV w (cx.S β st.objs) ((p.at j)[c]) (vs[j * p.sz + c]!)) :
  FR cx (updB β st.objs.length (some w.heap.size)) { st with objs := st.objs ++ [.arr p ai] } tmps (w.alloc (.cells vs ai.e)) := by
 have hk := keepL_alloc w (.cells vs ai.e)
 refine h.newObj (.arr p ai) (some w.heap.size) hk (by simp) (fun b e => by cases e; exact ⟨Nat.le_refl _, by rw [size_alloc]; exact Nat.lt_succ_self _⟩) ?_
 refine ⟨hwf, fun e => (by rw [updB_same] at e; cases e), fun j => updB_succ, fun b e => ?_⟩
 rw [updB_same] at e
 cases e
 refine ⟨⟨vs, heap_new w _, hsz⟩, fun j c hc hj => ?_⟩
 have hlt : j * p.sz + c < vs.size := by
  have h1 : c < p.sz := by rw [← hwf j hj]; exact hc
  calc j * p.sz + c < j * p.sz + p.sz := by omega
   _ = (j + 1) * p.sz := by rw [Nat.add_mul, Nat.one_mul]
   _ ≤ p.len * p.sz := Nat.mul_le_mul_right _ hj
   _ ≤ vs.size := hsz
 refine ⟨vs[j * p.sz + c]!, by rw [cell_alloc]; simp [hlt], ?_⟩
 exact (hr j c hc hj).keeps (hk.keeps fun _ _ _ => id) (fun b o v hce hn => conv_new _ hce hn (Nat.le_refl _))
def St.addArr (st : St) (p : Pay) (ai : AI) (d : Option Tmp) : St := ({ st with objs := st.objs ++ [.arr p ai] } : St).put d (.own st.objs.length)
def hsIn (objs : List AObj) : List Nat → List Nat
 | [] => []
 | i :: r => (match objs[i]? with
  | some (.box cs) => cs.flatMap (AV.hs 3)
  | _ => []) ++ hsIn objs r
def reach (objs : List AObj) (l : List Nat) : List Nat := dedup (dedup l ++ hsIn objs (dedup l))
def reach3 (objs : List AObj) (l : List Nat) : List Nat := reach objs (reach objs l)
theorem reach3_nodup (objs : List AObj) (l : List Nat) : (reach3 objs l).Nodup := dedup_nodup _
def revL (acc : List Nat) : List Nat → List Nat
 | [] => acc
 | a :: r => revL (a :: acc) r
def hsOf (st : St) (xs : List Operand) : List Nat := revL [] (reach3 st.objs (xs.flatMap fun x => (st.ev x).hs 3))
def buildSliceA (T : Tys) (st : St) (d : Option Tmp) (t : TypeId) (n : Nat) (parts : Array (Nat × Operand)) (K : St → Prop) : Prop :=
 match T t with
 | some { k := .slice e, .. } => match T e with
  | some ei => match Nat.ble (n * ei.sz) 16777216, ei.k.agg || Nat.beq ei.sz 1, Nat.ble 1 ei.sz with
   | true, true, true =>
    match fillA (fun i => some (i * ei.sz, ei.sz)) (List.replicate (n * ei.sz) .junk) (parts.toList.map fun p => (p.1, (st.freezeL (hsOf st (parts.toList.map (·.2)))).ev p.2)) with
    | some out => match payOf T e n out with
     | some p => K ((st.freezeL (hsOf st (parts.toList.map (·.2)))).addArr p ⟨e, false⟩ d)
     | none => False
    | none => False
   | _, _, _ => False
  | none => False
 | _ => False
theorem buildSliceA_ok {P : Program} {T : Tys} (hT : TyOk P T) {o : Oper} {st : St} {t : TypeId} {n : Nat} {parts : Array (Nat × Operand)} (ho : o.op = .buildSlice t n parts) {K : St → Prop}
  (h : buildSliceA T st o.dst t n parts K) : EffOk P true o st K := by
 intro cx β tmps w ds Q hfr
 unfold buildSliceA at h
 split at h
 ·rename_i sz bytes e z ht
  split at h
  ·rename_i ei he
   split at h
   ·rename_i hle hagg hpos
    have hpos : 1 ≤ ei.sz := Nat.le_of_ble_eq_true hpos
    split at h
    ·rename_i out hout
     split at h
     ·rename_i p hp
      have hle : n * ei.sz ≤ 16777216 := Nat.le_of_ble_eq_true hle
      have h1 : ei.k.agg = false → ei.sz = 1 := fun e => by
       rw [e, Bool.false_or] at hagg
       exact Nat.eq_of_beq_eq_true hagg
      obtain ⟨d, hk1, hu⟩ := hT.underlying ht
      cases d <;> simp only [TKok] at hk1
      subst hk1
      obtain ⟨β1, hf1⟩ := FR.freezeL (hsOf st (parts.toList.map (·.2))) st β hfr
      have hlen0 : (List.replicate (n * ei.sz) AV.junk).length = n * ei.sz := by simp
      obtain ⟨zv, hz1, hz2⟩ := hT.zeroValue he
      have hzs := fun w => hT.sizeOf he w
      have hfill := fun (zero : Array Value) => fillA_ok (w := w) (S := cx.S β1 (st.freezeL (hsOf st (parts.toList.map (·.2)))).objs) (β := β1) (objs := (st.freezeL (hsOf st (parts.toList.map (·.2)))).objs)
       (fun i => some (i * ei.sz, ei.sz)) (parts.toList.map fun p => (p.1, (st.freezeL (hsOf st (parts.toList.map (·.2)))).ev p.2)) (parts.map fun x => (x.1, ({ tmps, defers := ds } : Act).eval x.2)).toList
       (List.replicate (n * ei.sz) .junk) out ((Array.range (n * ei.sz)).map (zero[· % zero.size]!)) (by simp) (fun k h1 h2 => by simp at h1; exact ⟨by simp, by simpa using hf1.ev ds (parts[k]).2⟩)
       (by simp) (fun c hc => by simp only [List.getElem_replicate]; exact .pure (.junk _)) hout
      have hrun : ∃ vout : Array Value, (Instr.buildSlice t n (parts.map fun x => (x.1, ({ tmps, defers := ds } : Act).eval x.2))).run P w = .ok (.slice (some ⟨w.heap.size, 0, none⟩) n n) (w.alloc (.cells vout ‹TypeId›)) ∧
        out.length = vout.size ∧ ∀ c (h : c < out.length), TV w (cx.S β1 (st.freezeL (hsOf st (parts.toList.map (·.2)))).objs) β1 (st.freezeL (hsOf st (parts.toList.map (·.2)))).objs (out[c]) (vout[c]!) := by
       by_cases h0 : n * ei.sz = 0
       ·obtain ⟨vout, hv1, hv2, hv3⟩ := hfill #[]
        refine ⟨vout, ?_, hv2, hv3⟩
        unfold Instr.buildSlice
        rw [Sem.run_bind, hu]
        simp only [Result.andThen]
        rw [Sem.run_bind, hzs]
        simp only [Result.andThen]
        rw [if_neg (by simp; omega), if_pos h0]
        simp only [pure_bind]
        rw [hv1]
        rfl
       ·obtain ⟨vout, hv1, hv2, hv3⟩ := hfill zv.cells
        refine ⟨vout, ?_, hv2, hv3⟩
        unfold Instr.buildSlice
        rw [Sem.run_bind, hu]
        simp only [Result.andThen]
        rw [Sem.run_bind, hzs]
        simp only [Result.andThen]
        rw [if_neg (by simp; omega), if_neg h0]
        rw [Sem.run_bind, hz2]
        simp only [Result.andThen, pure_bind]
        rw [hv1]
        rfl
      obtain ⟨vout, hr1, hr2, hr3⟩ := hrun
      have hol : out.length = n * ei.sz := by
       obtain ⟨vo, hv1, hv2, hv3⟩ := hfill #[]
       have : ∀ (place : Nat → Option (Nat × Nat)) (parts : List (Nat × AV)) (cells out : List AV), fillA place cells parts = some out → out.length = cells.length := by
        intro place parts
        induction parts with
        | nil => intro cells out h; simp [fillA] at h; subst h; rfl
        | cons a r ih =>
         intro cells out h
         obtain ⟨i, x⟩ := a
         unfold fillA at h
         split at h
         ·split at h
          ·rename_i h1 h2
           have h1 := Nat.eq_of_beq_eq_true h1
           have h2 := Nat.le_of_ble_eq_true h2
           rw [ih _ _ h]
           simp; omega
          ·cases h
         ·cases h
       rw [this _ _ _ _ hout]; simp
      have hpi := payOf_is he hol h1 hp
      have hna := hf1.newArr (p := p) (ai := ⟨‹TypeId›, false⟩) (vs := vout) hpi.wf (by rw [hpi.len, hpi.size, ← hr2, hol]; exact Nat.le_refl _) (fun j c hc hj => by
       have hj' : j < n := by rw [hpi.len] at hj; exact hj
       have hc' : c < ei.sz := by have := hpi.wf j hj; rw [hpi.size] at this; omega
       have hlt : j * ei.sz + c < out.length := by
        rw [hol]
        calc j * ei.sz + c < j * ei.sz + ei.sz := by omega
         _ = (j + 1) * ei.sz := by rw [Nat.add_mul, Nat.one_mul]
         _ ≤ n * ei.sz := Nat.mul_le_mul_right _ hj'
       refine hpi.rel w _ β1 (st.freezeL (hsOf st (parts.toList.map (·.2)))).objs j c hc _ hj' ?_
       rw [List.getD_eq_getElem?_getD, List.getElem?_eq_getElem hlt, hpi.size]
       exact hr3 _ hlt)
      refine wp_of_run (v := .slice (some ⟨w.heap.size, 0, none⟩) n n) (w' := w.alloc (.cells vout ‹TypeId›)) ?_ ?_
      ·unfold execOp
       rw [ho]
       simp only [Sem.run_bind]
       rw [hr1]
       rfl
      ·refine ⟨_, _, h, hna.put (.own (p := p) (nz := ⟨‹TypeId›, false⟩) (by simp) hpi.len (fun e => by cases e) (fun e => by rw [updB_same] at e; cases e) (fun b e => ?_)) _ ds, put_defers _ _ _, (keepL_alloc w _).keeps fun _ _ _ => id, fun _ => keepL_alloc w _⟩
       rw [updB_same] at e
       cases e
       refine ⟨rfl, Nat.le_refl _, ?_, ?_⟩
       ·have : n ≤ n * ei.sz := Nat.le_mul_of_pos_right n hpos
        simp only [maxLen]; omega
       ·rw [hpi.size]
        simp only [World.shape?, heap_new]
        rw [← hr2, hol]
     ·exact h.elim
    ·exact h.elim
   ·exact h.elim
  ·exact h.elim
 ·exact h.elim
end Go.AM
end

section
namespace Go.AM
open Go
def zeroPay (T : Tys) (e : TypeId) (n : Nat) : Option Pay :=
 match T e with
 | some { k := .int k, zero := .int k' 0, .. } => match decide (k = k') with
  | true => some (.ints k (List.replicate n 0))
  | false => none
 | some { k := .bool, zero := .bool false, .. } => some (.bools (List.replicate n false))
 | some { k := .str, zero := .str s, .. } => match s.data.toList with
  | [] => some (.strs (List.replicate n ByteArray.empty))
  | _ => none
 | some { k := .slice e', zero := .lit (.slice none 0 0), .. } => match T e' with
  | some { k := .int .i64, .. } => some (.rows (List.replicate n []))
  | _ => none
 | some { k := .struct _, sz, zero := .agg z, .. } => match z.all (AV.noH 3), Nat.beq z.length sz with
  | true, true => some (.gen sz (List.replicate n z))
  | _, _ => none
 | some { k := .array _ _, sz, zero := .agg z, .. } => match z.all (AV.noH 3), Nat.beq z.length sz with
  | true, true => some (.gen sz (List.replicate n z))
  | _, _ => none
 | _ => none
theorem getD_replicate' {α : Type} (n j : Nat) (x d : α) (h : j < n) : (List.replicate n x).getD j d = x := by simp [List.getD, h]
structure ZeroIs (p : Pay) (n sz : Nat) (zc : Array Value) : Prop where
 len : p.len = n
 size : p.sz = sz
 zsz : zc.size = sz
 wf : p.wf
 rel : ∀ (w : World) (S : CellSet) j c (h : c < (p.at j).length), j < n → PV w S ((p.at j)[c]) (zc[c]!)
theorem zeroPay_is {T : Tys} {e : TypeId} {n : Nat} {p : Pay} {ei : TyI} {z : Value} (he : T e = some ei) (hz : avOf z = ei.zero) (h1 : ei.k.agg = false → ei.sz = 1) (h : zeroPay T e n = some p) : ZeroIs p n ei.sz z.cells := by
 unfold zeroPay at h
 rw [he] at h
 split at h
 ·rename_i sz by' k k' heq
  cases heq
  have hs : sz = 1 := h1 rfl
  subst hs
  split at h
  ·rename_i hk
   have hk := of_decide_eq_true hk
   cases h
   subst hk
   cases z <;> simp [ofConst, leafC] at hz
   obtain ⟨rfl, rfl⟩ := hz
   refine ⟨by simp [Pay.len], rfl, rfl, Pay.wf_ints _ _, fun w S j c hc hj => ?_⟩
   simp [Pay.at] at hc
   subst hc
   simp only [Pay.at, List.getElem_cons_zero, getD_replicate' _ _ _ _ hj]
   exact .int _ _
  ·cases h
 ·rename_i sz by' heq
  cases heq
  have hs : sz = 1 := h1 rfl
  subst hs
  cases h
  cases z <;> simp [ofConst, leafC] at hz
  subst hz
  refine ⟨by simp [Pay.len], rfl, rfl, Pay.wf_bools _, fun w S j c hc hj => ?_⟩
  simp [Pay.at] at hc
  subst hc
  simp only [Pay.at, List.getElem_cons_zero, getD_replicate' _ _ _ _ hj]
  exact .bool _
 ·rename_i sz by' s heq
  cases heq
  have hs : sz = 1 := h1 rfl
  subst hs
  split at h
  ·rename_i hs0
   cases h
   cases z <;> simp [ofConst, leafC] at hz
   subst hz
   have hse : ‹ByteArray› = ByteArray.empty := by
    rename_i s0
    cases s0 with | mk d =>
    cases d with | mk l =>
    simp at hs0
    subst hs0
    rfl
   rw [hse]
   refine ⟨by simp [Pay.len], rfl, rfl, Pay.wf_strs _, fun w S j c hc hj => ?_⟩
   simp [Pay.at] at hc
   subst hc
   simp only [Pay.at, List.getElem_cons_zero, getD_replicate' _ _ _ _ hj]
   exact .str _
  ·cases h
 ·rename_i sz by' e' heq
  cases heq
  have hs : sz = 1 := h1 rfl
  subst hs
  split at h
  ·cases h
   cases z <;> simp [ofConst, leafC] at hz
   obtain ⟨rfl, rfl, rfl⟩ := hz
   refine ⟨by simp [Pay.len], rfl, rfl, Pay.wf_rows _, fun w S j c hc hj => ?_⟩
   simp [Pay.at] at hc
   subst hc
   simp only [Pay.at, List.getElem_cons_zero, getD_replicate' _ _ _ _ hj]
   exact PV.empty rfl false
  ·cases h
 all_goals first
  | (rename_i sz by' _ zl heq
     cases heq
     split at h
     ·rename_i hno hlen
      have hlen := Nat.eq_of_beq_eq_true hlen
      cases h
      cases z <;> simp [ofConst, leafC] at hz
      rename_i cs
      refine ⟨by simp [Pay.len], rfl, by rw [← hlen, ← hz]; simp [Value.cells], fun j hj => ?_, fun w S j c hc hj => ?_⟩
      ·simp [Pay.len] at hj
       simp only [Pay.at, getD_replicate' _ _ _ _ hj, Pay.sz]; exact hlen
      ·simp only [Pay.at, getD_replicate' _ _ _ _ hj] at hc ⊢
       subst hz
       cases ofConst_agg w S cs with
       | agg _ hr => exact hr c hc
     ·cases h)
  | (rename_i sz by' _ _ zl heq
     cases heq
     split at h
     ·rename_i hno hlen
      have hlen := Nat.eq_of_beq_eq_true hlen
      cases h
      cases z <;> simp [ofConst, leafC] at hz
      rename_i cs
      refine ⟨by simp [Pay.len], rfl, by rw [← hlen, ← hz]; simp [Value.cells], fun j hj => ?_, fun w S j c hc hj => ?_⟩
      ·simp [Pay.len] at hj
       simp only [Pay.at, getD_replicate' _ _ _ _ hj, Pay.sz]; exact hlen
      ·simp only [Pay.at, getD_replicate' _ _ _ _ hj] at hc ⊢
       subst hz
       cases ofConst_agg w S cs with
       | agg _ hr => exact hr c hc
     ·cases h)
  | cases h
def sameOp (x y : Operand) : Bool :=
 match x, y with
 | .tmp a, .tmp b => Nat.beq a b
 | .const (.int k a), .const (.int k' b) => decide (k = k') && decide (a = b)
 | _, _ => false
theorem sameOp_ev {x y : Operand} (h : sameOp x y = true) (a : Act) : a.eval x = a.eval y := by
 unfold sameOp at h
 split at h
 ·have := Nat.eq_of_beq_eq_true h; rw [this]
 ·simp at h; rw [h.1, h.2]
 ·cases h
theorem TV_int {w S β objs} {k : IntKind} {n : Int} {v : Value} (h : TV w S β objs (.int k n) v) : v = .int k n := by
 cases h with | pure h => cases h; rfl
theorem TV_bool {w S β objs} {b : Bool} {v : Value} (h : TV w S β objs (.bool b) v) : v = .bool b := by
 cases h with | pure h => cases h; rfl
theorem TV_lit {w S β objs} {u v : Value} (h : TV w S β objs (.lit u) v) : v = u := by
 cases h with | pure h => cases h; rfl
def makeSliceA (T : Tys) (st : St) (d : Option Tmp) (t : TypeId) (l c : Operand) (K : St → Prop) : Prop :=
 match T t, st.ev l with
 | some { k := .slice e, .. }, .int .i64 n => match T e with
  | some ei => match sameOp l c, ei.k.agg || Nat.beq ei.sz 1, Nat.ble 1 ei.sz, zeroPay T e n.toNat with
   | true, true, true, some p => (0 ≤ n ∧ n * (ei.bytes : Int) ≤ 70368744177664 ∧ n ≤ 70368744177664) ∧ K (st.addArr p ⟨e, false⟩ d)
   | _, _, _, _ => False
  | none => False
 | _, _ => False
theorem makeSliceA_ok {P : Program} {T : Tys} (hT : TyOk P T) {o : Oper} {st : St} {t : TypeId} {l c : Operand} (ho : o.op = .makeSlice t l c) {K : St → Prop}
  (h : makeSliceA T st o.dst t l c K) : EffOk P true o st K := by
 intro cx β tmps w ds Q hfr
 unfold makeSliceA at h
 split at h
 ·rename_i sz bytes e z n ht hl
  split at h
  ·rename_i ei he
   split at h
   ·rename_i p hsame hagg hpos hp
    have hpos : 1 ≤ ei.sz := Nat.le_of_ble_eq_true hpos
    obtain ⟨⟨hn0, hnb, hn1⟩, hK⟩ := h
    have h1 : ei.k.agg = false → ei.sz = 1 := fun e => by
     rw [e, Bool.false_or] at hagg
     exact Nat.eq_of_beq_eq_true hagg
    obtain ⟨d, hk1, hu⟩ := hT.underlying ht
    cases d <;> simp only [TKok] at hk1
    rename_i elem
    subst hk1
    obtain ⟨zv, hz1, hz2⟩ := hT.zeroValue he
    have hzs := fun w => hT.sizeOf he w
    obtain ⟨inf, hi1, hi2, _, hi3⟩ := hT.typeInfo he
    have hz := zeroPay_is he hz1 h1 hp
    have hev : ({ tmps, defers := ds } : Act).eval l = .int .i64 n := by
     have := hfr.ev ds l
     rw [hl] at this
     exact TV_int this
    have hev2 : ({ tmps, defers := ds } : Act).eval c = .int .i64 n := by rw [← sameOp_ev hsame]; exact hev
    have hwr : IntKind.i64.wrap n = n := by
     have e : IntKind.i64.wrap n = if n % (2 ^ 64 : Int) ≥ 2 ^ 63 then n % (2 ^ 64 : Int) - 2 ^ 64 else n % (2 ^ 64 : Int) := by
      simp [IntKind.wrap, IntKind.bits, IntKind.signed]
     rw [e]
     have : n % (2 ^ 64 : Int) = n := Int.emod_eq_of_lt hn0 (by omega)
     rw [this, if_neg (by omega)]
    -- the run
    have hrun : (Instr.makeSlice t (.int .i64 n) (.int .i64 n)).run P w = .ok (.slice (some ⟨w.heap.size, 0, none⟩) n.toNat n.toNat) (w.alloc (.cells ((Array.range (n.toNat * ei.sz)).map (zv.cells[· % zv.cells.size]!)) elem)) := by
     unfold Instr.makeSlice
     rw [Sem.run_bind, hu]
     simp only [Result.andThen, asInt, asIntOf, pure_bind, hwr]
     rw [Sem.run_bind, hi3]
     simp only [Result.andThen, hi2]
     have hc : ¬ ((n < 0 || decide ((ei.bytes : Int) * n > 2 ^ 48)) = true ∨ decide (n < 0) = true ∨ n > n) := by
      simp only [Bool.or_eq_true, decide_eq_true_eq, Int.lt_irrefl, gt_iff_lt, or_false]
      rw [Int.mul_comm]
      omega
     have hc2 : ((n < 0 || decide ((ei.bytes : Int) * n > 2 ^ 48)) || decide (n < 0) || decide (n > n)) = false := by
      rw [Int.mul_comm]
      simp
      omega
     rw [if_neg (by rw [hc2]; simp)]
     have hask : ∀ (b : Nat) (w : World), (askRoom b).run P w = .ok () w := fun b w => by unfold askRoom; split <;> rfl
     rw [Sem.run_bind, hask]
     simp only [Result.andThen]
     rw [Sem.run_bind, hzs]
     simp only [Result.andThen]
     by_cases h0 : n.toNat * ei.sz = 0
     ·rw [if_pos h0, h0]
      have e0 : ∀ f : Nat → Value, (Array.range 0).map f = #[] := fun f => by simp
      simp only [e0]
      rfl
     ·rw [if_neg h0, Sem.run_bind, hz2]
      rfl
    have hna := hfr.newArr (p := p) (ai := ⟨elem, false⟩) (vs := (Array.range (n.toNat * ei.sz)).map (zv.cells[· % zv.cells.size]!)) hz.wf (by rw [hz.len, hz.size]; simp) (fun j c hc hj => by
     have hj' : j < n.toNat := by rw [hz.len] at hj; exact hj
     have hc' : c < ei.sz := by have := hz.wf j hj; rw [hz.size] at this; omega
     have hlt : j * ei.sz + c < n.toNat * ei.sz := by
      calc j * ei.sz + c < j * ei.sz + ei.sz := by omega
       _ = (j + 1) * ei.sz := by rw [Nat.add_mul, Nat.one_mul]
       _ ≤ n.toNat * ei.sz := Nat.mul_le_mul_right _ hj'
     have e2 : ((Array.range (n.toNat * ei.sz)).map (zv.cells[· % zv.cells.size]!))[j * p.sz + c]! = zv.cells[c]! := by
      rw [hz.size]
      simp only [getElem!_def, Array.getElem?_map, Array.getElem?_range, if_pos hlt, Option.map_some]
      rw [hz.zsz, Nat.mul_comm, Nat.mul_add_mod, Nat.mod_eq_of_lt hc']
     rw [e2]
     exact hz.rel w _ j c hc hj')
    refine wp_of_run (v := .slice (some ⟨w.heap.size, 0, none⟩) n.toNat n.toNat) (w' := w.alloc (.cells ((Array.range (n.toNat * ei.sz)).map (zv.cells[· % zv.cells.size]!)) elem)) ?_ ?_
    ·unfold execOp
     rw [ho]
     simp only [Sem.run_bind, hev, hev2]
     rw [hrun]
     rfl
    ·refine ⟨_, _, hK, hna.put (.own (p := p) (nz := ⟨elem, false⟩) (by simp) hz.len (fun e => by cases e) (fun e => by rw [updB_same] at e; cases e) (fun b e => ?_)) _ ds, put_defers _ _ _, (keepL_alloc w _).keeps fun _ _ _ => id, fun _ => keepL_alloc w _⟩
     rw [updB_same] at e
     cases e
     refine ⟨rfl, Nat.le_refl _, ?_, ?_⟩
     ·simp only [maxLen]; omega
     ·rw [hz.size]
      simp only [World.shape?, heap_new]
      simp
   ·exact h.elim
  ·exact h.elim
 ·exact h.elim
end Go.AM
end

section
namespace Go.AM
open Go
def allocA (T : Tys) (cfg : Cfg) (st : St) (d : Option Tmp) (t : TypeId) (K : St → Prop) : Prop :=
 match (match d with | some x => cfg.ab.elem x | none => false), T t with
 | true, some { k := .array n e, sz, zero := .agg z, .. } => match T e with
  | some ei => match Nat.beq z.length (n * ei.sz), ei.k.agg || Nat.beq ei.sz 1, Nat.beq sz (n * ei.sz), payOf T e n z with
   | true, true, true, some p => K (({ st with objs := st.objs ++ [.arr p ⟨t, false⟩] } : St).put d (.ref st.objs.length 0))
   | _, _, _, _ => False
  | none => False
 | false, some { zero, .. } => match cellsA zero with
  | some xs => K (({ st with objs := st.objs ++ [.box xs] } : St).put d (.ref st.objs.length 0))
  | none => False
 | _, _ => False
theorem run_alloc {P : Program} {T : Tys} (hT : TyOk P T) {t : TypeId} {i : TyI} (ht : T t = some i) : ∃ z, avOf z = i.zero ∧ ∀ w, (Instr.alloc t true (.tuple #[])).run P w = .ok (.pointer (some ⟨w.heap.size, 0, none⟩)) (w.alloc (.cells z.cells t)) := by
 obtain ⟨z, h1, h2⟩ := hT.zeroValue ht
 refine ⟨z, h1, fun w => ?_⟩
 unfold Instr.alloc
 rw [Sem.run_bind, h2]
 rfl
theorem cellsA_const {w S β objs} {z : Value} {xs : List AV} (h : cellsA (ofConst z) = some xs) : xs.length = z.cells.size ∧ ∀ c (hc : c < xs.length), TV w S β objs (xs[c]) (z.cells[c]!) :=
 cellsA_ok (.pure (ofConst_PV w S z)) h
theorem allocA_ok {P : Program} {T : Tys} (hT : TyOk P T) {cfg : Cfg} {o : Oper} {st : St} {t : TypeId} (ho : o.op = .alloc t) {K : St → Prop} (h : allocA T cfg st o.dst t K) : EffOk P true o st K := by
 unfold allocA at h
 split at h
 ·rename_i sz by' n e z _ ht
  split at h
  ·rename_i ei he
   split at h
   ·rename_i p hzl hagg hsz hp
    have hzl := Nat.eq_of_beq_eq_true hzl
    have hsz := Nat.eq_of_beq_eq_true hsz
    have h1 : ei.k.agg = false → ei.sz = 1 := fun e => by
     rw [e, Bool.false_or] at hagg
     exact Nat.eq_of_beq_eq_true hagg
    have hpi := payOf_is he hzl h1 hp
    intro cx β tmps w ds Q hfr
    obtain ⟨zv, hz1, hz2⟩ := run_alloc (P := P) hT ht
    simp only at hz1
    have hc : z.length = zv.cells.size ∧ ∀ c (hc : c < z.length), TV w (cx.S β st.objs) β st.objs (z[c]) (zv.cells[c]!) := cellsA_const (by show cellsA (avOf zv) = _; rw [hz1]; rfl)
    have hna := hfr.newArr (p := p) (ai := ⟨t, false⟩) (vs := zv.cells) hpi.wf (by rw [hpi.len, hpi.size, ← hzl, hc.1]; exact Nat.le_refl _) (fun j c hcl hj => by
     have hj' : j < n := by rw [hpi.len] at hj; exact hj
     have hc' : c < ei.sz := by have := hpi.wf j hj; rw [hpi.size] at this; omega
     have hlt : j * ei.sz + c < z.length := by
      rw [hzl]
      calc j * ei.sz + c < j * ei.sz + ei.sz := by omega
       _ = (j + 1) * ei.sz := by rw [Nat.add_mul, Nat.one_mul]
       _ ≤ n * ei.sz := Nat.mul_le_mul_right _ hj'
     refine hpi.rel w _ β st.objs j c hcl _ hj' ?_
     rw [List.getD_eq_getElem?_getD, List.getElem?_eq_getElem hlt, hpi.size]
     exact hc.2 _ hlt)
    refine wp_of_run (v := .pointer (some ⟨w.heap.size, 0, none⟩)) (w' := w.alloc (.cells zv.cells t)) ?_ ?_
    ·unfold execOp; rw [ho]; simp only [Sem.run_bind]; rw [hz2]; rfl
    ·exact ⟨_, _, h, hna.put (.ref updB_same) _ ds, put_defers _ _ _, (keepL_alloc w _).keeps fun _ _ _ => id, fun _ => keepL_alloc w _⟩
   ·exact h.elim
  ·exact h.elim
 ·rename_i sz by' k zero _ ht
  split at h
  ·rename_i xs hxs
   obtain ⟨zv, hz1, hz2⟩ := run_alloc (P := P) hT ht
   simp only at hz1
   refine boxM_ok (P := P) (t := t) (vsf := fun _ => zv.cells) (xs := xs) (fun a w => ?_) (fun cx β tmps w ds _ => cellsA_const (by show cellsA (avOf zv) = _; rw [hz1]; exact hxs)) h
   unfold execOp; rw [ho]; simp only [Sem.run_bind]; rw [hz2]; rfl
  ·exact h.elim
 ·exact h.elim
def boxMA (st : St) (d : Option Tmp) (x : AV) (K : St → Prop) : Prop :=
 match cellsA x with
 | some xs => K (({ st with objs := st.objs ++ [.box xs] } : St).put d (.ref st.objs.length 0))
 | none => False
theorem boxMA_ok {P : Program} {o : Oper} {st : St} {e : TypeId} {x : Operand} (ho : o.op = .box e x) {K : St → Prop} (h : boxMA st o.dst (st.ev x) K) : EffOk P true o st K := by
 unfold boxMA at h
 split at h
 ·rename_i xs hxs
  refine boxM_ok (P := P) (t := e) (vsf := fun a => (a.eval x).cells) (xs := xs) (fun a w => ?_) (fun cx β tmps w ds hfr => cellsA_ok (hfr.ev ds x) hxs) h
  unfold execOp; rw [ho]; rfl
 ·exact h.elim
def virtA (T : Tys) (st : St) (d : Option Tmp) (t : TypeId) (K : St → Prop) : Prop :=
 match T t, emptyPay T t with
 | some { k := .slice e, .. }, some p => K (st.addArr p ⟨e, true⟩ d)
 | _, _ => False
theorem virtA_ok {P : Program} {T : Tys} {o : Oper} {st : St} (ho : o.op = .assign (.const (.slice none 0 0))) {K : St → Prop} (h : virtA T st o.dst o.type K) : EffOk P true o st K := by
 intro cx β tmps w ds Q hfr
 unfold virtA at h
 split at h
 ·rename_i sz by' e z p ht hp
  have hl := emptyPay_len hp
  have hwf : p.wf := fun j hj => by omega
  have hn := hfr.newObj (.arr p ⟨e, true⟩) none (KeepL.refl _ w) (by simp) (fun b e => by cases e) ⟨hwf, fun _ => hl, fun j => updB_succ, fun b e => (by rw [updB_same] at e; cases e)⟩
  refine wp_of_run (v := .slice none 0 0) (w' := w) ?_ ?_
  ·unfold execOp; rw [ho]; rfl
  ·refine ⟨_, _, h, hn.put (.own (p := p) (nz := ⟨e, true⟩) (by simp) hl (fun _ _ => rfl) (fun _ => ⟨rfl, rfl⟩) (fun b e => by rw [updB_same] at e; cases e)) _ ds, put_defers _ _ _, Keeps.refl _ _, fun _ => KeepL.refl _ _⟩
 ·exact h.elim
theorem setCells_dr (b : Nat) : ∀ (vs : List Value) (o : Nat) (w : World), w.drawn ≤ (w.setCells b o vs).drawn
 | [], _, _ => Nat.le_refl _
 | v :: r, o, w => setCells_dr b r (o + 1) (w.setCell ⟨b, o, none⟩ v)
theorem setCells_heap (b : Nat) : ∀ (vs : List Value) (o : Nat) (w : World), (w.setCells b o vs).heap.size = w.heap.size ∧ (∀ k, k ≠ b → (w.setCells b o vs).heap[k]? = w.heap[k]?) ∧ (w.setCells b o vs).os = w.os ∧ (w.setCells b o vs).tape = w.tape ∧ (w.setCells b o vs).output = w.output ∧
  (∀ r, (w.setCells b o vs).shape? r = w.shape? r) ∧ ∀ cur e f, w.heap[b]? = some (.cells cur e f) → ∃ cur' : Array Value, (w.setCells b o vs).heap[b]? = some (.cells cur' e f) ∧ cur'.size = cur.size
 | [], o, w => ⟨rfl, fun _ _ => rfl, rfl, rfl, rfl, fun _ => rfl, fun cur e f h => ⟨cur, h, rfl⟩⟩
 | v :: r, o, w => by
  obtain ⟨h1, h2, h3, h4, h5, h6, h7⟩ := setCells_heap b r (o + 1) (w.setCell ⟨b, o, none⟩ v)
  have hs : (w.setCell ⟨b, o, none⟩ v).heap.size = w.heap.size := by simp [World.setCell]
  have ho : ∀ k, k ≠ b → (w.setCell ⟨b, o, none⟩ v).heap[k]? = w.heap[k]? := fun k hk => by
   simp only [World.setCell, Array.getElem?_modify]
   rw [if_neg (fun e => hk e.symm)]
  have hb : ∀ cur e f, w.heap[b]? = some (.cells cur e f) → (w.setCell ⟨b, o, none⟩ v).heap[b]? = some (.cells (cur.setIfInBounds o v) e f) := fun cur e f h => by
   simp [World.setCell, Array.getElem?_modify, h]
  refine ⟨h1.trans hs, fun k hk => (h2 k hk).trans (ho k hk), h3, h4, h5, fun k => ?_, fun cur e f h => ?_⟩
  ·rw [World.setCells, h6 k]
   by_cases hk : k = b
   ·subst hk
    cases hh : w.heap[k]? with
    | none =>
     have : (w.setCell ⟨k, o, none⟩ v).heap[k]? = none := by
      rw [Array.getElem?_eq_none_iff] at hh ⊢
      rw [hs]; exact hh
     simp [World.shape?, hh, this]
    | some ob =>
     cases ob <;> simp [World.shape?, World.setCell, Array.getElem?_modify, hh]
   ·exact shape?_of_heap (ho k hk)
  ·obtain ⟨cur', h8, h9⟩ := h7 _ _ _ (hb cur e f h)
   exact ⟨cur', h8, by rw [h9]; simp⟩
def AV.one : AV → Bool
 | .junk | .agg _ | .aggp _ | .tup _ => false
 | .lit v => v.oneCell'
 | .mh _ .agg => false
 | .mh _ (.tk _) => false
 | _ => true
theorem one_ok {w S β objs} {x : AV} {v : Value} (h : TV w S β objs x v) (ho : x.one = true) : v.oneCell' = true := by
 cases h with
 | pure h => cases h <;> first
  | rfl
  | exact ho
  | cases ho
 | own => rfl
 | ref => rfl
 | eref => rfl
 | mapr => rfl
 | @mh i x o v h1 hm =>
  rcases hm.one (fun e => by subst e; cases ho) (fun l e => by subst e; cases ho) with ⟨a, l, c, e⟩ | ⟨a, e⟩ <;> rw [e] <;> rfl
 | agg => cases ho
 | tup => cases ho
 | clo => rfl
 | hbox => rfl
def Pay.setAt (p : Pay) (j c : Nat) (xs : List AV) : Option Pay :=
 match p with
 | .ints k l => match c, xs with
  | 0, [.int k' n] => match decide (k = k') with
   | true => some (.ints k (l.set j n))
   | false => none
  | _, _ => none
 | .bools l => match c, xs with
  | 0, [.bool b] => some (.bools (l.set j b))
  | 0, [.lit (.bool b)] => some (.bools (l.set j b))
  | _, _ => none
 | .strs l => match c, xs with
  | 0, [.str b] => some (.strs (l.set j b))
  | _, _ => none
 | .rows l => match c, xs with
  | 0, [.pay (.ints .i64 r) _] => some (.rows (l.set j r))
  | 0, [.lit (.slice none 0 0)] => some (.rows (l.set j []))
  | _, _ => none
 | .gen sz l => match xs.all (AV.noH 3), Nat.ble (c + xs.length) sz with
  | true, true => some (.gen sz (l.set j ((l.getD j []).take c ++ (xs ++ (l.getD j []).drop (c + xs.length)))))
  | _, _ => none
structure SetIs (p : Pay) (j c : Nat) (xs : List AV) (p' : Pay) : Prop where
 len : p'.len = p.len
 size : p'.sz = p.sz
 wf : p.wf → p'.wf
 fit : j < p.len → c + xs.length ≤ p.sz
 rel : ∀ (w : World) (S : CellSet) (β : Nat → Nat → Option Nat) (objs : List AObj), p.wf → j < p.len → ∀ j' c' (h' : c' < (p'.at j').length) v, j' < p'.len →
  (if j' = j ∧ c ≤ c' ∧ c' < c + xs.length then TV w S β objs (xs.getD (c' - c) .junk) v else ∀ h : c' < (p.at j').length, PV w S ((p.at j')[c']) v) → PV w S ((p'.at j')[c']) v
theorem getD_set {α : Type} (l : List α) (j k : Nat) (x d : α) (hj : j < l.length) : (l.set j x).getD k d = if k = j then x else l.getD k d := by
 by_cases h : k = j
 ·subst h; simp [List.getD, hj]
 ·simp [List.getD, h, Ne.symm h]
theorem setAt_one {p p' : Pay} {j : Nat} {x : AV} (hl : p'.len = p.len) (hs : p.sz = 1) (hs' : p'.sz = 1) (hwf : p'.wf)
  (hsame : ∀ j', j' ≠ j → p'.at j' = p.at j') (hx : ∀ w S β objs v, TV w S β objs x v → j < p.len → ∃ y, p'.at j = [y] ∧ PV w S y v) : SetIs p j 0 [x] p' := by
 refine ⟨hl, hs'.trans hs.symm, fun _ => hwf, fun _ => by simp [hs], fun w S β objs hpw hj j' c' h' v hj' hcond => ?_⟩
 have h1 := hwf j' hj'
 rw [hs'] at h1
 have hc0 : c' = 0 := by omega
 subst hc0
 by_cases e : j' = j
 ·subst e
  rw [if_pos ⟨rfl, Nat.le_refl _, by simp⟩] at hcond
  obtain ⟨y, hy, hp⟩ := hx w S β objs v hcond hj
  simp only [hy, List.getElem_cons_zero]
  exact hp
 ·rw [if_neg (fun h => e h.1)] at hcond
  have := hcond (by rw [hpw j' (by omega), hs]; exact Nat.one_pos)
  simp only [hsame j' e]
  exact this
theorem setAt_is {p p' : Pay} {j c : Nat} {xs : List AV} (hjl : j < p.len) (h : p.setAt j c xs = some p') : SetIs p j c xs p' := by
 cases p with
 | ints k l =>
  simp only [Pay.setAt] at h
  split at h
  ·split at h
   ·rename_i hk
    have hk := of_decide_eq_true hk
    subst hk
    cases h
    exact setAt_one (by simp [Pay.len]) rfl rfl (Pay.wf_ints _ _) (fun j' hne => by simp only [Pay.at, getD_set _ _ _ _ _ hjl, if_neg hne]) (fun w S β objs v hv _ => ⟨_, by simp only [Pay.at, getD_set _ _ _ _ _ hjl, if_true]; rfl, by cases hv with | pure hv => exact hv⟩)
   ·cases h
  ·cases h
 | bools l =>
  simp only [Pay.setAt] at h
  split at h
  ·cases h
   exact setAt_one (by simp [Pay.len]) rfl rfl (Pay.wf_bools _) (fun j' hne => by simp only [Pay.at, getD_set _ _ _ _ _ hjl, if_neg hne]) (fun w S β objs v hv _ => ⟨_, by simp only [Pay.at, getD_set _ _ _ _ _ hjl, if_true]; rfl, by cases hv with | pure hv => exact hv⟩)
  ·cases h
   exact setAt_one (by simp [Pay.len]) rfl rfl (Pay.wf_bools _) (fun j' hne => by simp only [Pay.at, getD_set _ _ _ _ _ hjl, if_neg hne]) (fun w S β objs v hv _ => ⟨_, by simp only [Pay.at, getD_set _ _ _ _ _ hjl, if_true]; rfl, by rw [TV_lit hv]; exact .bool _⟩)
  ·cases h
 | strs l =>
  simp only [Pay.setAt] at h
  split at h
  ·cases h
   exact setAt_one (by simp [Pay.len]) rfl rfl (Pay.wf_strs _) (fun j' hne => by simp only [Pay.at, getD_set _ _ _ _ _ hjl, if_neg hne]) (fun w S β objs v hv _ => ⟨_, by simp only [Pay.at, getD_set _ _ _ _ _ hjl, if_true]; rfl, by cases hv with | pure hv => exact hv⟩)
  ·cases h
 | rows l =>
  simp only [Pay.setAt] at h
  split at h
  ·cases h
   exact setAt_one (by simp [Pay.len]) rfl rfl (Pay.wf_rows _) (fun j' hne => by simp only [Pay.at, getD_set _ _ _ _ _ hjl, if_neg hne]) (fun w S β objs v hv _ => ⟨_, by simp only [Pay.at, getD_set _ _ _ _ _ hjl, if_true]; rfl, by cases hv with | pure hv => exact hv.nzf⟩)
  ·cases h
   exact setAt_one (by simp [Pay.len]) rfl rfl (Pay.wf_rows _) (fun j' hne => by simp only [Pay.at, getD_set _ _ _ _ _ hjl, if_neg hne]) (fun w S β objs v hv _ => ⟨_, by simp only [Pay.at, getD_set _ _ _ _ _ hjl, if_true]; rfl, by rw [TV_lit hv]; exact PV.empty rfl false⟩)
  ·cases h
 | gen sz l =>
  simp only [Pay.setAt] at h
  split at h
  ·rename_i hno hle
   have hle := Nat.le_of_ble_eq_true hle
   cases h
   have hjl' : j < l.length := hjl
   have hwfr : (Pay.gen sz l).wf → (l.getD j []).length = sz := fun hwf => hwf j hjl
   have hatr : (Pay.gen sz l).at j = l.getD j [] := rfl
   generalize l.getD j [] = r at hwfr hatr ⊢
   have hat : ∀ j', (Pay.gen sz (l.set j (r.take c ++ (xs ++ r.drop (c + xs.length))))).at j' = if j' = j then r.take c ++ (xs ++ r.drop (c + xs.length)) else (Pay.gen sz l).at j' := fun j' => by
    simp only [Pay.at]; exact getD_set _ _ _ _ _ hjl'
   refine ⟨by simp [Pay.len], rfl, fun hwf j' hj' => ?_, fun _ => hle, fun w S β objs hwf hj j' c' h' v hj' hcond => ?_⟩
   ·rw [hat]
    simp only [Pay.len, List.length_set] at hj'
    split
    ·have := hwfr hwf
     simp only [Pay.sz, List.length_append, List.length_take, List.length_drop]; omega
    ·exact hwf j' hj'
   ·by_cases e : j' = j
    ·subst e
     have hwj := hwfr hwf
     simp only [hat, if_true] at h' ⊢
     simp only [List.length_append, List.length_take, List.length_drop] at h'
     by_cases h1 : c' < c
     ·rw [if_neg (by omega)] at hcond
      have := hcond (by rw [hatr]; omega)
      rw [List.getElem_append_left (by simp only [List.length_take]; omega), List.getElem_take]
      simp only [hatr] at this
      exact this
     ·by_cases h2 : c' < c + xs.length
      ·rw [if_pos ⟨rfl, by omega, h2⟩] at hcond
       rw [List.getElem_append_right (by simp only [List.length_take]; omega)]
       have e1 : c' - (r.take c).length = c' - c := by simp only [List.length_take]; omega
       simp only [e1]
       have h3 : c' - c < xs.length := by omega
       rw [List.getElem_append_left h3]
       rw [List.getD_eq_getElem?_getD, List.getElem?_eq_getElem h3] at hcond
       exact TV.noH 3 _ _ (List.all_eq_true.1 hno _ (List.getElem_mem h3)) hcond
      ·rw [if_neg (by omega)] at hcond
       have h4 : c' < r.length := by omega
       have := hcond (by rw [hatr]; exact h4)
       rw [List.getElem_append_right (by simp only [List.length_take]; omega)]
       have e1 : c' - (r.take c).length = c' - c := by simp only [List.length_take]; omega
       simp only [e1]
       rw [List.getElem_append_right (by omega)]
       simp only [List.getElem_drop]
       have e3 : c + xs.length + (c' - c - xs.length) = c' := by omega
       simp only [e3]
       simp only [hatr] at this
       exact this
    ·rw [if_neg (fun h => e h.1)] at hcond
     simp only [hat, if_neg e] at h' ⊢
     exact hcond h'
  ·cases h
end Go.AM
end

section
namespace Go.AM
open Go
theorem run_storeAt {P : Program} {T : Tys} (hT : TyOk P T) {t : TypeId} {ti : TyI} (ht : T t = some ti) (b o : Nat) (v : Value) (w : World) (hsz : v.cells.size = ti.sz)
  (hc : ∀ j, j < v.cells.size → (w.cell? ⟨b, o + j, none⟩).isSome = true) (hf : ∀ j, j < v.cells.size → w.frozen? ⟨b, o + j, none⟩ = false) (h1 : ∀ x ∈ v.cells.toList, x.oneCell' = true) :
  (Instr.storeAt t (.pointer (some ⟨b, o, none⟩)) v).run P w = .ok () (w.setCells b o v.cells.toList) := by
 have hz := hT.sizeOf ht
 have hs := run_storeCells_cells (P := P) b o v.cells.toList 0 w (by simpa using hc) (by simpa using hf) h1
 unfold Instr.storeAt Instr.sureAddr storeVar
 simp only [Sem.run_bind, Sem.run_pure, Result.andThen, hz, hsz]
 simpa using hs
def storeA (T : Tys) (st : St) (d : Option Tmp) (t : TypeId) (addr val : Operand) (K : St → Prop) : Prop :=
 match st.ev addr with
 | .eref _ _ _ =>
  match (st.freezeL (hsOf st [val])).ev addr, T t with
  | .eref i j c, some ti => match (st.freezeL (hsOf st [val])).objs[i]?, cellsA ((st.freezeL (hsOf st [val])).ev val) with
   | some (.arr p ai), some xs => match Nat.beq xs.length ti.sz, xs.all AV.one, p.setAt j c xs with
    | true, true, some p' => K (({ st.freezeL (hsOf st [val]) with objs := (st.freezeL (hsOf st [val])).objs.set i (.arr p' ai) } : St).put d .junk)
    | _, _, _ => False
   | _, _ => False
  | _, _ => False
 | .ref i off =>
  match st.objs[i]?, T t, cellsA (st.ev val) with
  | some (.box cells), some ti, some xs => match Nat.beq xs.length ti.sz, xs.all AV.one, Nat.ble (off + xs.length) cells.length with
   | true, true, true => K (({ st with objs := st.objs.set i (.box (cells.take off ++ (xs ++ cells.drop (off + xs.length)))) } : St).put d .junk)
   | _, _, _ => False
  | some (.arr p ai), some { k := .array n e, sz, .. }, some xs => match T e with
   | some ei => match Nat.beq xs.length sz, Nat.beq sz (n * ei.sz), xs.all AV.one, ei.k.agg || Nat.beq ei.sz 1, payOf T e n xs with
    | true, true, true, true, some p' => match Nat.beq off 0, Nat.beq p'.len p.len, Nat.beq p'.sz p.sz with
     | true, true, true => K (({ st with objs := st.objs.set i (.arr p' ai) } : St).put d .junk)
     | _, _, _ => False
    | _, _, _, _, _ => False
   | none => False
  | _, _, _ => False
 | _ => False
theorem all_one {w S β objs} {xs : List AV} {v : Value} (hl : xs.length = v.cells.size) (hr : ∀ c (h : c < xs.length), TV w S β objs (xs[c]) (v.cells[c]!)) (ho : xs.all AV.one = true) : ∀ x ∈ v.cells.toList, x.oneCell' = true := by
 intro x hx
 obtain ⟨c, hc, rfl⟩ := List.getElem_of_mem hx
 have hc' : c < v.cells.size := by simpa using hc
 have := one_ok (hr c (by omega)) (List.all_eq_true.1 ho _ (List.getElem_mem (by omega)))
 simpa [hc'] using this
theorem FR.freezeS {cx : Cx} {tmps : Array Value} {w : World} : ∀ (l : List Nat) (st : St) (β : Nat → Nat → Option Nat), FR cx β st tmps w → ∃ β', FR cx β' (st.freezeL l) tmps w ∧ ∀ b o, cx.S β' (st.freezeL l).objs b o → cx.S β st.objs b o := by
 intro l
 induction l with
 | nil => intro st β h; exact ⟨β, h, fun _ _ => id⟩
 | cons i l ih =>
  intro st β h
  have : ∃ β', FR cx β' (st.freeze i) tmps w ∧ ∀ b o, cx.S β' (st.freeze i).objs b o → cx.S β st.objs b o := by
   unfold St.freeze
   split
   ·rename_i ob ho
    refine ⟨_, h.freeze ho, fun b o hs => ?_⟩
    rcases hs with hs | hs
    ·exact .inl hs
    ·rcases remap_claim (List.getElem?_eq_some_iff.1 ho).1 hs with ⟨e, _⟩ | ⟨k, o1, hk, ho1, hc1⟩
     ·exact absurd rfl e
     ·exact .inr ⟨k, o1, ho1, hc1⟩
   ·exact ⟨β, h, fun _ _ => id⟩
  obtain ⟨β', h', hs'⟩ := this
  obtain ⟨β2, h2, hs2⟩ := ih _ β' h'
  exact ⟨β2, h2, fun b o hs => hs' b o (hs2 b o hs)⟩
theorem FR.setArr {cx : Cx} {β : Nat → Nat → Option Nat} {st : St} {tmps : Array Value} {w : World} (hfr : FR cx β st tmps w) {i b s : Nat} {p p' : Pay} {ai : AI} {vs : List Value}
  (hi : st.objs[i]? = some (.arr p ai)) (hb : β i 0 = some b) (hlen : p'.len = p.len) (hsz : p'.sz = p.sz) (hwf : p'.wf)
  (hfit : s + vs.length ≤ p.len * p.sz)
  (hrel : ∀ j c (h : c < (p'.at j).length), j < p'.len → ∀ v, (if s ≤ j * p.sz + c ∧ j * p.sz + c < s + vs.length then vs[j * p.sz + c - s]? = some v else ∀ h : c < (p.at j).length, PV w (cx.S β st.objs) ((p.at j)[c]) v) → PV w (cx.S β st.objs) ((p'.at j)[c]) v) :
  (∀ k, k < vs.length → (w.cell? ⟨b, s + k, none⟩).isSome = true) ∧ (∀ k, k < vs.length → w.frozen? ⟨b, s + k, none⟩ = false) ∧
  FR cx β { st with objs := st.objs.set i (.arr p' ai) } tmps (w.setCells b s vs) ∧ Keeps (cx.S β st.objs) w (w.setCells b s vs) := by
 obtain ⟨hpw, _, hβs, hob⟩ := hfr.objs i _ hi
 obtain ⟨⟨cur, hcur, hcs⟩, hcells⟩ := hob b hb
 have hcell : ∀ o, w.cell? ⟨b, o, none⟩ = cur[o]? := fun o => by simp [World.cell?, hcur]
 have hfrz : ∀ o, w.frozen? ⟨b, o, none⟩ = false := fun o => by simp [World.frozen?, hcur]
 have hsome : ∀ k, k < vs.length → (w.cell? ⟨b, s + k, none⟩).isSome = true := fun k hk => by
  have : s + k < cur.size := by omega
  simp [hcell, this]
 obtain ⟨w1, w2, w3, w4, w5, w6, w7⟩ := setCells_heap b vs s w
 have hkeep : Keeps (cx.S β st.objs) w (w.setCells b s vs) := fun b' o' v hn hc => by
  have : b' ≠ b := fun e => hn (.inr (claim_of hi (by rw [e]; exact hb) (by simp) o'))
  rw [cell?_of_heap (w2 b' this)]; exact hc
 refine ⟨hsome, fun k _ => hfrz _, hfr.mut (.arr p' ai) hi hb (by simp) (by simp) w2 w1 w3 w4 w5 (setCells_dr _ _ _ _) (fun r x hx => by rw [w6 r]; exact hx) (fun q nz e => by cases e; exact ⟨p', rfl, hlen, hsz⟩) ?_, hkeep⟩
 refine ⟨hwf, fun e => (by rw [hb] at e; cases e), hβs, fun b' hb' => ?_⟩
 rw [hb] at hb'
 cases hb'
 obtain ⟨cur', h8, h9⟩ := w7 _ _ _ hcur
 refine ⟨⟨cur', h8, by rw [h9, hlen, hsz]; exact hcs⟩, fun j c h hj => ?_⟩
 have hc : c < p.sz := by rw [← hsz, ← hwf j hj]; exact h
 have hj' : j < p.len := by rw [← hlen]; exact hj
 rw [hsz]
 by_cases hin : s ≤ j * p.sz + c ∧ j * p.sz + c < s + vs.length
 ·have hk : j * p.sz + c - s < vs.length := by omega
  have := World.cell?_setCells_in b vs s w hsome (j * p.sz + c - s) hk
  rw [show s + (j * p.sz + c - s) = j * p.sz + c by omega] at this
  refine ⟨_, this, (hrel j c h hj _ ?_).keeps hkeep (fun _ _ _ _ => id)⟩
  rw [if_pos hin]
  exact List.getElem?_eq_getElem hk
 ·have hcl : c < (p.at j).length := by rw [hpw j hj']; exact hc
  obtain ⟨v, hv, hv'⟩ := hcells j c hcl hj'
  refine ⟨v, by rw [World.cell?_setCells_out b _ _ _ _ (fun _ _ => ?_)]; exact hv; show _ < _ ∨ _ ≤ _; simp only []; omega, (hrel j c h hj v ?_).keeps hkeep (fun _ _ _ _ => id)⟩
  rw [if_neg hin]
  exact fun _ => hv'
theorem storeA_ok {P : Program} {T : Tys} (hT : TyOk P T) {o : Oper} {st : St} {t : TypeId} {addr val : Operand} (ho : o.op = .store t addr val) {K : St → Prop} (h : storeA T st o.dst t addr val K) : EffOk P false o st K := by
 intro cx β tmps w ds Q hfr0
 unfold storeA at h
 split at h
 ·-- an element of a row
  rename_i i0 j0 c0 hev0
  obtain ⟨β, hfr, hSs⟩ := FR.freezeS (hsOf st [val]) st β hfr0
  generalize st.freezeL (hsOf st [val]) = st1 at h hfr hSs
  split at h
  ·rename_i i j c ti hev hti
   split at h
   ·rename_i p ai xs hoi hxs
    split at h
    ·rename_i p' h1 h2 hp'
     have h1 := Nat.eq_of_beq_eq_true h1
     have hx := hfr.ev ds addr
     rw [hev] at hx
     obtain ⟨b, hb, hj, hav⟩ : ∃ b, β i 0 = some b ∧ j < p.len ∧ ({ tmps, defers := ds } : Act).eval addr = .pointer (some ⟨b, j * p.sz + c, none⟩) := by
      revert hx
      generalize ({ tmps, defers := ds } : Act).eval addr = v
      intro hx
      cases hx with
      | pure hx => cases hx
      | eref ho hb hj =>
       rw [hoi] at ho
       cases ho
       exact ⟨_, hb, hj, rfl⟩
     have hv := hfr.ev ds val
     generalize hV : ({ tmps, defers := ds } : Act).eval val = V at hv
     obtain ⟨hl, hr⟩ := cellsA_ok hv hxs
     have hone := all_one hl hr h2
     have hsi := setAt_is hj hp'
     have hpw := (hfr.objs i _ hoi).1
     have hfit := hsi.fit hj
     have hmul : ∀ a, a < p.len → (a + 1) * p.sz ≤ p.len * p.sz := fun a ha => Nat.mul_le_mul_right _ ha
     obtain ⟨s1, s2, s3, s4⟩ := hfr.setArr (s := j * p.sz + c) (vs := V.cells.toList) hoi hb hsi.len hsi.size (hsi.wf hpw)
      (by have := hmul j hj; rw [Nat.add_mul, Nat.one_mul] at this; simp; omega)
      (fun j' c' hc' hj' v hcond => hsi.rel w _ β st1.objs hpw hj j' c' hc' v hj' (by
       have hcs : c' < p.sz := by rw [← hsi.size, ← hsi.wf hpw j' hj']; exact hc'
       by_cases hin : j' = j ∧ c ≤ c' ∧ c' < c + xs.length
       ·obtain ⟨rfl, hin1, hin2⟩ := hin
        rw [if_pos ⟨rfl, hin1, hin2⟩]
        rw [if_pos ⟨by omega, by simp; omega⟩] at hcond
        have e1 : j' * p.sz + c' - (j' * p.sz + c) = c' - c := by omega
        rw [e1] at hcond
        have hlt : c' - c < xs.length := by omega
        have hlt2 : c' - c < V.cells.size := by omega
        have := hr (c' - c) hlt
        rw [getElem!_pos V.cells (c' - c) hlt2] at this
        rw [List.getD_eq_getElem?_getD, List.getElem?_eq_getElem hlt]
        have e2 : v = V.cells[c' - c] := by simpa [hlt2] using hcond.symm
        rw [e2]
        exact this
       ·rw [if_neg hin]
        rw [if_neg ?_] at hcond
        ·exact hcond
        ·rintro ⟨k1, k2⟩
         simp only [Array.length_toList] at k2
         rcases Nat.lt_trichotomy j' j with hlt | heq | hgt
         ·have : (j' + 1) * p.sz ≤ j * p.sz := Nat.mul_le_mul_right _ hlt
          rw [Nat.add_mul, Nat.one_mul] at this; omega
         ·subst heq; exact hin ⟨rfl, by omega, by omega⟩
         ·have : (j + 1) * p.sz ≤ j' * p.sz := Nat.mul_le_mul_right _ hgt
          rw [Nat.add_mul, Nat.one_mul] at this; omega))
     have hrun := run_storeAt (P := P) hT hti b (j * p.sz + c) V w (by omega) (fun k hk => s1 k (by simpa using hk)) (fun k hk => s2 k (by simpa using hk)) hone
     refine wp_of_skip (w' := w.setCells b (j * p.sz + c) V.cells.toList) ?_ ⟨_, _, h, s3.put (.pure (.junk _)) _ ds, put_defers _ _ _, fun b o v hn hc => s4 b o v (fun hs => hn (hSs b o hs)) hc, fun e => by cases e⟩
     unfold execOp
     rw [ho]
     simp only [Sem.run_bind, hav, hV]
     rw [hrun]
     rfl
    ·exact h.elim
   ·exact h.elim
  ·exact h.elim
 ·rename_i i off hev
  have hx := hfr0.ev ds addr
  rw [hev] at hx
  obtain ⟨b, hb, hav⟩ : ∃ b, β i 0 = some b ∧ ({ tmps, defers := ds } : Act).eval addr = .pointer (some ⟨b, off, none⟩) := by
   revert hx
   generalize ({ tmps, defers := ds } : Act).eval addr = v
   intro hx
   cases hx with
   | pure hx => cases hx
   | ref hb => exact ⟨_, hb, rfl⟩
  have hv := hfr0.ev ds val
  split at h
  ·rename_i cells ti xs hoi hti hxs
   split at h
   ·rename_i h1 h2 h3
    have h1 := Nat.eq_of_beq_eq_true h1
    have h3 := Nat.le_of_ble_eq_true h3
    obtain ⟨hl, hr⟩ := cellsA_ok hv hxs
    obtain ⟨hβs, b', hb', hfz, hcells⟩ := hfr0.objs i _ hoi
    rw [hb] at hb'
    cases hb'
    generalize hV : ({ tmps, defers := ds } : Act).eval val = V at hl hr hv
    have hcs : ∀ j, j < V.cells.size → (w.cell? ⟨b, off + j, none⟩).isSome = true := fun j hj => by
     obtain ⟨v, hv, _⟩ := hcells (off + j) (by omega)
     simp [hv]
    have hone := all_one hl hr h2
    have hrun := run_storeAt (P := P) hT hti b off V w (by omega) hcs (fun j _ => hfz _) hone
    obtain ⟨w1, w2, w3, w4, w5, w6, w7⟩ := setCells_heap b V.cells.toList off w
    have hkeep : Keeps (cx.S β st.objs) w (w.setCells b off V.cells.toList) := fun b' o' v hn hc => by
     have : b' ≠ b := fun e => hn (.inr (claim_of hoi (by rw [e]; exact hb) (by simp) o'))
     rw [cell?_of_heap (w2 b' this)]; exact hc
    have hm := hfr0.mut (.box (cells.take off ++ (xs ++ cells.drop (off + xs.length)))) hoi hb (by simp) (by simp) w2 w1 w3 w4 w5 (setCells_dr _ _ _ _) (fun r x hx => by rw [w6 r]; exact hx) (fun p nz e => by cases e) ?_
    ·refine wp_of_skip (w' := w.setCells b off V.cells.toList) ?_ ⟨_, _, h, hm.put (.pure (.junk _)) _ ds, put_defers _ _ _, hkeep, fun e => by cases e⟩
     unfold execOp
     rw [ho]
     simp only [Sem.run_bind, hav, hV]
     rw [hrun]
     rfl
    ·have hstep : ∀ av v, TV w (cx.S β st.objs) β st.objs av v → TV (w.setCells b off V.cells.toList) (cx.S β st.objs) β (st.objs.set i (.box (cells.take off ++ (xs ++ cells.drop (off + xs.length))))) av v := fun av v hv =>
      hv.step hkeep (fun _ _ _ _ => id) (ArrKeep.of fun k o hk hbx => by
       have : k ≠ i := fun e => by subst e; rw [hoi] at hk; cases hk; exact hbx _ rfl
       rw [List.getElem?_set_ne (Ne.symm this)]; exact hk) (fun _ _ _ => id) (fun _ _ _ _ => id) (fun r x hx => by rw [w6 r]; exact hx)
     refine ⟨hβs, b, hb, fun o => by rw [World.frozen?_setCells]; exact hfz o, fun c hc => ?_⟩
     simp only [List.length_append, List.length_take, List.length_drop] at hc
     by_cases c1 : c < off
     ·obtain ⟨v, hv, hv'⟩ := hcells c (by omega)
      refine ⟨v, by rw [World.cell?_setCells_out b _ _ _ _ (fun _ _ => .inl c1)]; exact hv, ?_⟩
      rw [List.getElem_append_left (by simp only [List.length_take]; omega), List.getElem_take]
      exact hstep _ _ hv'
     ·by_cases c2 : c < off + xs.length
      ·have hj : c - off < V.cells.toList.length := by simp; omega
       have := World.cell?_setCells_in b V.cells.toList off w (by simpa using hcs) (c - off) hj
       rw [show off + (c - off) = c by omega] at this
       refine ⟨_, this, ?_⟩
       rw [List.getElem_append_right (by simp only [List.length_take]; omega)]
       have e1 : c - (cells.take off).length = c - off := by simp only [List.length_take]; omega
       simp only [e1]
       rw [List.getElem_append_left (by omega)]
       have := hr (c - off) (by omega)
       have hj' : c - off < V.cells.size := by omega
       rw [getElem!_pos V.cells (c - off) hj'] at this
       exact hstep _ _ (by simpa using this)
      ·obtain ⟨v, hv, hv'⟩ := hcells c (by omega)
       refine ⟨v, by rw [World.cell?_setCells_out b _ _ _ _ (fun _ _ => .inr (by simp; omega))]; exact hv, ?_⟩
       rw [List.getElem_append_right (by simp only [List.length_take]; omega)]
       have e1 : c - (cells.take off).length = c - off := by simp only [List.length_take]; omega
       simp only [e1]
       rw [List.getElem_append_right (by omega)]
       simp only [List.getElem_drop]
       have e3 : off + xs.length + (c - off - xs.length) = c := by omega
       simp only [e3]
       exact hstep _ _ hv'
   ·exact h.elim
  ·rename_i p ai sz by' n e z xs hoi hti hxs
   split at h
   ·rename_i ei he
    split at h
    ·rename_i p' h1 h2 h3 h4 hp'
     split at h
     ·rename_i h5 h6 h7
      have h1 := Nat.eq_of_beq_eq_true h1
      have h2 := Nat.eq_of_beq_eq_true h2
      have h5 := Nat.eq_of_beq_eq_true h5
      have h6 := Nat.eq_of_beq_eq_true h6
      have h7 := Nat.eq_of_beq_eq_true h7
      subst h5
      generalize hV : ({ tmps, defers := ds } : Act).eval val = V at hv
      obtain ⟨hl, hr⟩ := cellsA_ok hv hxs
      have hone := all_one hl hr h3
      have hpi := payOf_is he (h1.trans h2) (fun e => by
       rw [e, Bool.false_or] at h4
       exact Nat.eq_of_beq_eq_true h4) hp'
      have hps : p.sz = ei.sz := by rw [← h7, hpi.size]
      have hpl : p.len = n := by rw [← h6, hpi.len]
      obtain ⟨s1, s2, s3, s4⟩ := hfr0.setArr (s := 0) (vs := V.cells.toList) hoi hb h6 h7 hpi.wf (by simp; rw [hps, hpl, ← h2, ← h1, hl]; exact Nat.le_refl _)
       (fun j c hc hj v hcond => by
        have hj' : j < n := by rw [← hpi.len]; exact hj
        have hcs : c < ei.sz := by rw [← hpi.size, ← hpi.wf j hj]; exact hc
        have hlt : j * ei.sz + c < xs.length := by
         rw [h1, h2]
         calc j * ei.sz + c < j * ei.sz + ei.sz := by omega
          _ = (j + 1) * ei.sz := by rw [Nat.add_mul, Nat.one_mul]
          _ ≤ n * ei.sz := Nat.mul_le_mul_right _ hj'
        rw [hps] at hcond
        rw [if_pos ⟨by omega, by simp; omega⟩] at hcond
        refine hpi.rel w _ β st.objs j c hc v hj' ?_
        have hlt2 : j * ei.sz + c < V.cells.size := by omega
        have := hr _ hlt
        rw [getElem!_pos V.cells _ hlt2] at this
        rw [List.getD_eq_getElem?_getD, List.getElem?_eq_getElem hlt]
        have e2 : v = V.cells[j * ei.sz + c] := by simpa [hlt2] using hcond.symm
        rw [e2]
        exact this)
      have hrun := run_storeAt (P := P) hT hti b 0 V w (by show _ = sz; omega) (fun k hk => s1 k (by simpa using hk)) (fun k hk => s2 k (by simpa using hk)) hone
      refine wp_of_skip (w' := w.setCells b 0 V.cells.toList) ?_ ⟨_, _, h, s3.put (.pure (.junk _)) _ ds, put_defers _ _ _, s4, fun e => by cases e⟩
      unfold execOp
      rw [ho]
      simp only [Sem.run_bind, hav, hV]
      rw [hrun]
      rfl
     ·exact h.elim
    ·exact h.elim
   ·exact h.elim
  ·exact h.elim
 ·exact h.elim
end Go.AM
end

section
namespace Go.AM
open Go
def Pay.onesOk : Pay → Prop
 | .gen _ l => ∀ r, r ∈ l → ∀ x, x ∈ r → x.one = true
 | _ => True
theorem Pay.ones {p : Pay} (h : p.onesOk) : ∀ j, j < p.len → ∀ x, x ∈ p.at j → x.one = true := by
 intro j hj x hx
 cases p with
 | gen sz l =>
  simp only [Pay.at, Pay.len] at hx hj
  rw [List.getD_eq_getElem?_getD, List.getElem?_eq_getElem hj] at hx
  exact h _ (List.getElem_mem hj) x hx
 | _ => simp only [Pay.at, List.mem_singleton] at hx; subst hx; rfl
def Pay.app : Pay → Pay → Option Pay
 | .ints k l, .ints k' l' => match decide (k = k') with
  | true => some (.ints k (l ++ l'))
  | false => none
 | .bools l, .bools l' => some (.bools (l ++ l'))
 | .strs l, .strs l' => some (.strs (l ++ l'))
 | .rows l, .rows l' => some (.rows (l ++ l'))
 | .gen sz l, .gen sz' l' => match Nat.beq sz sz' with
  | true => some (.gen sz (l ++ l'))
  | false => none
 | _, _ => none
structure AppIs (p q r : Pay) : Prop where
 len : r.len = p.len + q.len
 size : r.sz = p.sz
 size' : q.sz = p.sz
 old : ∀ j, j < p.len → r.at j = p.at j
 new : ∀ j, j < q.len → r.at (p.len + j) = q.at j
theorem AppIs.wf {p q r : Pay} (h : AppIs p q r) (h1 : p.wf) (h2 : q.wf) : r.wf := fun j hj => by
 by_cases hlt : j < p.len
 ·rw [h.old j hlt, h1 j hlt, h.size]
 ·have : j - p.len < q.len := by have := h.len; omega
  have e := h.new _ this
  rw [show p.len + (j - p.len) = j by omega] at e
  rw [e, h2 _ this, h.size', h.size]
theorem getD_app_old {α : Type} (l l' : List α) (j : Nat) (d : α) (h : j < l.length) : (l ++ l').getD j d = l.getD j d := by
 simp [List.getD, List.getElem?_append_left h]
theorem getD_app_new {α : Type} (l l' : List α) (j : Nat) (d : α) : (l ++ l').getD (l.length + j) d = l'.getD j d := by
 simp [List.getD, List.getElem?_append_right]
theorem app_is {p q r : Pay} (h : p.app q = some r) : AppIs p q r := by
 unfold Pay.app at h
 split at h
 ·split at h
  ·rename_i k l k' l' hk
   have := of_decide_eq_true hk
   subst this
   cases h
   exact ⟨by simp [Pay.len], rfl, rfl, fun j hj => by simp only [Pay.at, getD_app_old _ _ _ _ hj], fun j hj => by simp only [Pay.at, Pay.len, getD_app_new]⟩
  ·cases h
 ·cases h; exact ⟨by simp [Pay.len], rfl, rfl, fun j hj => by simp only [Pay.at, getD_app_old _ _ _ _ hj], fun j hj => by simp only [Pay.at, Pay.len, getD_app_new]⟩
 ·cases h; exact ⟨by simp [Pay.len], rfl, rfl, fun j hj => by simp only [Pay.at, getD_app_old _ _ _ _ hj], fun j hj => by simp only [Pay.at, Pay.len, getD_app_new]⟩
 ·cases h; exact ⟨by simp [Pay.len], rfl, rfl, fun j hj => by simp only [Pay.at, getD_app_old _ _ _ _ hj], fun j hj => by simp only [Pay.at, Pay.len, getD_app_new]⟩
 ·split at h
  ·rename_i sz l sz' l' hs
   have := Nat.eq_of_beq_eq_true hs
   subst this
   cases h
   exact ⟨by simp [Pay.len], rfl, rfl, fun j hj => by simp only [Pay.at, getD_app_old _ _ _ _ hj], fun j hj => by simp only [Pay.at, Pay.len, getD_app_new]⟩
  ·cases h
 ·cases h
structure SrcIs (P : Program) (w : World) (S : CellSet) (sz : Nat) (tx : TypeId) (x : Value) (p : Pay) (news : List Value) : Prop where
 src : Src P sz tx x p.len news w
 wf : p.wf
 rel : ∀ j c (h : c < (p.at j).length), j < p.len → ∃ v, news[j * sz + c]? = some v ∧ PV w S ((p.at j)[c]) v
theorem srcIs_of_cells {P : Program} {w : World} {S : CellSet} {sz : Nat} {tx e' : TypeId} (hk : P.underlying tx = some (.slice e')) {p : Pay} {a : Option Addr} {cap : Nat} (ad : Addr) (vs : Nat → Nat → Value)
  (hwf : p.wf) (hsz : p.sz = sz) (hpos : 1 ≤ sz) (had : p.len ≠ 0 → a = some ad) (hsp : ad.spot = none) (hone : p.onesOk)
  (hc : ∀ j c, j < p.len → c < p.sz → w.cell? ⟨ad.block, ad.off + (j * p.sz + c), none⟩ = some (vs j c))
  (hr : ∀ j c (h : c < (p.at j).length), j < p.len → PV w S ((p.at j)[c]) (vs j c)) : ∃ news, SrcIs P w S sz tx (.slice a p.len cap) p news := by
 by_cases h0 : p.len = 0
 ·refine ⟨[], ?_, hwf, fun j c _ hj => by omega⟩
  rw [h0]
  cases a with
  | none => exact Src.ofNil w hk cap
  | some a => exact Src.ofSlice w hk a 0 cap [] (by simp) (fun j u h => by simp at h) (fun u h => by cases h)
 ·have := had h0
  subst this
  subst hsz
  refine ⟨(List.range (p.len * p.sz)).map (fun k => vs (k / p.sz) (k % p.sz)), ?_, hwf, fun j c h hj => ?_⟩
  ·have hdiv : ∀ k, k < p.len * p.sz → k / p.sz < p.len ∧ k % p.sz < p.sz ∧ k / p.sz * p.sz + k % p.sz = k := fun k hk =>
    ⟨(Nat.div_lt_iff_lt_mul hpos).2 hk, Nat.mod_lt _ hpos, by rw [Nat.mul_comm]; exact Nat.div_add_mod k p.sz⟩
   refine Src.ofSlice w hk ad p.len cap _ (by simp) (fun k u hu => ?_) (fun u hu => ?_)
   ·obtain ⟨hk2, he⟩ := List.getElem?_eq_some_iff.1 hu
    simp at hk2 he
    obtain ⟨h1, h2, h3⟩ := hdiv k hk2
    have := hc _ _ h1 h2
    rw [h3, he] at this
    obtain ⟨ab, ao, as⟩ := ad
    simp only at hsp
    subst hsp
    rw [Addr.add_lit]
    exact this
   ·simp only [List.mem_map, List.mem_range] at hu
    obtain ⟨k, hk2, rfl⟩ := hu
    obtain ⟨h1, h2, h3⟩ := hdiv k hk2
    have hl : k % p.sz < (p.at (k / p.sz)).length := by rw [hwf _ h1]; exact h2
    exact one_ok (TV.pure (S := S) (β := fun _ _ => none) (objs := []) (hr _ _ hl h1)) (Pay.ones hone _ h1 _ (List.getElem_mem hl))
  ·have hcs : c < p.sz := by rw [← hwf j hj]; exact h
   have hlt : j * p.sz + c < p.len * p.sz := by
    calc j * p.sz + c < j * p.sz + p.sz := by omega
     _ = (j + 1) * p.sz := by rw [Nat.add_mul, Nat.one_mul]
     _ ≤ p.len * p.sz := Nat.mul_le_mul_right _ hj
   refine ⟨vs j c, ?_, hr j c h hj⟩
   have e1 : (j * p.sz + c) / p.sz = j := by rw [Nat.mul_comm, Nat.mul_add_div hpos, Nat.div_eq_of_lt hcs]; rfl
   have e2 : (j * p.sz + c) % p.sz = c := by rw [Nat.mul_comm, Nat.mul_add_mod, Nat.mod_eq_of_lt hcs]
   simp [hlt, e1, e2]
def strPay (s : ByteArray) : Pay := .ints .u8 (s.data.toList.map fun b => (b.toNat : Int))
def srcA (T : Tys) (st : St) (t tx : TypeId) (x : Operand) : Option Pay :=
 match st.ev x, T tx with
 | .own k, some { k := .slice _, .. } => match st.objs[k]? with
  | some (.arr p _) => some p
  | _ => none
 | .pay p _, some { k := .slice _, .. } => some p
 | .lit (.slice none 0 _), some { k := .slice _, .. } => emptyPay T t
 | .str s, some { k := .str, .. } => some (strPay s)
 | _, _ => none
theorem TyOk.kslice {P : Program} {T : Tys} (hT : TyOk P T) {t : TypeId} {i : TyI} {e : TypeId} (h : T t = some i) (hk : i.k = .slice e) : P.underlying t = some (.slice e) := by
 obtain ⟨d, hd, hk'⟩ := (hT t i h).und
 rw [hk] at hk'
 cases d <;> simp only [TKok] at hk'
 subst hk'
 exact hd
theorem TyOk.kstr {P : Program} {T : Tys} (hT : TyOk P T) {t : TypeId} {i : TyI} (h : T t = some i) (hk : i.k = .str) : P.underlying t = some .string := by
 obtain ⟨d, hd, hk'⟩ := (hT t i h).und
 rw [hk] at hk'
 cases d <;> simp only [TKok] at hk'
 exact hd
theorem srcA_ok {P : Program} {T : Tys} (hT : TyOk P T) {cx : Cx} {β : Nat → Nat → Option Nat} {st : St} {tmps : Array Value} {w : World} (hfr : FR cx β st tmps w) {t tx : TypeId} {x : Operand} {p : Pay} (h : srcA T st t tx x = some p)
  {sz : Nat} (hsz : p.sz = sz) (hpos : 1 ≤ sz) (hone : p.onesOk) (ds : List Deferred) : ∃ news, SrcIs P w (cx.S β st.objs) sz tx (({ tmps, defers := ds } : Act).eval x) p news := by
 have hx := hfr.ev ds x
 generalize ({ tmps, defers := ds } : Act).eval x = v at hx
 unfold srcA at h
 split at h
 ·rename_i k a1 a2 e a3 hev htx
  have hu := hT.kslice htx rfl
  split at h
  ·rename_i p0 ai ho
   cases h
   rw [hev] at hx
   obtain ⟨hw, hn0, _, hob⟩ := hfr.objs k _ ho
   cases hx with
   | pure hx => cases hx
   | @own _ p' nz' a len cap ho' hlen hnz hn hb =>
    rw [ho] at ho'
    cases ho'
    subst hlen
    cases hβ : β k 0 with
    | none =>
     have := hn0 hβ
     exact srcIs_of_cells hu ⟨0, 0, none⟩ (fun _ _ => .bool false) hw hsz hpos (fun h => absurd this h) rfl hone (fun j c hj => by omega) (fun j c _ hj => by omega)
    | some b =>
     obtain ⟨e1, e2, e3, e4⟩ := hb b hβ
     obtain ⟨_, hcells⟩ := hob b hβ
     refine srcIs_of_cells hu ⟨b, 0, none⟩ (fun j c => (w.cell? ⟨b, j * p.sz + c, none⟩).getD (.bool false)) hw hsz hpos (fun _ => e1) rfl hone (fun j c hj hc => ?_) (fun j c hc hj => ?_)
     ·obtain ⟨v, hv, _⟩ := hcells j c (by rw [hw j hj]; exact hc) hj
      simp [hv]
     ·obtain ⟨v, hv, hv'⟩ := hcells j c hc hj
      simp only [hv, Option.getD_some]
      exact hv'
  ·cases h
 ·rename_i p0 nz a1 a2 e a3 hev htx
  have hu := hT.kslice htx rfl
  cases h
  rw [hev] at hx
  cases hx with
  | pure hx => cases hx with
   | pay ad vs hlen hcap hwf hnz had hsp hc hS hr =>
    subst hlen
    exact srcIs_of_cells hu ad vs hwf hsz hpos had hsp hone hc hr
 ·rename_i c0 a1 a2 e a3 hev htx
  have hu := hT.kslice htx rfl
  rw [hev] at hx
  have hl := emptyPay_len h
  rw [TV_lit hx]
  refine ⟨[], ?_, fun j hj => by omega, fun j c _ hj => by omega⟩
  rw [hl]
  exact Src.ofNil w hu c0
 ·rename_i s a1 a2 a3 hev htx
  have hu := hT.kstr htx rfl
  cases h
  rw [hev] at hx
  subst hsz
  cases hx with
  | pure hx => cases hx with
   | str =>
    have hlen : (strPay s).len = s.size := by simp [strPay, Pay.len]
    refine ⟨byteCells s, ?_, Pay.wf_ints _ _, fun j c hc hj => ?_⟩
    ·rw [hlen]; exact Src.ofString w hu s
    ·rw [hlen] at hj
     have hj' : s.data[j]? = some (s.data[j]'hj) := Array.getElem?_eq_getElem hj
     simp only [Pay.at, strPay, List.length_singleton] at hc
     have hc0 : c = 0 := by omega
     subst hc0
     refine ⟨Value.int .u8 (s.data[j]'hj).toNat, by simp only [byteCells, strPay, Pay.sz, Nat.mul_one, Nat.add_zero, List.getElem?_map, Array.getElem?_toList, hj', Option.map_some], ?_⟩
     have e1 : ((strPay s).at j)[0] = AV.int .u8 ((s.data[j]'hj).toNat : Int) := by
      simp only [strPay, Pay.at, List.getD, List.getElem_cons_zero, List.getElem?_map, Array.getElem?_toList, hj', Option.map_some, Option.getD_some]
     rw [e1]
     exact .int _ _
 ·cases h
theorem rebase_S {cx : Cx} {β : Nat → Nat → Option Nat} {st : St} {w : World} {i : Nat} {ob ob' : AObj} {f : AV → AV} {b' : Nat} (hi : st.objs[i]? = some ob) (hd : ob ≠ .dead)
  (hold : β i 0 = some b' ∨ w.heap.size ≤ b') : ∀ b o v, w.cell? ⟨b, o, none⟩ = some v → ¬ cx.S β st.objs b o → ¬ cx.S (updB β i (some b')) (st.remap f i ob').objs b o := by
 intro b o v hc hn hs
 rcases hs with hs | hs
 ·exact hn (.inl hs)
 ·rcases remap_claim (List.getElem?_eq_some_iff.1 hi).1 hs with ⟨_, e⟩ | ⟨k, o1, hk, ho1, hc1⟩
  ·cases e
   rcases hold with h1 | h1
   ·exact hn (.inr ⟨i, ob, hi, claims_mk o hd h1⟩)
   ·have := lt_of_cell? hc; omega
  ·exact hn (.inr ⟨k, o1, ho1, hc1⟩)
theorem remap_get {f : AV → AV} {st : St} {i : Nat} {ob ob' : AObj} (hi : st.objs[i]? = some ob) : (st.remap f i ob').objs[i]? = some ob' := by
 have := (List.getElem?_eq_some_iff.1 hi).1
 simp [St.remap, this]
theorem idx_lt {j c n sz : Nat} (hj : j < n) (hc : c < sz) : j * sz + c < n * sz := by
 calc j * sz + c < j * sz + sz := by omega
  _ = (j + 1) * sz := by rw [Nat.add_mul, Nat.one_mul]
  _ ≤ n * sz := Nat.mul_le_mul_right _ hj
theorem app_rel {w : World} {S : CellSet} {p q r : Pay} {olds news : List Value} (happ : AppIs p q r) (hpw : p.wf) (hol : olds.length = p.len * p.sz)
  (ho : ∀ j c (h : c < (p.at j).length), j < p.len → ∃ v, olds[j * p.sz + c]? = some v ∧ PV w S ((p.at j)[c]) v)
  (hn : ∀ j c (h : c < (q.at j).length), j < q.len → ∃ v, news[j * p.sz + c]? = some v ∧ PV w S ((q.at j)[c]) v) :
  ∀ j c (h : c < (r.at j).length), j < r.len → ∃ v, (olds ++ news)[j * p.sz + c]? = some v ∧ PV w S ((r.at j)[c]) v := by
 intro j c h hj
 by_cases hlt : j < p.len
 ·have e := happ.old j hlt
  have hc : c < (p.at j).length := by rw [← e]; exact h
  obtain ⟨v, hv, hv'⟩ := ho j c hc hlt
  refine ⟨v, ?_, by simp only [e]; exact hv'⟩
  rw [List.getElem?_append_left]
  ·exact hv
  ·rw [hol]; exact idx_lt hlt (by rw [← hpw j hlt]; exact hc)
 ·have hk : j - p.len < q.len := by have := happ.len; omega
  have e := happ.new _ hk
  have ej : p.len + (j - p.len) = j := by omega
  rw [ej] at e
  have hc : c < (q.at (j - p.len)).length := by rw [← e]; exact h
  obtain ⟨v, hv, hv'⟩ := hn _ c hc hk
  refine ⟨v, ?_, by simp only [e]; exact hv'⟩
  have e2 : j * p.sz = p.len * p.sz + (j - p.len) * p.sz := by rw [← Nat.add_mul, ej]
  have e3 : j * p.sz + c - p.len * p.sz = (j - p.len) * p.sz + c := by omega
  rw [List.getElem?_append_right (by omega), hol, e3]
  exact hv
theorem FR.appendNew {cx : Cx} {β : Nat → Nat → Option Nat} {st : St} {tmps : Array Value} {w : World} (hfr : FR cx β st tmps w) {i : Nat} {p q r : Pay} {ai : AI} {olds news : List Value} {zc : Array Value} {g : Nat}
  (hi : st.objs[i]? = some (.arr p ai)) (happ : AppIs p q r) (hqw : q.wf) (hq0 : p.len + q.len ≠ 0)
  (hol : olds.length = p.len * p.sz) (ho : ∀ j c (h : c < (p.at j).length), j < p.len → ∃ v, olds[j * p.sz + c]? = some v ∧ PV w (cx.S β st.objs) ((p.at j)[c]) v)
  (hnl : news.length = q.len * p.sz) (hn : ∀ j c (h : c < (q.at j).length), j < q.len → ∃ v, news[j * p.sz + c]? = some v ∧ PV w (cx.S β st.objs) ((q.at j)[c]) v)
  (hg : p.len + q.len ≤ g) (hgm : g ≤ maxLen) (hzc : zc.size = (g - (p.len + q.len)) * p.sz) {w' : World} (hw' : w' = w.drew.alloc (.cells ((olds ++ news).toArray ++ zc) ai.e)) :
  Keeps (cx.S β st.objs) w w' ∧ ∃ β', FR cx β' (st.remap (killL i) i (.arr r ai)) tmps w' ∧
   TV w' (cx.S β' (st.remap (killL i) i (.arr r ai)).objs) β' (st.remap (killL i) i (.arr r ai)).objs (.own i) (.slice (some ⟨w.heap.size, 0, none⟩) (p.len + q.len) g) := by
 obtain ⟨hpw, hp0, hβs, hob⟩ := hfr.objs i _ hi
 have hget := remap_get (f := killL i) (ob' := .arr r ai) hi
 have hsize : w'.heap.size = w.heap.size + 1 := by rw [hw']; exact size_alloc w.drew _
 have hold : ∀ k, k < w.heap.size → w'.heap[k]? = w.heap[k]? := fun k hk => by rw [hw']; exact heap_alloc_old w.drew _ k hk
 have hnew : w'.heap[w.heap.size]? = some (.cells ((olds ++ news).toArray ++ zc) ai.e (0, 0)) := by rw [hw']; exact heap_alloc_new w.drew _
 have hkeep : Keeps (cx.S β st.objs) w w' := fun b o v _ hc => by rw [cell?_of_heap (hold b (lt_of_cell? hc))]; exact hc
 have hcs : ((olds ++ news).toArray ++ zc).size = g * p.sz := by
  simp only [Array.size_append, List.size_toArray, List.length_append, hol, hnl, hzc, ← Nat.add_mul]
  congr 1; omega
 refine ⟨hkeep, updB β i (some w.heap.size), ?_, ?_⟩
 ·refine hfr.rebase (.arr r ai) w.heap.size hi (by simp) (.inr (Nat.le_refl _)) (by omega) (fun k hk _ => hold k hk) (by omega) (by rw [hw']; rfl) (by rw [hw']; rfl) (by rw [hw']; rfl) (by rw [hw']; exact Nat.le_succ _) (fun k x hx => by rw [shape?_of_heap (hold k (lt_of_shape? hx))]; exact hx)
   ⟨happ.wf hpw hqw, fun e => (by rw [updB_same] at e; cases e), fun j => updB_succ, fun b e => ?_⟩
  rw [updB_same] at e
  cases e
  refine ⟨⟨_, hnew, by rw [hcs, happ.size, happ.len]; exact Nat.mul_le_mul_right _ hg⟩, fun j c h hj => ?_⟩
  obtain ⟨v, hv, hv'⟩ := app_rel happ hpw hol ho hn j c h hj
  refine ⟨v, ?_, hv'.keeps hkeep (rebase_S hi (by simp) (.inr (Nat.le_refl _)))⟩
  simp only [World.cell?, hnew, happ.size]
  have hlt : j * p.sz + c < (olds ++ news).length := (List.getElem?_eq_some_iff.1 hv).1
  rw [Array.getElem?_append_left (by simpa using hlt)]
  simpa using hv
 ·refine .own hget happ.len (fun _ h => absurd h hq0) (fun e => by rw [updB_same] at e; cases e) (fun b e => ?_)
  rw [updB_same] at e
  cases e
  refine ⟨rfl, hg, hgm, ?_⟩
  simp only [World.shape?, hnew, hcs, happ.size]
theorem FR.appendSome {P : Program} {cx : Cx} {β : Nat → Nat → Option Nat} {st : St} {tmps : Array Value} {w : World} (hfr : FR cx β st tmps w) {i : Nat} {p q r : Pay} {ai : AI} {x : Value} {news : List Value} {a : Option Addr} {cap b : Nat}
  (hi : st.objs[i]? = some (.arr p ai)) (hβ : β i 0 = some b) (hb : ∀ b, β i 0 = some b → a = some ⟨b, 0, none⟩ ∧ p.len ≤ cap ∧ cap ≤ maxLen ∧ w.shape? b = some (ai.e, cap * p.sz)) (hnz : ai.nz = true → p.len = 0 → a = none)
  {t tx ty : TypeId} {inf : TypeInfo} {z : Value} (hut : P.underlying t = some (.slice ai.e)) (hinf : P.info? ai.e = some inf) (hz1 : inf.zero = some z) (hzs : z.cells.size = inf.size)
  (hsz : p.sz = inf.size) (hs : SrcIs P w (cx.S β st.objs) inf.size tx x q news) (happ : AppIs p q r) (hlen63 : p.len + q.len ≤ maxLen) (hbd : (p.len + q.len) * inf.bytes ≤ 140737488355328) :
  ∃ v' w', (Builtin.append_ #[t, tx] ty #[.slice a p.len cap, x]).run P w = .ok v' w' ∧ Keeps (cx.S β st.objs) w w' ∧
   ∃ β', FR cx β' (st.remap (killL i) i (.arr r ai)) tmps w' ∧ TV w' (cx.S β' (st.remap (killL i) i (.arr r ai)).objs) β' (st.remap (killL i) i (.arr r ai)).objs (.own i) v' := by
 obtain ⟨hpw, hp0, hβs, hob⟩ := hfr.objs i _ hi
 have hrw : r.wf := happ.wf hpw hs.wf
 have hget := remap_get (f := killL i) (ob' := .arr r ai) hi
 have hnl := hs.src.newsLen
 have hrel := hs.rel
 obtain ⟨rfl, e2, e3, e4⟩ := hb b hβ
 obtain ⟨⟨cur, hcur, hcl⟩, hcells⟩ := hob b hβ
 have hcs : cur.size = cap * p.sz := by
  simp only [World.shape?, hcur, Option.some.injEq, Prod.mk.injEq] at e4
  exact e4.2
 have hcell : ∀ o, w.cell? ⟨b, o, none⟩ = cur[o]? := fun o => by simp [World.cell?, hcur]
 have hol : (cur.toList.take (p.len * p.sz)).length = p.len * p.sz := by simp [List.length_take]; omega
 have hold : ∀ j c (h : c < (p.at j).length), j < p.len → ∃ v, (cur.toList.take (p.len * p.sz))[j * p.sz + c]? = some v ∧ PV w (cx.S β st.objs) ((p.at j)[c]) v := fun j c h hj => by
  obtain ⟨v, hv, hv'⟩ := hcells j c h hj
  refine ⟨v, ?_, hv'⟩
  rw [List.getElem?_take_of_lt (idx_lt hj (by rw [← hpw j hj]; exact h))]
  rw [hcell] at hv
  simpa using hv
 by_cases hroom : p.len + q.len ≤ cap
 ·have hfit : p.len * p.sz + news.length ≤ cur.size := by
   rw [hnl, hcs, ← hsz, ← Nat.add_mul]; exact Nat.mul_le_mul_right _ hroom
  have hsome : ∀ j, j < news.length → (w.cell? ⟨b, p.len * p.sz + j, none⟩).isSome = true := fun j hj => by
   have : p.len * p.sz + j < cur.size := by omega
   simp [hcell, this]
  have hrun := run_append_room_src (P := P) w t tx ty ai.e inf hut hinf b 0 p.len cap x q.len news hs.src hroom (fun j hj => by rw [Nat.zero_add, ← hsz]; exact hsome j hj) (fun j hj => by simp [World.frozen?, hcur])
  rw [Nat.zero_add, ← hsz] at hrun
  obtain ⟨w1, w2, w3, w4, w5, w6, w7⟩ := setCells_heap b news (p.len * p.sz) w
  obtain ⟨cur', h8, h9⟩ := w7 _ _ _ hcur
  have hkeep : Keeps (cx.S β st.objs) w (w.setCells b (p.len * p.sz) news) := fun b' o' v hn hc => by
   have : b' ≠ b := fun e => hn (.inr (claim_of hi (by rw [e]; exact hβ) (by simp) o'))
   rw [cell?_of_heap (w2 b' this)]; exact hc
  refine ⟨_, _, hrun, hkeep, updB β i (some b), ?_, ?_⟩
  ·refine hfr.rebase (.arr r ai) b hi (by simp) (.inl hβ) (by rw [w1]; exact (hfr.rng i 0 b hβ).1) (fun k _ hk => w2 k (fun e => hk (by rw [e]; exact hβ))) (by rw [w1]; exact Nat.le_refl _) w3 w4 w5 (setCells_dr _ _ _ _) (fun k x hx => by rw [w6]; exact hx)
    ⟨hrw, fun e => (by rw [updB_same] at e; cases e), fun j => updB_succ, fun b' e => ?_⟩
   rw [updB_same] at e
   cases e
   refine ⟨⟨cur', h8, by rw [h9, hcs, happ.size, happ.len]; exact Nat.mul_le_mul_right _ hroom⟩, fun j c h hj => ?_⟩
   obtain ⟨v, hv, hv'⟩ := app_rel happ hpw hol hold (by rw [hsz]; exact hrel) j c h hj
   refine ⟨v, ?_, hv'.keeps hkeep (rebase_S hi (by simp) (.inl hβ))⟩
   rw [happ.size]
   by_cases hin : j * p.sz + c < p.len * p.sz
   ·rw [World.cell?_setCells_out b _ _ _ _ (fun _ _ => .inl hin)]
    rw [List.getElem?_append_left (by omega), List.getElem?_take_of_lt hin] at hv
    rw [hcell]; simpa using hv
   ·rw [List.getElem?_append_right (by omega), hol] at hv
    have hk := (List.getElem?_eq_some_iff.1 hv).1
    have := World.cell?_setCells_in b news (p.len * p.sz) w hsome _ hk
    rw [show p.len * p.sz + (j * p.sz + c - p.len * p.sz) = j * p.sz + c by omega] at this
    rw [this]
    rw [List.getElem?_eq_getElem hk] at hv
    exact hv
  ·refine .own hget happ.len (fun hz h => ?_) (fun e => by rw [updB_same] at e; cases e) (fun b' e => ?_)
   ·have := hnz hz (by omega); cases this
   ·rw [updB_same] at e
    cases e
    refine ⟨rfl, hroom, e3, ?_⟩
    rw [w6, happ.size]; exact e4
 ·have hrun := run_append_grow_src (P := P) w t tx ty ai.e inf z hut hinf hz1 (some ⟨b, 0, none⟩) p.len cap (cur.toList.take (p.len * p.sz))
   (run_firstCells_some w.drew inf.size p.len ⟨b, 0, none⟩ p.len cap _ (by rw [hol, hsz]) (fun j u hu => by
    rw [Addr.add_lit]
    show w.cell? _ = _
    have hj := (List.getElem?_eq_some_iff.1 hu).1
    rw [hol] at hj
    rw [List.getElem?_take_of_lt hj] at hu
    rw [Nat.zero_add, hcell]; simpa using hu)) x q.len news hs.src (by omega) (by simp only [maxLen] at hlen63; omega) (growslice_fits (by omega) hbd)
  have hge := grownCap_ge w (p.len + q.len) cap ai.e
  have hcm := grownCap_le_maxLen w (p.len + q.len) cap ai.e hlen63
  exact ⟨_, _, hrun, hfr.appendNew (p := p) (q := q) (news := news) (zc := Builtin.zeroCells z.cells (grownCap w (p.len + q.len) cap ai.e - (p.len + q.len))) hi happ hs.wf (by omega) hol hold (by rw [hnl, hsz]) (by rw [hsz]; exact hrel) hge hcm (by rw [size_zeroCells, hzs, hsz]) rfl⟩
theorem FR.append {P : Program} {T : Tys} (hT : TyOk P T) {cx : Cx} {β : Nat → Nat → Option Nat} {st : St} {tmps : Array Value} {w : World} (hfr : FR cx β st tmps w) {i : Nat} {p q r : Pay} {ai : AI} {v x : Value} {news : List Value}
  (hi : st.objs[i]? = some (.arr p ai)) (hv : TV w (cx.S β st.objs) β st.objs (.own i) v) {t tx ty : TypeId} {it ei : TyI} (ht : T t = some it) (hk : it.k = .slice ai.e) (he : T ai.e = some ei)
  (hsz : p.sz = ei.sz) (hpos : 1 ≤ ei.sz) (hby : 1 ≤ ei.bytes) {zs : List AV} (hz : cellsA ei.zero = some zs) (hzl : zs.length = ei.sz)
  (hs : SrcIs P w (cx.S β st.objs) ei.sz tx x q news) (happ : AppIs p q r) (hbd : (p.len + q.len) * ei.bytes ≤ 140737488355328) :
  ∃ v' w', (Builtin.append_ #[t, tx] ty #[v, x]).run P w = .ok v' w' ∧ Keeps (cx.S β st.objs) w w' ∧
   ∃ β', FR cx β' (st.remap (killL i) i (.arr r ai)) tmps w' ∧ TV w' (cx.S β' (st.remap (killL i) i (.arr r ai)).objs) β' (st.remap (killL i) i (.arr r ai)).objs (.own i) v' := by
 have hut := hT.kslice ht hk
 obtain ⟨inf, hinf, hisz, hiby, z, hz1, hz2⟩ := (hT _ _ he).info
 have hzs : z.cells.size = inf.size := by
  rw [← hz2] at hz
  have := (cellsA_const (w := w) (S := fun _ _ => False) (β := fun _ _ => none) (objs := []) hz).1
  omega
 obtain ⟨hpw, hp0, hβs, hob⟩ := hfr.objs i _ hi
 have hrw : r.wf := happ.wf hpw hs.wf
 have hget := remap_get (f := killL i) (ob' := .arr r ai) hi
 have hlen63 : p.len + q.len ≤ maxLen := by
  have := Nat.le_mul_of_pos_right (p.len + q.len) hby
  simp only [maxLen]; omega
 have hnl := hs.src.newsLen
 rw [← hisz] at hs hpos
 rw [← hiby] at hbd
 rw [← hisz] at hsz hnl
 have hrel := hs.rel
 cases hv with
 | pure hv => cases hv
 | @own _ p' nz' a len cap ho hlen hnz hn hb =>
  rw [hi] at ho
  cases ho
  subst hlen
  cases hβ : β i 0 with
  | none =>
   obtain ⟨rfl, rfl⟩ := hn hβ
   have hpl := hp0 hβ
   by_cases hq : q.len = 0
   ·-- nothing onto nothing
    have hnews : news = [] := List.eq_nil_of_length_eq_zero (by rw [hnl, hq, Nat.zero_mul])
    subst hnews
    have hsr := hs.src
    rw [hq] at hsr
    have hrl : r.len = 0 := by rw [happ.len]; omega
    refine ⟨.slice none 0 0, w, ?_, Keeps.refl _ _, updB β i none, ?_, ?_⟩
    ·rw [hpl]
     rcases hsr.kind with ⟨e', hk⟩ | hk <;> simp [Builtin.append_, run_underlying hut, run_underlying hk, sizeOf, typeInfo, hinf, hsr.len, hsr.cells]
    ·refine hfr.remap (.arr r ai) none hi (Keeps.refl _ _) (Nat.le_refl _) hfr.keep (fun b o v hc hn hs => ?_) (fun _ _ _ _ _ => rfl) (fun b e => by cases e) (fun av v hh ht => ?_) ⟨hrw, fun _ => hrl, fun j => updB_succ, fun b e => (by rw [updB_same] at e; cases e)⟩
     ·rcases hs with hs | hs
      ·exact hn (.inl hs)
      ·rcases remap_claim (List.getElem?_eq_some_iff.1 hi).1 hs with ⟨_, e⟩ | ⟨k, o1, hk, ho1, hc1⟩
       ·cases e
       ·exact hn (.inr ⟨k, o1, ho1, hc1⟩)
     ·refine TV.stepH hh ht (fun k p nz hk ho => ⟨p, ?_, rfl, rfl⟩) (fun k rows hole gone ai e am hk ho => ?_) (fun k m T hk ho => ⟨T, ?_⟩) (fun k j hk => updB_ne hk j) (fun _ _ => id)
      all_goals
       simp only [St.remap, List.getElem?_set_ne (Ne.symm hk), List.getElem?_map, ho]
       rfl
    ·exact .own hget hrl (fun _ _ => rfl) (fun _ => ⟨rfl, rfl⟩) (fun b e => by rw [updB_same] at e; cases e)
   ·-- the first row
    have hrun := run_append_grow_src (P := P) w t tx ty ai.e inf z hut hinf hz1 none p.len 0 [] (run_firstCells_none w.drew inf.size p.len p.len 0) x q.len news hs.src (by omega) (by simp only [maxLen] at hlen63; omega) (growslice_fits (by omega) hbd)
    have hge := grownCap_ge w (p.len + q.len) 0 ai.e
    have hcm := grownCap_le_maxLen w (p.len + q.len) 0 ai.e hlen63
    refine ⟨_, _, hrun, hfr.appendNew (p := p) (q := q) (olds := []) (news := news) (zc := Builtin.zeroCells z.cells (grownCap w (p.len + q.len) 0 ai.e - (p.len + q.len))) hi happ hs.wf (by omega) (by rw [hpl]; simp) (fun j c _ hj => by omega) (by rw [hnl, hsz]) (by rw [hsz]; exact hrel) hge hcm (by rw [size_zeroCells, hzs, hsz]) rfl⟩
  | some b => exact hfr.appendSome hi hβ hb hnz hut hinf hz1 hzs hsz (by exact hs) happ hlen63 hbd
def appCore (T : Tys) (st : St) (i : Nat) (t tx : TypeId) (x : Operand) (d : Option Tmp) (K : St → Prop) : Prop :=
 match st.objs[i]? with
 | some (.arr p ai) => match T t, T ai.e with
  | some { k := .slice e, .. }, some ei => match Nat.beq e ai.e, Nat.beq p.sz ei.sz, Nat.ble 1 ei.sz, Nat.ble 1 ei.bytes, cellsA ei.zero with
   | true, true, true, true, some zs => match Nat.beq zs.length ei.sz, srcA T st t tx x with
    | true, some q => match p.app q with
     | some r => q.onesOk ∧ (p.len + q.len) * ei.bytes ≤ 140737488355328 ∧ K ((st.remap (killL i) i (.arr r ai)).put d (.own i))
     | none => False
    | _, _ => False
   | _, _, _, _, _ => False
  | _, _ => False
 | _ => False
def appendA (T : Tys) (st : St) (d : Option Tmp) (t tx : TypeId) (s x : Operand) (K : St → Prop) : Prop :=
 match st.ev s with
 | .own i => appCore T st i t tx x d K
 | .lit (.slice none 0 0) => match T t, emptyPay T t with
  | some { k := .slice e, .. }, some p => appCore T { st with objs := st.objs ++ [.arr p ⟨e, true⟩] } st.objs.length t tx x d K
  | _, _ => False
 | _ => False
theorem appCore_ok {P : Program} {T : Tys} (hT : TyOk P T) {cx : Cx} {β : Nat → Nat → Option Nat} {st : St} {tmps : Array Value} {w : World} (hfr : FR cx β st tmps w) {i : Nat} {v : Value} (hv : TV w (cx.S β st.objs) β st.objs (.own i) v)
  {t tx ty : TypeId} {x : Operand} {d : Option Tmp} {K : St → Prop} (h : appCore T st i t tx x d K) (ds : List Deferred) :
  ∃ v' w', (Builtin.append_ #[t, tx] ty #[v, ({ tmps, defers := ds } : Act).eval x]).run P w = .ok v' w' ∧ Keeps (cx.S β st.objs) w w' ∧
   ∃ β' st', K st' ∧ FR cx β' st' (({ tmps, defers := ds } : Act).put d v').tmps w' := by
 unfold appCore at h
 split at h
 ·rename_i p ai hi
  split at h
  ·rename_i s1 s2 e s3 ei ht he
   split at h
   ·rename_i zs h1 h2 h3 h4 hz
    have h1 := Nat.eq_of_beq_eq_true h1
    have h2 := Nat.eq_of_beq_eq_true h2
    subst h1
    split at h
    ·rename_i q h5 hq
     split at h
     ·rename_i r hr
      obtain ⟨hone, hbd, hk⟩ := h
      have happ := app_is hr
      have hpos := Nat.le_of_ble_eq_true h3
      obtain ⟨news, hs⟩ := srcA_ok (sz := ei.sz) hT hfr hq (happ.size'.trans h2) hpos hone ds
      obtain ⟨v', w', hrun, hkeep, β', hf', htv⟩ := hfr.append (ty := ty) hT hi hv ht rfl he h2 hpos (Nat.le_of_ble_eq_true h4) hz (Nat.eq_of_beq_eq_true h5) hs happ hbd
      exact ⟨v', w', hrun, hkeep, β', _, hk, hf'.put htv _ ds⟩
     ·exact h.elim
    ·exact h.elim
   ·exact h.elim
  ·exact h.elim
 ·exact h.elim
theorem appendA_ok {P : Program} {T : Tys} (hT : TyOk P T) {o : Oper} {st : St} {t tx : TypeId} {s x : Operand} (ho : o.op = .call { callee := .builtin .append, args := #[s, x], argTypes := #[t, tx] }) {K : St → Prop}
  (h : appendA T st o.dst t tx s x K) : EffOk P false o st K := by
 intro cx β tmps w ds Q hfr
 unfold appendA at h
 split at h
 ·rename_i i hev
  have hv := hfr.ev ds s
  rw [hev] at hv
  obtain ⟨v', w', hrun, hkeep, β', st', hk, hf'⟩ := appCore_ok (ty := o.type) hT hfr hv h ds
  refine wp_of_run (v := v') (w' := w') ?_ ⟨β', st', hk, hf', put_defers _ _ _, hkeep, fun e => by cases e⟩
  unfold execOp
  simp only [ho, resolve, invoke, builtin, Sem.run_bind, Sem.run_pure, Result.andThen_ok, List.map_toArray, List.map_cons, List.map_nil, hrun]
 ·rename_i hev
  have hv := hfr.ev ds s
  rw [hev] at hv
  have hv := TV_lit hv
  split at h
  ·rename_i s1 s2 e s3 p ht hp
   have hl := emptyPay_len hp
   have hwf : p.wf := fun j hj => by omega
   have hn := hfr.newObj (.arr p ⟨e, true⟩) none (KeepL.refl _ w) (by simp) (fun b e => by cases e) ⟨hwf, fun _ => hl, fun j => updB_succ, fun b e => (by rw [updB_same] at e; cases e)⟩
   obtain ⟨v', w', hrun, hkeep, β', st', hk, hf'⟩ := appCore_ok (ty := o.type) hT hn (v := .slice none 0 0) (.own (p := p) (nz := ⟨e, true⟩) (by simp) hl (fun _ _ => rfl) (fun _ => ⟨rfl, rfl⟩) (fun b e => by rw [updB_same] at e; cases e)) h ds
   refine wp_of_run (v := v') (w' := w') ?_ ⟨β', st', hk, hf', put_defers _ _ _, ?_, fun e => by cases e⟩
   ·unfold execOp
    simp only [ho, resolve, invoke, builtin, Sem.run_bind, Sem.run_pure, Result.andThen_ok, List.map_toArray, List.map_cons, List.map_nil, hv, hrun]
   ·intro b o v hn2 hc
    refine hkeep b o v (fun hs => ?_) hc
    rcases hs with hs | ⟨i, ob1, h1, h2⟩
    ·exact hn2 (.inl hs)
    ·obtain ⟨h3, j4, h4⟩ := claims_block h2
     by_cases hi : i = st.objs.length
     ·subst hi
      cases j4 with
      | zero => rw [updB_same] at h4; cases h4
      | succ j4 => rw [updB_succ] at h4; cases h4
     ·rw [updB_ne hi] at h4
      have hil : i < st.objs.length := by
       have := (List.getElem?_eq_some_iff.1 h1).1
       simp at this; omega
      rw [List.getElem?_append_left hil] at h1
      exact hn2 (.inr ⟨i, ob1, h1, claims_mk o h3 h4⟩)
  ·exact h.elim
 ·exact h.elim
end Go.AM
end

section
namespace Go.AM
open Go
def Enters (P : Program) (f : FuncId) : Prop := ∀ (vs : Array Value) (w : World), (callFunc f vs).run P w = .ok (.enter f vs) w
theorem enters_of {P : Program} {f : FuncId} {fn : Func} (hf : P.funcs[f]? = some fn) (hn : (fn.name == "runtime.NumGoroutine") = false) (hb : fn.body.isNone = false) : Enters P f := by
 intro vs w
 unfold callFunc
 have hn' : fn.name ≠ "runtime.NumGoroutine" := by simpa using hn
 have hb' : fn.body ≠ none := fun e => by rw [e] at hb; cases hb
 simp [program, Sem.run, bind, Sem.bind, hf, hn', hb', pure]
def ACallR (w : World) (S0 : CellSet) (Q : AV → List AObj → Prop) : Ending → World → Prop
 | .returned v, w' => ∃ r objs β, Q r objs ∧ KeepL (fun _ => False) w w' ∧ FR ⟨w, S0, fun _ => False⟩ β ⟨1, [(0, r)], objs⟩ #[v] w'
 | _, _ => False
structure ACall (P : Program) (f : FuncId) (args : List AV) (Q : AV → List AObj → Prop) : Prop where
 enters : Enters P f
 calls : ∀ (S0 : CellSet) (w : World) (vs : Array Value), (∀ b o, S0 b o → b < w.heap.size) → args.length = vs.size → (∀ c (h : c < args.length), PV w S0 (args[c]) (vs[c]!)) → Calls P f vs w (ACallR w S0 Q)
theorem Calls.mono' {P : Program} {f : FuncId} {vs : Array Value} {w : World} {R R' : Ending → World → Prop} (h : Calls P f vs w R) (hr : ∀ e w', R e w' → R' e w') : Calls P f vs w R' :=
 fun cs => let ⟨e, w', fr, r, s⟩ := h cs; ⟨e, w', fr, hr _ _ r, s⟩
theorem ACall.mono {P : Program} {f : FuncId} {args : List AV} {Q Q' : AV → List AObj → Prop} (h : ACall P f args Q) (hq : ∀ r objs, Q r objs → Q' r objs) : ACall P f args Q' :=
 ⟨h.enters, fun S0 w vs h1 h2 h3 => Calls.mono' (h.calls S0 w vs h1 h2 h3) fun e w' hr => by
  cases e with
  | returned v => obtain ⟨r, objs, β, hq', hk, hf⟩ := hr; exact ⟨r, objs, β, hq _ _ hq', hk, hf⟩
  | _ => exact hr⟩
def joinC (s0 s1 : St) (d : Option Tmp) (r : AV) (objs : List AObj) : St :=
 match aliasFree r objs with
 | true => s0.join d r objs
 | false => s1.join d r objs
def callA (P : Program) (st : St) (d : Option Tmp) (c : Operand) (args : List Operand) (K : St → Prop) : Prop :=
 match (st.freezeL (hsOf st (c :: args))).ev c with
 | .clo g caps => match (args.map (st.freezeL (hsOf st (c :: args))).ev ++ caps).all (AV.noH 3) with
  | true => ∃ Q, ACall P g (args.map (st.freezeL (hsOf st (c :: args))).ev ++ caps) Q ∧ ∀ r objs, Q r objs → K (joinC st (st.freezeL (hsOf st (c :: args))) d r objs)
  | false => False
 | _ => False
theorem callA_ok {P : Program} {o : Oper} {st : St} {c : Operand} {args : Array Operand} {ts : Array TypeId} (ho : o.op = .call { callee := .value c, args := args, argTypes := ts }) {K : St → Prop}
  (h : callA P st o.dst c args.toList K) : EffOk P true o st K := by
 intro cx β0 tmps w ds Q hfr0
 obtain ⟨β, hfr⟩ := FR.freezeL (hsOf st (c :: args.toList)) st β0 hfr0
 unfold callA at h
 generalize st.freezeL (hsOf st (c :: args.toList)) = st1 at h hfr
 split at h
 ·rename_i g caps hev
  split at h
  ·rename_i hno
   obtain ⟨Q1, hcall, hK⟩ := h
   have hc := hfr.ev ds c
   rw [hev] at hc
   obtain ⟨vs, hcv, hcl, hcr⟩ : ∃ vs : Array Value, ({ tmps, defers := ds } : Act).eval c = .func (.func g) #[] vs ∧ caps.length = vs.size ∧ ∀ k (hk : k < caps.length), TV w (cx.S β st1.objs) β st1.objs (caps[k]) (vs[k]!) := by
    revert hc
    generalize ({ tmps, defers := ds } : Act).eval c = v
    intro hc
    cases hc with
    | pure hc => cases hc with
     | clo hl hr => exact ⟨_, rfl, hl, fun k hk => .pure (hr k hk)⟩
    | clo hl hr => exact ⟨_, rfl, hl, hr⟩
   have hargs : Calls P g (args.map ({ tmps, defers := ds } : Act).eval ++ vs) w (ACallR w (cx.S β st1.objs) Q1) := by
    refine hcall.calls _ w _ hfr.Slt (by simp [hcl]) (fun k hk => ?_)
    have hx := List.all_eq_true.1 hno _ (List.getElem_mem hk)
    refine TV.noH (β := β) (objs := st1.objs) 3 _ _ hx ?_
    by_cases hlt : k < args.size
    ·have h1 : k < (args.toList.map st1.ev).length := by simpa using hlt
     rw [List.getElem_append_left h1]
     have h2 : (args.map ({ tmps, defers := ds } : Act).eval ++ vs)[k]! = ({ tmps, defers := ds } : Act).eval args[k] := by
      rw [getElem!_pos (args.map ({ tmps, defers := ds } : Act).eval ++ vs) k (by simp; omega), Array.getElem_append_left (by simpa using hlt)]
      simp
     rw [h2]
     simpa using hfr.ev ds args[k]
    ·have hk2 : k - args.size < caps.length := by simp at hk; omega
     rw [List.getElem_append_right (by simpa using Nat.le_of_not_lt hlt)]
     have hk3 : k - args.size < vs.size := by omega
     have h2 : (args.map ({ tmps, defers := ds } : Act).eval ++ vs)[k]! = vs[k - args.size]! := by
      rw [getElem!_pos (args.map ({ tmps, defers := ds } : Act).eval ++ vs) k (by simp; omega), getElem!_pos vs _ hk3, Array.getElem_append_right (by simpa using Nat.le_of_not_lt hlt)]
      simp
     rw [h2]
     simpa using hcr _ hk2
   have hrun : (execOp ({ tmps, defers := ds } : Act).eval o).run P w = .ok (.enter g (args.map ({ tmps, defers := ds } : Act).eval ++ vs)) w := by
    unfold execOp
    simp only [ho, resolve, hcv, Deferred.ofValue, Sem.run_bind, Sem.run_pure, Result.andThen_ok, invoke]
    have := hcall.enters (args.map ({ tmps, defers := ds } : Act).eval ++ vs) w
    simpa using this
   unfold Oper.wp Oper.upon
   rw [hrun]
   refine Calls.mono' hargs fun e w' hr => ?_
   cases e with
   | returned v =>
    obtain ⟨r, objs, β', hq, hkp, hf'⟩ := hr
    have hK1 := hK r objs hq
    unfold joinC at hK1
    split at hK1
    ·rename_i hal
     exact ⟨_, _, hK1, hfr0.join hkp hf' (.inl hal) o.dst ds, put_defers _ _ _, hkp.keeps fun _ _ _ => id, fun _ => hkp⟩
    ·exact ⟨_, _, hK1, hfr.join hkp hf' (.inr fun _ _ => id) o.dst ds, put_defers _ _ _, hkp.keeps fun _ _ _ => id, fun _ => hkp⟩
   | panicked => exact hr.elim
   | outgrown => exact hr.elim
  ·exact h.elim
 ·exact h.elim
end Go.AM
end

section
namespace Go.AM
open Go
def FW (ro : Option Nat) : Fence := { Fence.wide with round := ro }
theorem callsIn_FW {ro : Option Nat} {n : Nat} {P : Program} {f : FuncId} {args : Array Value} {w : World} {R : Ending → World → Prop} : CallsIn (FW ro) n P f args w R ↔ Calls P f args w R := by
 have : CallsIn (FW ro) n P f args w R ↔ CallsIn Fence.wide n P f args w R := Iff.rfl
 exact this.trans callsIn_wide
theorem rowsIn_FW {ro : Option Nat} {n : Nat} {P : Program} {row : String} {args : Array Value} {w : World} {R : Value → World → Prop} (h : Rows P row args w R) : RowsIn (FW ro) n P row args w R := by
 have : RowsIn Fence.wide n P row args w R := fun c cs _ => let ⟨v, w', r, s⟩ := h c cs; ⟨v, w', r, stepsIn_wide.2 s⟩
 exact this
theorem room_FW (ro : Option Nat) (k : Nat) : (FW ro).room k := room_wide k
def noDefer (o : Oper) : Prop := ∀ c, o.op ≠ .defer c
theorem Oper.wpIn_of_wp {ro : Option Nat} {n : Nat} {P : Program} {o : Oper} {a : Act} {w : World} {K : Act → World → Prop} {Q : Exit → Act → World → Prop} (hop : noDefer o) (h : o.wp P a w K Q) : o.wpIn (FW ro) n P a w K Q := by
 refine ⟨fun _ _ => trivial, ?_⟩
 rw [Oper.semAt_eq _ _ _ hop]
 unfold Oper.wp at h
 generalize (execOp a.eval o).run P w = r at *
 cases r with
 | ok x w' =>
  cases x <;> simp only [Oper.upon] at h <;> simp only [Oper.uponIn] <;> first
   | exact h
   | exact h.elim
   | exact ⟨fun hd => by simp [FW, Fence.wide] at hd, callsIn_FW.2 h⟩
   | exact ⟨fun hd => by simp [FW, Fence.wide] at hd, rowsIn_FW h⟩
 | halt x w' => cases x <;> simp only [Oper.upon] at h <;> simp only [Oper.uponIn] <;> first
  | exact h
  | exact h.elim
end Go.AM
end

section
namespace Go.AM
open Go
def Ext (S : CellSet) (w : World) (S' : CellSet) (w' : World) : Prop :=
 Keeps S w w' ∧ ∀ b o v, w.cell? ⟨b, o, none⟩ = some v → ¬ S b o → ¬ S' b o
theorem Ext.refl (S w) : Ext S w S w := ⟨Keeps.refl _ _, fun _ _ _ _ => id⟩
theorem Ext.keeps {S S' : CellSet} {w w' w'' : World} (h : Ext S w S' w') (k : Keeps S' w' w'') : Keeps S w w'' :=
 fun b o v hn hc => k b o v (h.2 b o v hc hn) (h.1 b o v hn hc)
def Oper.loud (o : Oper) : Bool :=
 match o.op with
 | .store .. | .mapUpdate .. | .insert .. | .mapEntry .. | .entryStore .. | .next .. => true
 | .call c => match c.callee with
  | .builtin .len => false
  | .builtin .cap => false
  | .builtin .min => false
  | .builtin .max => false
  | .builtin _ => true
  | _ => false
 | _ => false
section
variable {ro : Option Nat} {ld : Oper → Bool} {P : Program} {ops : Array Oper}
def noQ : Exit → Act → World → Prop := fun _ _ _ => False
def qG (ro : Option Nat) (ld : Oper → Bool) (P : Program) (ops : Array Oper) (i : Nat) (K : Act → World → CellSet → Prop) (a : Act) (w : World) (S : CellSet) : Prop :=
 match ops[i]? with
 | none => False
 | some o => if Region.wanted o (yielded ops a.tmps) then (noDefer o ∧ o.wpIn (FW ro) 0 P a w (fun a' w' => ∃ S', Ext S w S' w' ∧ (ld o = false → KeepL (fun _ => False) w w') ∧ K a' w' S') noQ) else K (a.put o.dst undef) w S
def wpG (ro : Option Nat) (ld : Oper → Bool) (P : Program) (ops : Array Oper) (Q : Act → World → CellSet → Prop) : Nat → Array Bool → Act → World → CellSet → Prop
 | 0, listed, a, w, S => Region.ready .any ops listed = [] ∧ Q a w S
 | fuel + 1, listed, a, w, S => (Region.ready .any ops listed = [] → Q a w S) ∧
  ∀ i, i ∈ Region.ready .any ops listed → qG ro ld P ops i (wpG ro ld P ops Q fuel (listed.setIfInBounds i true)) a w S
theorem Oper.wpIn_mono2 {o : Oper} {a : Act} {w : World} {K K' : Act → World → Prop} {Q' : Exit → Act → World → Prop} (h : ∀ a w, K a w → K' a w) (hh : o.wpIn (FW ro) 0 P a w K noQ) : o.wpIn (FW ro) 0 P a w K' Q' := by
 unfold Oper.wpIn at *
 refine ⟨hh.1, ?_⟩
 have hh := hh.2
 generalize (o.semAt (FW ro).round a.eval).run P w = r at *
 cases r with
 | ok n w' =>
  cases n <;> simp only [Oper.uponIn] at hh ⊢ <;>
   first
    | exact h _ _ hh
    | exact ⟨hh.1, CallsIn.mono hh.2 (fun e w'' he => by
      cases e with
      | returned v => exact h _ _ he
      | panicked c => exact he.elim
      | outgrown => obtain ⟨_, _, h⟩ := he; exact h.elim)⟩
    | exact ⟨hh.1, RowsIn.mono hh.2 (fun _ _ he => h _ _ he)⟩
    | exact ⟨hh.1, RoundIn.mono hh.2 (fun e w'' he => by
      cases e with
      | returned v => exact h _ _ he
      | panicked c => exact he.elim
      | outgrown => obtain ⟨_, _, h⟩ := he; exact h.elim)⟩
 | halt x w' => cases x <;> simp only [Oper.uponIn] at hh ⊢ <;> exact hh.elim
theorem qG_mono {i : Nat} {a : Act} {w : World} {S : CellSet} {K K' : Act → World → CellSet → Prop} (h : ∀ a w S, K a w S → K' a w S) (hh : qG ro ld P ops i K a w S) : qG ro ld P ops i K' a w S := by
 unfold qG at *
 split
 ·rename_i ho; simp only [ho] at hh
 ·rename_i o ho
  simp only [ho] at hh
  split
  ·rename_i hw; simp only [hw, if_true] at hh; exact ⟨hh.1, Oper.wpIn_mono (fun a w ⟨S', h1, h2, h3⟩ => ⟨S', h1, h2, h _ _ _ h3⟩) hh.2⟩
  ·rename_i hw; simp only [hw] at hh; exact h _ _ _ hh
theorem wpOp_of_qG {i : Nat} {a : Act} {w : World} {S : CellSet} {K : Act → World → CellSet → Prop} {K' : Act → World → Prop} {Q : Exit → Act → World → Prop} (h : ∀ a w S, K a w S → K' a w) (hh : qG ro ld P ops i K a w S) : wpOpIn (FW ro) 0 P ops Q i K' a w := by
 unfold qG at hh
 unfold wpOpIn
 split at hh
 ·exact hh.elim
 ·rename_i o ho
  simp only [ho]
  split
  ·rename_i hw; simp only [hw, if_true] at hh; exact Oper.wpIn_mono2 (fun a w ⟨S', _, _, h3⟩ => h _ _ _ h3) hh.2
  ·rename_i hw; simp only [hw] at hh; exact ⟨fun _ _ => trivial, h _ _ _ hh⟩
theorem wpAny_of_G {Q : Act → World → CellSet → Prop} {Q' : Exit → Act → World → Prop} (hQ : ∀ a w S, Q a w S → Q' .normal a w) : ∀ (fuel : Nat) (listed : Array Bool) (a : Act) (w : World) (S : CellSet),
  wpG ro ld P ops Q fuel listed a w S → wpAnyIn (FW ro) 0 P .any ops Q' fuel listed a w
 | 0, _, _, _, _, h => ⟨h.1, hQ _ _ _ h.2⟩
 | fuel + 1, _, _, _, _, h => ⟨fun h0 => hQ _ _ _ (h.1 h0), fun i hi => wpOp_of_qG (fun a' w' S' => wpAny_of_G hQ fuel _ a' w' S') (h.2 i hi)⟩
theorem noDefer_of_value {o : Oper} {ρ : Operand → Value} {w : World} {v : Value} (h : (execOp ρ o).run P w = .ok (.value v) w) : noDefer o := by
 intro c hc
 unfold execOp at h
 rw [hc] at h
 simp only [Sem.run_bind] at h
 cases hr : (resolve ρ c o.type).run P w with
 | ok d w' => rw [hr] at h; simp [Result.andThen] at h
 | halt x w' => rw [hr] at h; simp [Result.andThen] at h
def YG (P : Program) (ops : Array Oper) (s : Bool) (o : Oper) (v : Value) (a : Act) (w : World) (S : CellSet) : Prop :=
 (Region.wanted o (yielded ops a.tmps) = true ∧ ∀ w', Cls s S w w' → (execOp a.eval o).run P w' = .ok (.value v) w') ∨
 (Region.wanted o (yielded ops a.tmps) = false ∧ v = undef)
theorem YG.step {s : Bool} {o : Oper} {v : Value} {a : Act} {w w' : World} {S S' : CellSet} (h : YG P ops s o v a w S) (he : Ext S w S' w') (hq : s = false → KeepL (fun _ => False) w w') : YG P ops s o v a w' S' := by
 rcases h with ⟨h1, h2⟩ | h
 ·refine .inl ⟨h1, fun w'' hc => h2 w'' ?_⟩
  cases s with
  | true => exact he.keeps hc
  | false => exact (hq rfl).trans hc (fun _ _ h => h)
 ·exact .inr h
theorem YG.of_same {s : Bool} {o : Oper} {v : Value} {a a' : Act} {w : World} {S : CellSet} (hy : YG P ops s o v a w S) (he : execOp a'.eval o = execOp a.eval o)
  (hw : Region.wanted o (yielded ops a'.tmps) = Region.wanted o (yielded ops a.tmps)) : YG P ops s o v a' w S := by
 unfold YG at *
 rw [he, hw]
 exact hy
theorem YG.qG {s : Bool} {i : Nat} {o : Oper} {v : Value} {a : Act} {w : World} {S : CellSet} (hi : ops[i]? = some o) (hy : YG P ops s o v a w S) {K : Act → World → CellSet → Prop} (h : K (a.put o.dst v) w S) : qG ro ld P ops i K a w S := by
 unfold AM.qG
 simp only [hi]
 rcases hy with ⟨hw, hv⟩ | ⟨hw, rfl⟩
 ·have hrun := hv w (Cls.refl _ _ _)
  simp only [hw, if_true]
  refine ⟨noDefer_of_value hrun, fun _ _ => trivial, ?_⟩
  rw [Oper.semAt_eq _ _ _ (noDefer_of_value hrun), hrun]
  exact ⟨S, Ext.refl _ _, fun _ => KeepL.refl _ _, h⟩
 ·simp only [hw, Bool.false_eq_true, if_false]; exact h
theorem qG_put {s : Bool} {j : Nat} {oi oj : Oper} {v : Value} (hj : ops[j]? = some oj) (hap : oi.apart ops oj = true)
  (hsi : ∀ cs b, oi.op ≠ .select cs b) (hsj : ∀ cs b, oj.op ≠ .select cs b) (hsl : s = true ∨ ld oj = false) {K : Act → World → CellSet → Prop} {a : Act} {w : World} {S : CellSet}
  (hy : YG P ops s oi v a w S) (h : qG ro ld P ops j K (a.put oi.dst v) w S) :
  qG ro ld P ops j (fun a' w' S' => YG P ops s oi v a' w' S' ∧ K (a'.put oi.dst v) w' S') a w S := by
 obtain ⟨h1, h2, h3⟩ := Oper.apart_spec hap
 have keep : ∀ (a : Act) w S, YG P ops s oi v a w S → ∀ u, YG P ops s oi v (a.put oj.dst u) w S := fun a w S hy u =>
  hy.of_same (execOp_put oi hsi a oj.dst u h3) (wanted_put oi a oj.dst u h3)
 have keepD : ∀ d, YG P ops s oi v { a with defers := d :: a.defers } w S := fun d => hy.of_same rfl rfl
 have hql : ∀ {w' : World}, (ld oj = false → KeepL (fun _ => False) w w') → s = false → KeepL (fun _ => False) w w' := fun hk hs => hk (hsl.resolve_left (by simp [hs]))
 unfold AM.qG at *
 simp only [hj] at *
 rw [wanted_put oj a oi.dst v h1] at h
 split
 ·rename_i hw
  simp only [hw, if_true] at h
  obtain ⟨hnd, hab, h⟩ := h
  refine ⟨hnd, fun _ _ => trivial, ?_⟩
  rw [Oper.semAt_eq _ _ _ hnd] at h ⊢
  rw [execOp_put oj hsj a oi.dst v h1] at h
  generalize (execOp a.eval oj).run P w = r at *
  cases r with
  | ok n w' =>
   cases n <;> simp only [Oper.uponIn] at h ⊢
   case value u =>
    obtain ⟨S', e1, e2, e3⟩ := h
    exact ⟨S', e1, e2, (keep a w S hy u).step e1 (hql e2), by rw [← Act.put_comm a v u h2]; exact e3⟩
   case skip =>
    obtain ⟨S', e1, e2, e3⟩ := h
    exact ⟨S', e1, e2, (keep a w S hy _).step e1 (hql e2), by rw [← Act.put_comm a v undef h2]; exact e3⟩
   case defer d =>
    obtain ⟨S', e1, e2, e3⟩ := h
    refine ⟨S', e1, e2, (keep _ w S (keepD d) _).step e1 (hql e2), ?_⟩
    rw [← Act.put_comm _ v undef h2, ← Act.put_defers]
    exact e3
   case enter f args =>
    refine ⟨h.1, CallsIn.mono h.2 fun e w'' he => ?_⟩
    cases e with
    | returned u =>
     obtain ⟨S', e1, e2, e3⟩ := he
     exact ⟨S', e1, e2, (keep a w S hy u).step e1 (hql e2), by rw [← Act.put_comm a v u h2]; exact e3⟩
    | panicked c => exact he.elim
    | outgrown => exact he
   case round l f tmps assign body =>
    refine ⟨h.1, RoundIn.mono h.2 fun e w'' he => ?_⟩
    cases e with
    | returned u =>
     obtain ⟨S', e1, e2, e3⟩ := he
     exact ⟨S', e1, e2, (keep a w S hy u).step e1 (hql e2), by rw [← Act.put_comm a v u h2]; exact e3⟩
    | panicked c => exact he.elim
    | outgrown => exact he
   case row row args =>
    refine ⟨h.1, RowsIn.mono h.2 fun u w'' he => ?_⟩
    obtain ⟨S', e1, e2, e3⟩ := he
    exact ⟨S', e1, e2, (keep a w S hy u).step e1 (hql e2), by rw [← Act.put_comm a v u h2]; exact e3⟩
  | halt x w' =>
   cases x <;> simp only [Oper.uponIn] at h ⊢
   case panic u => exact h.elim
 ·rename_i hw
  simp only [hw] at h
  exact ⟨keep a w S hy _, by rw [← Act.put_comm a v undef h2]; exact h⟩
theorem wpG_first {Q : Act → World → CellSet → Prop} {s : Bool} {i : Nat} {oi : Oper} {v : Value} (hi : ops[i]? = some oi) (hsel : ∀ (j : Nat) (o : Oper) cs b, ops[j]? = some o → o.op ≠ .select cs b) :
  ∀ (fuel : Nat) (listed : Array Bool) (a : Act) (w : World) (S : CellSet),
   (∀ j oj, ops[j]? = some oj → j ≠ i → listed.getD j true = false → (∀ e ∈ oj.after, Region.binds .any e = true → e.on ≠ i) → oi.apart ops oj = true ∧ (s = true ∨ ld oj = false)) →
   i ∈ Region.ready .any ops listed → YG P ops s oi v a w S →
   wpG ro ld P ops Q fuel (listed.setIfInBounds i true) (a.put oi.dst v) w S → wpG ro ld P ops Q (fuel + 1) listed a w S := by
 intro fuel
 induction fuel with
 | zero =>
  intro listed a w S _ hr hy H
  refine ⟨fun h => (by rw [h] at hr; cases hr), fun j hj => ?_⟩
  by_cases hji : j = i
  ·subst hji; exact hy.qG hi H
  ·have := ready_mono hj hji
   rw [H.1] at this
   cases this
 | succ fuel ih =>
  intro listed a w S hfree hr hy H
  refine ⟨fun h => (by rw [h] at hr; cases hr), fun j hj => ?_⟩
  by_cases hji : j = i
  ·subst hji; exact hy.qG hi H
  ·have h1 := H.2 j (ready_mono hj hji)
   obtain ⟨hjun, oj, hoj, hall⟩ := mem_ready.1 hj
   have hnot : ∀ e ∈ oj.after, Region.binds .any e = true → e.on ≠ i := fun e he hb heq => by
    have h1 := hall e he hb
    have h0 := (mem_ready.1 hr).1
    rw [heq] at h1
    rcases Nat.lt_or_ge i listed.size with h' | h'
    ·simp [h'] at h0 h1; rw [h0] at h1; cases h1
    ·simp [Array.getElem?_eq_none h'] at h1
   obtain ⟨f1, f2⟩ := hfree j oj hoj hji hjun hnot
   have h2 := qG_put hoj f1 (fun cs b => hsel i oi cs b hi) (fun cs b => hsel j oj cs b hoj) f2 hy h1
   have hfree' : ∀ k ok, ops[k]? = some ok → k ≠ i → (listed.setIfInBounds j true).getD k true = false →
     (∀ e ∈ ok.after, Region.binds .any e = true → e.on ≠ i) → oi.apart ops ok = true ∧ (s = true ∨ ld ok = false) := fun k ok hk hki hun hno => by
    refine hfree k ok hk hki ?_ hno
    by_cases hjk : j = k
    ·subst hjk; exact hjun
    ·rw [getD_set_ne true hjk] at hun; exact hun
   refine qG_mono (fun a' w' S' h3 => ih (listed.setIfInBounds j true) a' w' S' hfree' (ready_mono hr (Ne.symm hji)) h3.1 ?_) h2
   rw [Array.setIfInBounds_comm _ _ hji]
   exact h3.2
inductive SK where
 | strict | loose | eff
def SK.s : SK → Bool
 | .loose => false
 | _ => true
def quietB (ld : Oper → Bool) (ops : Array Oper) (listed : Array Bool) (i : Nat) : Bool :=
 (List.range ops.size).all fun j => j == i || listed.getD j true || match ops[j]? with
  | some oj => oj.after.any (fun e => Region.binds .any e && e.on == i) || !ld oj
  | none => true
theorem quiet_spec {i : Nat} {listed : Array Bool} (h : quietB ld ops listed i = true) (j : Nat) (oj : Oper)
  (hj : ops[j]? = some oj) (hne : j ≠ i) (hun : listed.getD j true = false) (hno : ∀ e ∈ oj.after, Region.binds .any e = true → e.on ≠ i) : ld oj = false := by
 simp only [quietB, List.all_eq_true, List.mem_range] at h
 have h1 := h j (Array.getElem?_eq_some_iff.1 hj).1
 simp only [hj, Bool.or_eq_true, beq_iff_eq, hne, false_or, hun, Bool.false_eq_true] at h1
 rcases h1 with h1 | h1
 ·obtain ⟨e, he, hb⟩ := Array.any_eq_true'.1 h1
  simp only [Bool.and_eq_true, beq_iff_eq] at hb
  exact absurd hb.2 (hno e he hb.1)
 ·simpa using h1
def schB (ld : Oper → Bool) (ops : Array Oper) : List (Nat × SK) → Array Bool → Bool
 | [], listed => (Region.ready .any ops listed).isEmpty
 | (i, k) :: r, listed => (match k with
  | .strict => (Region.ready .any ops listed).contains i && Region.free .any ops listed i
  | .loose => (Region.ready .any ops listed).contains i && Region.free .any ops listed i && quietB ld ops listed i
  | .eff => Region.ready .any ops listed == [i]) && schB ld ops r (listed.setIfInBounds i true)
def wpSch (ro : Option Nat) (ld : Oper → Bool) (P : Program) (ops : Array Oper) (Q : Act → World → CellSet → Prop) : List (Nat × SK) → Act → World → CellSet → Prop
 | [], a, w, S => Q a w S
 | (i, k) :: r, a, w, S => match k with
  | .eff => qG ro ld P ops i (wpSch ro ld P ops Q r) a w S
  | k => ∃ o v, ops[i]? = some o ∧ YG P ops k.s o v a w S ∧ wpSch ro ld P ops Q r (a.put o.dst v) w S
theorem wpG_of_sch {Q : Act → World → CellSet → Prop} (hs : Region.noSelect ops = true) : ∀ (sch : List (Nat × SK)) (listed : Array Bool) (a : Act) (w : World) (S : CellSet),
  schB ld ops sch listed = true → wpSch ro ld P ops Q sch a w S → wpG ro ld P ops Q sch.length listed a w S
 | [], listed, a, w, S, hB, h => ⟨by simpa [schB] using hB, h⟩
 | (i, k) :: r, listed, a, w, S, hB, h => by
  unfold schB at hB
  simp only [Bool.and_eq_true] at hB
  obtain ⟨hk, hB⟩ := hB
  cases k with
  | strict =>
   simp only [Bool.and_eq_true] at hk
   obtain ⟨o, v, ho, hy, h'⟩ := h
   exact wpG_first ho (Region.noSelect_spec hs) r.length listed a w S (fun j oj hj hne hun hno => ⟨Region.free_spec ho hk.2 j oj hj hne hun hno, .inl rfl⟩) (by simpa using hk.1) hy (wpG_of_sch hs r _ _ _ _ hB h')
  | loose =>
   simp only [Bool.and_eq_true] at hk
   obtain ⟨o, v, ho, hy, h'⟩ := h
   exact wpG_first ho (Region.noSelect_spec hs) r.length listed a w S (fun j oj hj hne hun hno => ⟨Region.free_spec ho hk.1.2 j oj hj hne hun hno, .inr (quiet_spec hk.2 j oj hj hne hun hno)⟩) (by simpa using hk.1.1) hy (wpG_of_sch hs r _ _ _ _ hB h')
  | eff =>
   have hk : Region.ready .any ops listed = [i] := by simpa using hk
   refine ⟨fun e => (by rw [hk] at e; cases e), fun j hj => ?_⟩
   rw [hk] at hj
   simp at hj
   subst hj
   exact qG_mono (fun a w S h => wpG_of_sch hs r _ a w S hB h) h
theorem wp_region_sch {id : Nat} {a : Act} {w : World} {S : CellSet} {Q : Act → World → CellSet → Prop} {Q' : Exit → Act → World → Prop} {sch : List (Nat × SK)} (hm : P.follows .mixedOrders = true) (hs : Region.noSelect ops = true)
  (hl : sch.length = ops.size) (hB : schB ld ops sch (Array.replicate ops.size false) = true) (hQ : ∀ a w S, Q a w S → Q' .normal a w)
  (h : wpSch ro ld P ops Q sch a { w with drawn := w.drawn + 1 } S) : (Code.region id ops true).wpIn (FW ro) 0 P Q' a w :=
 wpIn_region_any hm (wpAny_of_G hQ _ _ _ _ _ (by rw [← hl]; exact wpG_of_sch hs sch _ _ _ _ (by rw [hl]; exact hB) h))
inductive SchT where
 | nil
 | op (i : Nat) (k : SK) (r : SchT)
 | alt (a b : SchT)
 deriving Inhabited
def SchT.heads : SchT → List Nat
 | .nil => []
 | .op i _ _ => [i]
 | .alt a b => a.heads ++ b.heads
def SchT.depth : SchT → Nat
 | .nil => 0
 | .op _ _ r => r.depth + 1
 | .alt a b => max a.depth b.depth
def schT (ld : Oper → Bool) (ops : Array Oper) : SchT → Bool → Array Bool → Bool
 | .nil, al, listed => !al && (Region.ready .any ops listed).isEmpty
 | .op i k r, al, listed => (match k with
  | .strict => !al && (Region.ready .any ops listed).contains i && Region.free .any ops listed i
  | .loose => !al && (Region.ready .any ops listed).contains i && Region.free .any ops listed i && quietB ld ops listed i
  | .eff => al || Region.ready .any ops listed == [i]) && schT ld ops r false (listed.setIfInBounds i true)
 | .alt a b, al, listed => (al || (!(Region.ready .any ops listed).isEmpty && (Region.ready .any ops listed).all fun i => (SchT.alt a b).heads.contains i)) && schT ld ops a true listed && schT ld ops b true listed
def wpTree (ro : Option Nat) (ld : Oper → Bool) (P : Program) (ops : Array Oper) (Q : Act → World → CellSet → Prop) : SchT → Act → World → CellSet → Prop
 | .nil, a, w, S => Q a w S
 | .op i k r, a, w, S => match k with
  | .eff => qG ro ld P ops i (wpTree ro ld P ops Q r) a w S
  | k => ∃ o v, ops[i]? = some o ∧ YG P ops k.s o v a w S ∧ wpTree ro ld P ops Q r (a.put o.dst v) w S
 | .alt t u, a, w, S => wpTree ro ld P ops Q t a w S ∧ wpTree ro ld P ops Q u a w S
theorem wpG_of_tree {Q : Act → World → CellSet → Prop} (hs : Region.noSelect ops = true) : ∀ (f : Nat),
  (∀ (t : SchT) (listed : Array Bool) (a : Act) (w : World) (S : CellSet), t.depth ≤ f → schT ld ops t false listed = true → wpTree ro ld P ops Q t a w S → wpG ro ld P ops Q f listed a w S) ∧
  (∀ (t : SchT) (listed : Array Bool) (a : Act) (w : World) (S : CellSet), t.depth ≤ f + 1 → schT ld ops t true listed = true → wpTree ro ld P ops Q t a w S → ∀ i, i ∈ t.heads → qG ro ld P ops i (wpG ro ld P ops Q f (listed.setIfInBounds i true)) a w S) := by
 intro f
 induction f with
 | zero =>
  have h1 : ∀ (t : SchT) (listed : Array Bool) (a : Act) (w : World) (S : CellSet), t.depth ≤ 0 → schT ld ops t false listed = true → wpTree ro ld P ops Q t a w S → wpG ro ld P ops Q 0 listed a w S := by
   intro t
   induction t with
   | nil => intro listed a w S _ hB h; simp [schT] at hB; exact ⟨by simpa using hB, h⟩
   | op i k r _ => intro listed a w S hd; simp [SchT.depth] at hd
   | alt t u h1 h2 =>
    intro listed a w S hd hB h
    simp only [schT, Bool.and_eq_true, Bool.false_or] at hB
    cases hr : Region.ready .any ops listed with
    | nil =>
     exfalso
     have : ∀ t : SchT, t.depth ≤ 0 → schT ld ops t true listed = true → False := by
      intro t
      induction t with
      | nil => intro _ h; simp [schT] at h
      | op i k r _ => intro hd; simp [SchT.depth] at hd
      | alt t u i1 i2 => intro hd hb; simp only [SchT.depth] at hd; simp only [schT, Bool.and_eq_true] at hb; exact i1 (by omega) hb.1.2
     simp only [SchT.depth] at hd
     exact this t (by omega) hB.1.2
    | cons x l =>
     exfalso
     have : ∀ t : SchT, t.depth ≤ 0 → schT ld ops t true listed = true → False := by
      intro t
      induction t with
      | nil => intro _ h; simp [schT] at h
      | op i k r _ => intro hd; simp [SchT.depth] at hd
      | alt t u i1 i2 => intro hd hb; simp only [SchT.depth] at hd; simp only [schT, Bool.and_eq_true] at hb; exact i1 (by omega) hb.1.2
     simp only [SchT.depth] at hd
     exact this t (by omega) hB.1.2
  refine ⟨h1, ?_⟩
  intro t
  induction t with
  | nil => intro listed a w S _ hB; simp [schT] at hB
  | op i k r _ =>
   intro listed a w S hd hB h j hj
   simp only [SchT.heads, List.mem_singleton] at hj
   subst hj
   simp only [schT, Bool.and_eq_true] at hB
   cases k with
   | eff => exact qG_mono (fun a w S h => h1 r _ a w S (by simp [SchT.depth] at hd; omega) hB.2 h) h
   | strict => simp at hB
   | loose => simp at hB
  | alt t u i1 i2 =>
   intro listed a w S hd hB h j hj
   simp only [SchT.depth] at hd
   simp only [schT, Bool.and_eq_true] at hB
   rcases List.mem_append.1 hj with hj | hj
   ·exact i1 listed a w S (by omega) hB.1.2 h.1 j hj
   ·exact i2 listed a w S (by omega) hB.2 h.2 j hj
 | succ f ih =>
  have h1 : ∀ (t : SchT) (listed : Array Bool) (a : Act) (w : World) (S : CellSet), t.depth ≤ f + 1 → schT ld ops t false listed = true → wpTree ro ld P ops Q t a w S → wpG ro ld P ops Q (f + 1) listed a w S := by
   intro t listed a w S hd hB h
   cases t with
   | nil =>
    simp [schT] at hB
    exact ⟨fun _ => h, fun i hi => by rw [hB] at hi; cases hi⟩
   | op i k r =>
    simp only [SchT.depth] at hd
    simp only [schT, Bool.and_eq_true] at hB
    obtain ⟨hk, hB⟩ := hB
    cases k with
    | strict =>
     simp only [Bool.not_false, Bool.true_and, Bool.and_eq_true] at hk
     obtain ⟨o, v, ho, hy, h'⟩ := h
     exact wpG_first ho (Region.noSelect_spec hs) f listed a w S (fun j oj hj hne hun hno => ⟨Region.free_spec ho hk.2 j oj hj hne hun hno, .inl rfl⟩) (by simpa using hk.1) hy (ih.1 r _ _ _ _ (by omega) hB h')
    | loose =>
     simp only [Bool.not_false, Bool.true_and, Bool.and_eq_true] at hk
     obtain ⟨o, v, ho, hy, h'⟩ := h
     exact wpG_first ho (Region.noSelect_spec hs) f listed a w S (fun j oj hj hne hun hno => ⟨Region.free_spec ho hk.1.2 j oj hj hne hun hno, .inr (quiet_spec hk.2 j oj hj hne hun hno)⟩) (by simpa using hk.1.1) hy (ih.1 r _ _ _ _ (by omega) hB h')
    | eff =>
     have hk : Region.ready .any ops listed = [i] := by simpa using hk
     refine ⟨fun e => (by rw [hk] at e; cases e), fun j hj => ?_⟩
     rw [hk, List.mem_singleton] at hj
     subst hj
     exact qG_mono (fun a w S h => ih.1 r _ a w S (by omega) hB h) h
   | alt t u =>
    simp only [schT, Bool.and_eq_true, Bool.false_or] at hB
    refine ⟨fun e => ?_, fun j hj => ?_⟩
    ·have := hB.1.1.1
     rw [e] at this
     simp at this
    ·have hm := List.all_eq_true.1 hB.1.1.2 j hj
     have hB2 : schT ld ops (.alt t u) true listed = true := by
      simp only [schT, Bool.and_eq_true, Bool.true_or]
      exact ⟨⟨trivial, hB.1.2⟩, hB.2⟩
     exact ih.2 (.alt t u) listed a w S hd hB2 h j (by simpa using hm)
  refine ⟨h1, ?_⟩
  intro t
  induction t with
  | nil => intro listed a w S _ hB; simp [schT] at hB
  | op i k r _ =>
   intro listed a w S hd hB h j hj
   simp only [SchT.heads, List.mem_singleton] at hj
   subst hj
   simp only [schT, Bool.and_eq_true] at hB
   cases k with
   | eff => exact qG_mono (fun a w S h => h1 r _ a w S (by simp [SchT.depth] at hd; omega) hB.2 h) h
   | strict => simp at hB
   | loose => simp at hB
  | alt t u i1 i2 =>
   intro listed a w S hd hB h j hj
   simp only [SchT.depth] at hd
   simp only [schT, Bool.and_eq_true] at hB
   rcases List.mem_append.1 hj with hj | hj
   ·exact i1 listed a w S (by omega) hB.1.2 h.1 j hj
   ·exact i2 listed a w S (by omega) hB.2 h.2 j hj
theorem wp_region_tree {id : Nat} {a : Act} {w : World} {S : CellSet} {Q : Act → World → CellSet → Prop} {Q' : Exit → Act → World → Prop} {t : SchT} (hm : P.follows .mixedOrders = true) (hs : Region.noSelect ops = true)
  (hl : t.depth ≤ ops.size) (hB : schT ld ops t false (Array.replicate ops.size false) = true) (hQ : ∀ a w S, Q a w S → Q' .normal a w)
  (h : wpTree ro ld P ops Q t a { w with drawn := w.drawn + 1 } S) : (Code.region id ops true).wpIn (FW ro) 0 P Q' a w :=
 wpIn_region_any hm (wpAny_of_G hQ _ _ _ _ _ ((wpG_of_tree hs ops.size).1 t _ _ _ _ hl hB h))
theorem wpOps_of_sch {Q : Act → World → CellSet → Prop} {Q' : Exit → Act → World → Prop} (hQ : ∀ a w S, Q a w S → Q' .normal a w) : ∀ (sch : List (Nat × SK)) (a : Act) (w : World) (S : CellSet),
  wpSch ro ld P ops Q sch a w S → wpOpsIn (FW ro) 0 P ops Q' (sch.map (·.1)) a w
 | [], a, w, S, h => hQ _ _ _ h
 | (i, k) :: r, a, w, S, h => by
  rw [List.map_cons, wpOpsIn_cons]
  have : qG ro ld P ops i (wpSch ro ld P ops Q r) a w S := by
   cases k with
   | eff => exact h
   | strict => obtain ⟨o, v, ho, hy, h'⟩ := h; exact hy.qG ho h'
   | loose => obtain ⟨o, v, ho, hy, h'⟩ := h; exact hy.qG ho h'
  exact wpOp_of_qG (fun a w S h => wpOps_of_sch hQ r a w S h) this
end
end Go.AM
end

section
namespace Go.AM
open Go
theorem mfind_spec {α : Type} {n : Int} : ∀ {m : List (List Int × α)} {i0 i : Nat} {b : α}, mfind n m i0 = some (i, b) → ∃ j, i = i0 + j ∧ ∃ h : j < m.length, n = (m[j]).1.getD 0 0
 | [], _, _, _, h => by cases h
 | (l, c) :: r, i0, i, b, h => by
  unfold mfind at h
  split at h
  ·rename_i hd
   cases h
   exact ⟨0, rfl, by simp, of_decide_eq_true hd⟩
  ·obtain ⟨j, h1, h2, h3⟩ := mfind_spec h
   exact ⟨j + 1, by omega, by simpa using h2, by simpa using h3⟩
def makeMapR (T : Tys) (st : St) (d : Option Tmp) (t : TypeId) (K : St → Prop) : Prop :=
 match T t with
 | some { k := .map kt et, .. } => match T kt, T et with
  | some { k := .int k, .. }, some { zero := .bool false, .. } => K (({ st with objs := st.objs ++ [.mapB (.int k) []] } : St).put d (.mapr st.objs.length))
  | _, _ => False
 | _ => False
theorem makeMap_ok {P : Program} {T : Tys} {o : Oper} {st : St} {t : TypeId} (ho : o.op = .makeMap t none) {K : St → Prop} (h : makeMapR T st o.dst t K) : EffOk P true o st K := by
 intro cx β tmps w ds Q hfr
 unfold makeMapR at h
 split at h
 ·split at h
  ·rename_i b1 b2 k b3 c1 c2 c3 e1 e2
   have hk := keepL_alloc w (.map #[] 0)
   have hn := hfr.newObj (.mapB (.int k) []) (some w.heap.size) hk (by simp) (fun b e => by cases e; exact ⟨Nat.le_refl _, by rw [size_alloc]; exact Nat.lt_succ_self _⟩)
    ⟨fun j => updB_succ, w.heap.size, #[], 0, updB_same, heap_new w _, rfl, fun j hj => by simp at hj⟩
   refine wp_of_run (v := .map (some w.heap.size)) (w' := w.alloc (.map #[] 0)) ?_ ⟨_, _, h, hn.put (.mapr updB_same) _ ds, put_defers _ _ _, hk.keeps fun _ _ _ => id, fun _ => hk⟩
   unfold execOp
   rw [ho]
   rfl
  ·exact h.elim
 ·exact h.elim
def boolA : AV → Option Bool
 | .bool b => some b
 | .lit (.bool b) => some b
 | _ => none
def updR (T : Tys) (st : St) (d : Option Tmp) (t : TypeId) (m key val : Operand) (K : St → Prop) : Prop :=
 match st.ev m, st.ev key, T t with
 | .mapr i, .int k n, some { k := .map kt _, .. } => match st.objs[i]?, T kt with
  | some (.mapB (.int k1) mm), some { k := .int k2, .. } => match decide (k = k1), decide (k = k2), boolA (st.ev val) with
   | true, true, some b => K (({ st with objs := st.objs.set i (.mapB (.int k) (mput n b mm)) } : St).put d .junk)
   | _, _, _ => False
  | _, _ => False
 | _, _, _ => False
def updObj (es : Array MapEntry) (cl : Nat) (k : IntKind) (n : Int) (v : Value) : Option (Nat × Value) → Obj
 | some (i, _) => .map (es.modify i fun e => { e with key := .int k n, val := v }) cl
 | none => .map (es.push { key := .int k n, val := v, born := cl }) (cl + 1)
theorem run_mapUpdate_int {P : Program} {w : World} {t kt et : TypeId} {k : IntKind} {n : Int} {v : Value} {b : Nat} {es : Array MapEntry} {cl : Nat} {r : Option (Nat × Value)} (hm : ∀ w, (underlying t).run P w = .ok (.map kt et) w) (hk : P.underlying kt = some (.int k))
  (hb : w.heap[b]? = some (.map es cl)) (hf : Instr.findNow (.int k) (.int k n) es.toList 0 = some r) (hkey : ∀ i u, r = some (i, u) → ∃ h : i < es.size, es[i].key = .int k n) :
  (Instr.mapUpdate t (.map (some b)) (.int k n) v).run P w = .ok () { w with heap := w.heap.setIfInBounds b (updObj es cl k n v r) } := by
 have hc : (Instr.checkKey false 10000 kt (.int k n)).run P w = .ok () w := MapKept.run_checkKey hk (by simp [MapKept.IsKey]) false 9999
 unfold Instr.mapUpdate
 rw [Sem.run_bind, hm]
 simp only [Result.andThen, Sem.run_bind, MapKept.run_getObj_map hb, hc, MapKept.run_findKey hk hf]
 cases r with
 | none => simp [MapKept.run_setObj_map _ hb, updObj]
 | some p =>
  obtain ⟨i, u⟩ := p
  obtain ⟨hi, hk2⟩ := hkey i u rfl
  have hkk : (Instr.keyThatStays (.int k n) (.int k n)).run P w = .ok (.int k n) w := MapKept.run_keyThatStays (d := .int k) (by simp [MapKept.IsKey])
  have e1 : ((es[i]?).map (·.key)).getD (.int k n) = .int k n := by simp [hi, hk2]
  simp only [Sem.run_bind, e1, hkk, Result.andThen, MapKept.run_setObj_map _ hb, updObj]
theorem upd_ok {P : Program} {T : Tys} (hT : TyOk P T) {o : Oper} {st : St} {t : TypeId} {m key val : Operand} (ho : o.op = .mapUpdate t m key val ∨ o.op = .insert t m key val) {K : St → Prop} (h : updR T st o.dst t m key val K) : EffOk P false o st K := by
 intro cx β tmps w ds Q hfr
 unfold updR at h
 split at h
 ·rename_i i k n a1 a2 kt et a3 hem hek ht
  split at h
  ·rename_i k1 mm b1 b2 k2 b3 hoi hkt
   split at h
   ·rename_i bb e1 e2 hval
    have e1 := of_decide_eq_true e1
    have e2 := of_decide_eq_true e2
    subst e1 e2
    have hmv := hfr.ev ds m
    have hkv := hfr.ev ds key
    have hvv := hfr.ev ds val
    rw [hem] at hmv
    rw [hek] at hkv
    obtain ⟨h0, b, es, cl, hb, h1, h2, h3⟩ := hfr.objs i _ hoi
    have hvx : ({ tmps, defers := ds } : Act).eval m = .map (some b) := by
     generalize ({ tmps, defers := ds } : Act).eval m = u at hmv
     cases hmv with
     | pure h => cases h
     | mapr h => rw [hb] at h; cases h; rfl
    have hvi : ({ tmps, defers := ds } : Act).eval key = .int k n := by
     generalize ({ tmps, defers := ds } : Act).eval key = u at hkv
     cases hkv with | pure h => cases h; rfl
    have hvb : ({ tmps, defers := ds } : Act).eval val = .bool bb := by
     generalize ({ tmps, defers := ds } : Act).eval val = u at hvv
     revert hval hvv
     generalize st.ev val = av
     intro hval hvv
     unfold boolA at hval
     split at hval
     ·cases hval; cases hvv with | pure h => cases h; rfl
     ·cases hval; exact TV_lit hvv
     ·cases hval
    obtain ⟨d, hd1, hd2⟩ := hT.underlying ht
    cases d <;> simp only [TKok] at hd1
    obtain ⟨hd3, hd4⟩ := hd1
    rw [hd3, hd4] at hd2
    have hkt' : P.underlying kt = some (.int k) := by
     obtain ⟨d, hd, hk'⟩ := (hT _ _ hkt).und
     cases d <;> simp only [TKok] at hk'
     subst hk'
     exact hd
    have hkeys : ∀ j (hj : j < mm.length) (hj' : j < es.toList.length), es.toList[j].key = encKey (.int k) (mm[j]).1 ∧ es.toList[j].val = Value.bool (mm[j]).2 := fun j hj hj' => by
     have hj2 : j < es.size := by simpa using hj'
     have := h3 j hj
     rw [getElem!_pos es j hj2] at this
     simpa using this
    have hfn := findNow_int (k := k) (n := n) Value.bool es.toList mm 0 (by simpa using h2) hkeys
    have hrun := run_mapUpdate_int (P := P) (w := w) (v := .bool bb) hd2 hkt' h1 hfn (fun j u hr => by
     cases hf : mfind n mm 0 with
     | none => rw [hf] at hr; cases hr
     | some p =>
      obtain ⟨i', b'⟩ := p
      rw [hf] at hr
      cases hr
      obtain ⟨j', e1, e2, e3⟩ := mfind_spec hf
      have : i' = j' := by omega
      subst this
      refine ⟨by omega, ?_⟩
      have := (hkeys i' e2 (by simp; omega)).1
      simp only [encKey, ← e3] at this
      simpa using this)
    have hbl : b < w.heap.size := (Array.getElem?_eq_some_iff.1 h1).1
    have hexec : execOp ({ tmps, defers := ds } : Act).eval o = (do Instr.mapUpdate t (({ tmps, defers := ds } : Act).eval m) (({ tmps, defers := ds } : Act).eval key) (({ tmps, defers := ds } : Act).eval val); pure .skip) := by
     rcases ho with ho | ho <;> (unfold execOp; rw [ho])
    refine wp_of_skip (w' := { w with heap := w.heap.setIfInBounds b (updObj es cl k n (.bool bb) ((mfind n mm 0).map fun p => (p.1, Value.bool p.2))) }) (by rw [hexec, Sem.run_bind, hvx, hvi, hvb, hrun]; rfl) ⟨β, _, h, FR.put ?_ (.pure (.junk _)) _ ds, put_defers _ _ _, ?_, fun e => by cases e⟩
    ·refine hfr.mut (.mapB (.int k) (mput n bb mm)) hoi hb (by simp) (by simp) (fun q hq => by simp [Ne.symm hq]) (by simp) rfl rfl rfl (Nat.le_refl _) (fun r x hx => ?_) (fun p nz e => by cases e) ?_
     ·have : r ≠ b := fun e => by subst e; simp [World.shape?, h1] at hx
      refine (shape?_of_heap (w := w) ?_).trans hx
      simp [Ne.symm this]
     ·unfold mput
      cases hf : mfind n mm 0 with
      | none =>
       refine ⟨h0, b, es.push { key := .int k n, val := .bool bb, born := cl }, cl + 1, hb, by simp [hbl, hf, updObj], by simp [h2], fun j hj => ?_⟩
       simp only [List.length_append, List.length_singleton] at hj
       by_cases hlt : j < mm.length
       ·have hj2 : j < es.size := by omega
        have := h3 j hlt
        rw [getElem!_pos es j hj2] at this
        rw [getElem!_pos _ j (by simp; omega), Array.getElem_push_lt hj2]
        simp only [List.getElem_append_left hlt]
        exact this
       ·have hj2 : j = es.size := by omega
        subst hj2
        rw [getElem!_pos _ _ (by simp)]
        simp only [Array.getElem_push_eq]
        rw [List.getElem_append_right (by omega)]
        simp [encKey]
      | some p =>
       obtain ⟨i', b'⟩ := p
       obtain ⟨j', q1, q2, q3⟩ := mfind_spec hf
       have hij : i' = j' := by omega
       subst hij
       refine ⟨h0, b, es.modify i' fun e => { e with key := .int k n, val := .bool bb }, cl, hb, by simp [hbl, hf, updObj], by simp [h2], fun j hj => ?_⟩
       simp only [List.length_modify] at hj
       have hj2 : j < es.size := by omega
       have := h3 j hj
       rw [getElem!_pos es j hj2] at this
       rw [getElem!_pos _ j (by simpa using hj2)]
       by_cases hji : i' = j
       ·subst hji
        simp only [Array.getElem_modify, List.getElem_modify, if_true, encKey, ← q3, and_self]
       ·simp [Array.getElem_modify, List.getElem_modify, hji, this]
    ·intro b' o' v hn hc
     have : b' ≠ b := fun e => by subst e; simp [World.cell?, h1] at hc
     refine (cell?_of_heap (w := w) ?_).trans hc
     simp [Ne.symm this]
   ·exact h.elim
  ·exact h.elim
 ·exact h.elim
end Go.AM
end
