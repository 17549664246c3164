/-
  Groundwork of the abstract machine: each pure operation of the model, on abstract values, without a condition beyond those in the lemmas.
-/
import Derived.Calls
import Derived.Tactics
import Derived.RowKit3
import Derived.Below
import Derived.Laws.Cells
import Derived.Laws.Entries
import Derived.Laws.BytesString
import Derived.MapKept
import Derived.ChangeKeysEq
import Derived.WideKeyRuns
import Derived.DeepKeys3
set_option linter.unusedVariables false
set_option linter.unusedSimpArgs false
set_option linter.unusedSectionVars false
set_option linter.unnecessarySimpa false

section
namespace Go.AM
open Go
inductive MH where
 | own
 | ref
 | agg
 | cell (j : Nat)
 | row (j : Nat)
 /-- the rest of an array, from a place on -/
 | sub (k : Nat)
 /-- of a trie: a node, or nil; its mark; its children; a child; the children by value -/
 | tn (o : Option Nat)
 | tw (b : Nat)
 | tx (b : Nat)
 | ts (b x : Nat)
 | tk (l : List (Option Nat))
structure TN where
 path : List Int
 blk : Nat
 word : Bool
mutual
inductive AV where
 | junk
 | int (k : IntKind) (n : Int)
 | bool (b : Bool)
 | str (s : ByteArray)
 | lit (v : Value)
 | pay (p : Pay) (nz : Bool)
 | own (i : Nat)
 | ref (i off : Nat)
 | eref (i : Nat) (j : Nat) (c : Nat)
 | fref (cells : List AV)
 | agg (cells : List AV)
 | aggp (p : Pay)
 | tup (vs : List AV)
 | clo (f : FuncId) (captured : List AV)
 | mapr (i : Nat)
 | full (p : Pay)
 | mh (i : Nat) (x : MH)
 | hbox (x : AV)
inductive Pay where
 | ints (k : IntKind) (l : List Int)
 | bools (l : List Bool)
 | strs (l : List ByteArray)
 | rows (l : List (List Int))
 | gen (sz : Nat) (l : List (List AV))
end
instance : Inhabited AV := ⟨.junk⟩
instance : Inhabited Pay := ⟨.bools []⟩
def Pay.len : Pay → Nat
 | .ints _ l => l.length
 | .bools l => l.length
 | .strs l => l.length
 | .rows l => l.length
 | .gen _ l => l.length
def Pay.sz : Pay → Nat
 | .gen sz _ => sz
 | _ => 1
def Pay.at (p : Pay) (j : Nat) : List AV :=
 match p with
 | .ints k l => [.int k (l.getD j 0)]
 | .bools l => [.bool (l.getD j false)]
 | .strs l => [.str (l.getD j ByteArray.empty)]
 | .rows l => [.pay (.ints .i64 (l.getD j [])) false]
 | .gen _ l => l.getD j []
def Pay.wf (p : Pay) : Prop := ∀ j, j < p.len → (p.at j).length = p.sz
theorem Pay.wf_ints (k l) : (Pay.ints k l).wf := fun _ _ => rfl
theorem Pay.wf_bools (l) : (Pay.bools l).wf := fun _ _ => rfl
theorem Pay.wf_strs (l) : (Pay.strs l).wf := fun _ _ => rfl
theorem Pay.wf_rows (l) : (Pay.rows l).wf := fun _ _ => rfl
abbrev CellSet := Nat → Nat → Prop
inductive PV (w : World) (S : CellSet) : AV → Value → Prop
 | junk (v) : PV w S .junk v
 | int (k n) : PV w S (.int k n) (.int k n)
 | bool (b) : PV w S (.bool b) (.bool b)
 | str (s) : PV w S (.str s) (.string s)
 | lit (v) : PV w S (.lit v) v
 | pay {p : Pay} {nz : Bool} {a : Option Addr} {len cap : Nat} (ad : Addr) (vs : Nat → Nat → Value)
   (hlen : p.len = len) (hcap : len ≤ cap) (hwf : p.wf) (hnz : nz = true → len = 0 → a = none) (had : len ≠ 0 → a = some ad) (hsp : ad.spot = none)
   (hc : ∀ j c, j < len → c < p.sz → w.cell? ⟨ad.block, ad.off + (j * p.sz + c), none⟩ = some (vs j c))
   (hS : ∀ j c, j < len → c < p.sz → ¬ S ad.block (ad.off + (j * p.sz + c)))
   (hr : ∀ j c (h : c < (p.at j).length), j < len → PV w S ((p.at j)[c]) (vs j c)) : PV w S (.pay p nz) (.slice a len cap)
 | full {p : Pay} {a : Option Addr} {len : Nat} (h : PV w S (.pay p false) (.slice a len len)) : PV w S (.full p) (.slice a len len)
 | fref {cells : List AV} {ad : Addr} (vs : Nat → Value) (hsp : ad.spot = none)
   (hc : ∀ c, c < cells.length → w.cell? ⟨ad.block, ad.off + c, none⟩ = some (vs c)) (hS : ∀ c, c < cells.length → ¬ S ad.block (ad.off + c))
   (hr : ∀ c (h : c < cells.length), PV w S (cells[c]) (vs c)) : PV w S (.fref cells) (.pointer (some ad))
 | hbox {x : AV} {ad : Addr} {v : Value} (hsp : ad.spot = none) (hc : w.cell? ⟨ad.block, ad.off, none⟩ = some v) (hS : ¬ S ad.block ad.off) (hr : PV w S x v) : PV w S (.hbox x) (.pointer (some ad))
 | agg {cells : List AV} {vs : Array Value} (hl : cells.length = vs.size) (hr : ∀ c (h : c < cells.length), PV w S (cells[c]) (vs[c]!)) : PV w S (.agg cells) (.agg vs)
 | aggp {p : Pay} {vs : Array Value} (hwf : p.wf) (hl : p.len * p.sz = vs.size)
   (hr : ∀ j c (h : c < (p.at j).length), j < p.len → PV w S ((p.at j)[c]) (vs[j * p.sz + c]!)) : PV w S (.aggp p) (.agg vs)
 | tup {cells : List AV} {vs : Array Value} (hl : cells.length = vs.size) (hr : ∀ c (h : c < cells.length), PV w S (cells[c]) (vs[c]!)) : PV w S (.tup cells) (.tuple vs)
 | clo {f : FuncId} {cells : List AV} {vs : Array Value} (hl : cells.length = vs.size) (hr : ∀ c (h : c < cells.length), PV w S (cells[c]) (vs[c]!)) : PV w S (.clo f cells) (.func (.func f) #[] vs)
def Keeps (S : CellSet) (w w' : World) : Prop := ∀ (b o : Nat) (v : Value), ¬ S b o → w.cell? ⟨b, o, none⟩ = some v → w'.cell? ⟨b, o, none⟩ = some v
theorem Keeps.refl (S w) : Keeps S w w := fun _ _ _ _ h => h
theorem Keeps.trans {S w1 w2 w3} (h : Keeps S w1 w2) (k : Keeps S w2 w3) : Keeps S w1 w3 := fun b o v hs hc => k b o v hs (h b o v hs hc)
theorem PV.keeps {w w' : World} {S S' : CellSet} {av : AV} {v : Value} (h : PV w S av v) (hk : Keeps S w w')
  (hs : ∀ b o v, w.cell? ⟨b, o, none⟩ = some v → ¬ S b o → ¬ S' b o) : PV w' S' av v := by
 induction h with
 | junk v => exact .junk v
 | int k n => exact .int k n
 | bool b => exact .bool b
 | str s => exact .str s
 | lit v => exact .lit v
 | pay ad vs hlen hcap hwf hnz had hsp hc hS hr ih =>
  exact .pay ad vs hlen hcap hwf hnz had hsp (fun j c hj h => hk _ _ _ (hS j c hj h) (hc j c hj h)) (fun j c hj h => hs _ _ _ (hc j c hj h) (hS j c hj h)) ih
 | full h ih => exact .full ih
 | fref vs hsp hc hS hr ih => exact .fref vs hsp (fun c h => hk _ _ _ (hS c h) (hc c h)) (fun c h => hs _ _ _ (hc c h) (hS c h)) ih
 | hbox hsp hc hS hr ih => exact .hbox hsp (hk _ _ _ hS hc) (hs _ _ _ hc hS) ih
 | agg hl hr ih => exact .agg hl ih
 | aggp hwf hl hr ih => exact .aggp hwf hl ih
 | tup hl hr ih => exact .tup hl ih
 | clo hl hr ih => exact .clo hl ih
end Go.AM
end

section
namespace Go.AM
open Go
inductive KeyKind where
 | arr | int (k : IntKind) | str
 deriving DecidableEq, Inhabited
structure AI where
 e : TypeId
 nz : Bool
 deriving Inhabited
inductive AObj where
 | dead
 | arr (p : Pay) (nz : AI)
 | box (cells : List AV)
 | mapB (kk : KeyKind) (m : List (List Int × Bool))
 | mapI (kk : KeyKind) (m : List (List Int × Int))
 | nest (rows : List (List Int)) (hole : Option Nat) (gone : Nat) (ai : AI) (e2 : TypeId) (am : Bool)
 | trie (m : Nat) (T : List TN)
 deriving Inhabited
structure St where
 n : Nat
 env : List (Nat × AV)
 objs : List AObj
 deriving Inhabited
def getE (t : Nat) : List (Nat × AV) → AV
 | [] => .junk
 | (u, x) :: r => match Nat.beq u t with
  | true => x
  | false => getE t r
def putE (t : Nat) (v : AV) : List (Nat × AV) → List (Nat × AV)
 | [] => [(t, v)]
 | (u, x) :: r => match Nat.beq u t with
  | true => (u, v) :: r
  | false => (u, x) :: putE t v r
theorem getE_putE_same (t : Nat) (v : AV) (e) : getE t (putE t v e) = v := by
 induction e with
 | nil => simp [putE, getE]
 | cons a r ih =>
  obtain ⟨u, x⟩ := a
  unfold putE
  cases h : Nat.beq u t <;> simp [getE, h, ih]
theorem getE_putE_ne {t u : Nat} (v : AV) (e) (h : u ≠ t) : getE u (putE t v e) = getE u e := by
 induction e with
 | nil =>
  have : Nat.beq t u = false := by cases h2 : Nat.beq t u; rfl; exact absurd (Nat.eq_of_beq_eq_true h2).symm h
  simp only [putE, getE, this]
 | cons a r ih =>
  obtain ⟨y, x⟩ := a
  unfold putE
  cases h1 : Nat.beq y t with
  | true =>
   simp only []
   have e1 : y = t := Nat.eq_of_beq_eq_true h1
   have : Nat.beq y u = false := by cases h2 : Nat.beq y u; rfl; exact absurd (Nat.eq_of_beq_eq_true h2).symm (e1 ▸ h)
   simp [getE, this]
  | false => simp only []; unfold getE; cases h2 : Nat.beq y u <;> simp [ih]
def St.put (st : St) (d : Option Tmp) (v : AV) : St :=
 match d with
 | none => st
 | some t => { st with env := if t < st.n then putE t v st.env else st.env }
def leafC : Value → AV
 | .int k n => .int k n
 | .bool b => .bool b
 | .string s => .str s
 | v => .lit v
def ofConst : Value → AV
 | .agg cs => .agg (cs.toList.map leafC)
 | v => leafC v
theorem leafC_PV (w : World) (S : CellSet) (v : Value) : PV w S (leafC v) v := by cases v <;> constructor
theorem ofConst_agg (w : World) (S : CellSet) (cs : Array Value) : PV w S (.agg (cs.toList.map leafC)) (.agg cs) := by
 refine .agg (List.length_map ..) (fun c hc => ?_)
 have hc' : c < cs.size := by simpa using hc
 have e : cs[c]! = cs[c] := by simp [hc']
 rw [e]
 simp only [List.getElem_map, Array.getElem_toList]
 exact leafC_PV w S _
theorem ofConst_PV (w : World) (S : CellSet) (v : Value) : PV w S (ofConst v) v := by
 cases v with
 | agg cs => exact ofConst_agg w S cs
 | int => exact .int _ _
 | bool => exact .bool _
 | string => exact .str _
 | _ => exact .lit _
def St.ev (st : St) : Operand → AV
 | .tmp t => getE t st.env
 | .const v => ofConst v
 | .global _ => .junk
 | .func f => .clo f []
def AObj.claims (β : Nat → Option Nat) : AObj → CellSet
 | .dead => fun _ _ => False
 | _ => fun b _ => ∃ j, β j = some b
def claim (β : Nat → Nat → Option Nat) (objs : List AObj) : CellSet := fun b o => ∃ (i : Nat) (ob : AObj), objs[i]? = some ob ∧ ob.claims (β i) b o
structure Cx where
 w0 : World
 S0 : CellSet
 L : Nat → Prop
def Cx.S (cx : Cx) (β : Nat → Nat → Option Nat) (objs : List AObj) : CellSet := fun b o => cx.S0 b o ∨ claim β objs b o
def RowV (w : World) (e2 : TypeId) (β : Option Nat) (r : List Int) (v : Value) : Prop :=
 ∃ a cap, v = .slice a r.length cap ∧ r.length ≤ cap ∧ (β = none → a = none ∧ cap = 0) ∧ ∀ b, β = some b → a = some ⟨b, 0, none⟩ ∧ cap ≤ maxLen ∧ w.shape? b = some (e2, cap)
def nestV (rows : List (List Int)) (hole : Option Nat) (gone j : Nat) : Prop := gone ≤ j ∧ j < rows.length ∧ hole ≠ some j
def lkT : List TN → List Int → Option TN
 | [], _ => none
 | t :: r, p => if t.path = p then some t else lkT r p
def ndT : List TN → Nat → Option TN
 | [], _ => none
 | t :: r, b => if t.blk = b then some t else ndT r b
def kidT (T : List TN) (p : List Int) (x : Nat) : Option Nat := (lkT T (p ++ [(x : Int)])).map (·.blk)
def nodeV (o : Option Nat) : Value := .pointer (o.map fun b => ⟨b, 0, none⟩)
structure TrieOk (w : World) (β : Nat → Option Nat) (m : Nat) (T : List TN) : Prop where
 nd : (T.map (·.path)).Nodup
 pc : ∀ q z, (lkT T (q ++ [z])).isSome = true → (lkT T q).isSome = true
 blk : ∀ j, β j = (T[j]?).map (·.blk)
 cur : ∀ t ∈ T, (∀ o, w.frozen? ⟨t.blk, o, none⟩ = false) ∧ w.cell? ⟨t.blk, 0, none⟩ = some (.bool t.word) ∧ ∀ x, x < m → w.cell? ⟨t.blk, 1 + x, none⟩ = some (nodeV (kidT T t.path x))
theorem TrieOk.step {w w' : World} {β β' : Nat → Option Nat} {m : Nat} {T : List TN} (h : TrieOk w β m T) (hβ : ∀ j, β' j = β j) (hblk : ∀ j b, β j = some b → w'.heap[b]? = w.heap[b]?) : TrieOk w' β' m T := by
 refine ⟨h.nd, h.pc, fun j => (hβ j).trans (h.blk j), fun t ht => ?_⟩
 obtain ⟨j, hj, e⟩ := List.getElem_of_mem ht
 have hb : β j = some t.blk := by rw [h.blk j, List.getElem?_eq_getElem hj, e]; rfl
 have e0 := hblk j _ hb
 have := h.cur t ht
 simp only [World.cell?, World.frozen?, e0] at this ⊢
 exact this
def MHok (w : World) (β : Nat → Option Nat) (o : AObj) (x : MH) (v : Value) : Prop :=
 match o with
 | .nest rows hole gone ai e2 am => match x with
  | .own => am = false ∧ ∃ a cap, v = .slice a rows.length cap ∧ (ai.nz = true → rows.length = 0 → a = none) ∧ (β 0 = none → a = none ∧ cap = 0) ∧
   ∀ b, β 0 = some b → a = some ⟨b, 0, none⟩ ∧ rows.length ≤ cap ∧ cap ≤ maxLen ∧ w.shape? b = some (ai.e, cap)
  | .ref => am = true ∧ ∃ b, β 0 = some b ∧ v = .pointer (some ⟨b, 0, none⟩)
  | .cell j => ∃ b, β 0 = some b ∧ j < rows.length ∧ v = .pointer (some ⟨b, j, none⟩)
  | .row j => nestV rows hole gone j ∧ RowV w e2 (β (j + 1)) (rows.getD j []) v
  | .agg => ∃ vs : Array Value, v = .agg vs ∧ vs.size = rows.length ∧ ∀ j, nestV rows hole gone j → RowV w e2 (β (j + 1)) (rows.getD j []) (vs[j]!)
  | _ => False
 | .arr p _ => match x with
  | .sub k => p.sz = 1 ∧ k < p.len ∧ ∃ b cap, β 0 = some b ∧ p.len ≤ cap ∧ v = .slice (some ⟨b, k, none⟩) (p.len - k) (cap - k)
  | _ => False
 | .trie _ _ => match x with
  | .tn o => v = nodeV o
  | .tw b => v = .pointer (some ⟨b, 0, none⟩)
  | .tx b => v = .pointer (some ⟨b, 1, none⟩)
  | .ts b x => v = .pointer (some ⟨b, 1 + x, none⟩)
  | .tk l => v = .agg (l.map nodeV).toArray
  | _ => False
 | _ => False
def NestOk (w : World) (β : Nat → Option Nat) (rows : List (List Int)) (hole : Option Nat) (gone : Nat) (ai : AI) (e2 : TypeId) : Prop :=
 (β 0 = none → rows = []) ∧ (∀ j, ¬ nestV rows hole gone j → β (j + 1) = none) ∧
 (∀ b, β 0 = some b → ∃ cur, w.heap[b]? = some (.cells cur ai.e (0, 0)) ∧ rows.length ≤ cur.size ∧ ∀ j, nestV rows hole gone j → RowV w e2 (β (j + 1)) (rows.getD j []) (cur[j]!)) ∧
 ∀ j b, nestV rows hole gone j → β (j + 1) = some b → ∃ cur, w.heap[b]? = some (.cells cur e2 (0, 0)) ∧ (rows.getD j []).length ≤ cur.size ∧ ∀ k, k < (rows.getD j []).length → cur[k]? = some (.int .i64 ((rows.getD j []).getD k 0))
theorem RowV.step {w w' : World} {e2 : TypeId} {β : Option Nat} {r : List Int} {v : Value} (h : RowV w e2 β r v) (hsh : ∀ b x, β = some b → w.shape? b = some x → w'.shape? b = some x) : RowV w' e2 β r v := by
 obtain ⟨a, cap, h1, h2, h3, h4⟩ := h
 exact ⟨a, cap, h1, h2, h3, fun b e => let ⟨e1, e2, e3⟩ := h4 b e; ⟨e1, e2, hsh b _ e e3⟩⟩
theorem MHok.step {w w' : World} {β β' : Nat → Option Nat} {o : AObj} {x : MH} {v : Value} (h : MHok w β o x v) (hβ : ∀ j, β' j = β j) (hsh : ∀ j b x, β j = some b → w.shape? b = some x → w'.shape? b = some x) : MHok w' β' o x v := by
 have e : β' = β := funext hβ
 subst e
 cases o with
 | nest rows hole gone ai e2 am =>
  cases x with
  | own =>
   obtain ⟨h0, a, cap, h1, h2, h3, h4⟩ := h
   exact ⟨h0, a, cap, h1, h2, h3, fun b e => let ⟨e1, e2, e3, e4⟩ := h4 b e; ⟨e1, e2, e3, hsh 0 b _ e e4⟩⟩
  | ref => exact h
  | cell j => exact h
  | row j => exact ⟨h.1, h.2.step (hsh _)⟩
  | agg =>
   obtain ⟨vs, h1, h2, h3⟩ := h
   exact ⟨vs, h1, h2, fun j hr => (h3 j hr).step (hsh _)⟩
  | _ => exact h.elim
 | arr p ai => cases x <;> exact h
 | trie m T => cases x <;> exact h
 | _ => exact h.elim
theorem MHok.arr {w w' : World} {β β' : Nat → Option Nat} {p p' : Pay} {ai ai' : AI} {x : MH} {v : Value} (h : MHok w β (.arr p ai) x v) (hβ : ∀ b, β 0 = some b → β' 0 = some b) (hl : p'.len = p.len) (hs : p'.sz = p.sz) : MHok w' β' (.arr p' ai') x v := by
 cases x with
 | sub k =>
  obtain ⟨e1, e2, b, cap, e3, e4, e5⟩ := h
  exact ⟨hs.trans e1, by omega, b, cap, hβ _ e3, by omega, by rw [hl]; exact e5⟩
 | _ => exact h.elim
theorem MHok.trie {w w' : World} {β β' : Nat → Option Nat} {m m' : Nat} {T T' : List TN} {x : MH} {v : Value} (h : MHok w β (.trie m T) x v) : MHok w' β' (.trie m' T') x v := by
 cases x <;> exact h
theorem MHok.one {w : World} {β : Nat → Option Nat} {o : AObj} {x : MH} {v : Value} (h : MHok w β o x v) (hx : x ≠ .agg) (hx2 : ∀ l, x ≠ .tk l) : (∃ a l c, v = .slice a l c) ∨ ∃ a, v = .pointer a := by
 cases o with
 | nest rows hole gone ai e am => cases x with
  | own => obtain ⟨_, a, cap, e, _⟩ := h; exact .inl ⟨_, _, _, e⟩
  | ref => obtain ⟨_, b, _, e⟩ := h; exact .inr ⟨_, e⟩
  | cell j => obtain ⟨b, _, _, e⟩ := h; exact .inr ⟨_, e⟩
  | row j => obtain ⟨_, a, cap, e, _⟩ := h; exact .inl ⟨_, _, _, e⟩
  | agg => exact absurd rfl hx
  | _ => exact h.elim
 | arr p ai => cases x with
  | sub k => obtain ⟨_, _, b, cap, _, _, e⟩ := h; exact .inl ⟨_, _, _, e⟩
  | _ => exact h.elim
 | trie m T => cases x with
  | tk l => exact absurd rfl (hx2 l)
  | tn o => exact .inr ⟨_, h⟩
  | tw b => exact .inr ⟨_, h⟩
  | tx b => exact .inr ⟨_, h⟩
  | ts b x => exact .inr ⟨_, h⟩
  | _ => exact h.elim
 | _ => exact h.elim
theorem NestOk.step {w w' : World} {β β' : Nat → Option Nat} {rows : List (List Int)} {hole : Option Nat} {gone : Nat} {ai : AI} {e2 : TypeId} (h : NestOk w β rows hole gone ai e2) (hβ : ∀ j, β' j = β j) (hblk : ∀ j b, β j = some b → w'.heap[b]? = w.heap[b]?) : NestOk w' β' rows hole gone ai e2 := by
 have e : β' = β := funext hβ
 subst e
 have hsh : ∀ j b x, β' j = some b → w.shape? b = some x → w'.shape? b = some x := fun j b x e hx => by simp only [World.shape?, hblk j b e]; exact hx
 obtain ⟨h1, h2, h3, h4⟩ := h
 refine ⟨h1, h2, fun b e => ?_, fun j b hr e => ?_⟩
 ·obtain ⟨cur, g1, g2, g3⟩ := h3 b e
  exact ⟨cur, (hblk 0 b e).trans g1, g2, fun j hr => (g3 j hr).step (hsh _)⟩
 ·obtain ⟨cur, g1, g2⟩ := h4 j b hr e
  exact ⟨cur, (hblk _ b e).trans g1, g2⟩
inductive TV (w : World) (S : CellSet) (β : Nat → Nat → Option Nat) (objs : List AObj) : AV → Value → Prop
 | pure {av : AV} {v : Value} (h : PV w S av v) : TV w S β objs av v
 | own {i : Nat} {p : Pay} {nz : AI} {a : Option Addr} {len cap : Nat} (ho : objs[i]? = some (.arr p nz)) (hlen : p.len = len) (hnz : nz.nz = true → len = 0 → a = none)
   (hn : β i 0 = none → a = none ∧ cap = 0)
   (hb : ∀ b, β i 0 = some b → a = some ⟨b, 0, none⟩ ∧ len ≤ cap ∧ cap ≤ maxLen ∧ w.shape? b = some (nz.e, cap * p.sz)) : TV w S β objs (.own i) (.slice a len cap)
 | ref {i off b : Nat} (hb : β i 0 = some b) : TV w S β objs (.ref i off) (.pointer (some ⟨b, off, none⟩))
 | eref {i j c b : Nat} {p : Pay} {nz : AI} (ho : objs[i]? = some (.arr p nz)) (hb : β i 0 = some b) (hj : j < p.len) : TV w S β objs (.eref i j c) (.pointer (some ⟨b, j * p.sz + c, none⟩))
 | mapr {i b : Nat} (hb : β i 0 = some b) : TV w S β objs (.mapr i) (.map (some b))
 | mh {i : Nat} {x : MH} {o : AObj} {v : Value} (ho : objs[i]? = some o) (h : MHok w (β i) o x v) : TV w S β objs (.mh i x) v
 | hbox {x : AV} {ad : Addr} {v : Value} (hsp : ad.spot = none) (hc : w.cell? ⟨ad.block, ad.off, none⟩ = some v) (hS : ¬ S ad.block ad.off) (hr : TV w S β objs x v) : TV w S β objs (.hbox x) (.pointer (some ad))
 | agg {cells : List AV} {vs : Array Value} (hl : cells.length = vs.size) (hr : ∀ c (h : c < cells.length), TV w S β objs (cells[c]) (vs[c]!)) : TV w S β objs (.agg cells) (.agg vs)
 | tup {cells : List AV} {vs : Array Value} (hl : cells.length = vs.size) (hr : ∀ c (h : c < cells.length), TV w S β objs (cells[c]) (vs[c]!)) : TV w S β objs (.tup cells) (.tuple vs)
 | clo {f : FuncId} {cells : List AV} {vs : Array Value} (hl : cells.length = vs.size) (hr : ∀ c (h : c < cells.length), TV w S β objs (cells[c]) (vs[c]!)) : TV w S β objs (.clo f cells) (.func (.func f) #[] vs)
theorem TV.trieH {w : World} {S : CellSet} {β : Nat → Nat → Option Nat} {objs : List AObj} {i : Nat} {x : MH} {v : Value} (h : TV w S β objs (.mh i x) v) (hx : (∃ o, x = .tn o) ∨ (∃ b, x = .tw b) ∨ (∃ b, x = .tx b) ∨ (∃ b y, x = .ts b y) ∨ ∃ l, x = .tk l) :
  ∃ m T, objs[i]? = some (.trie m T) ∧ MHok w (β i) (.trie m T) x v := by
 cases h with
 | pure h => cases h
 | @mh _ _ o _ ho hm =>
  cases o with
  | trie m T => exact ⟨m, T, ho, hm⟩
  | nest => rcases hx with ⟨_, rfl⟩ | ⟨_, rfl⟩ | ⟨_, rfl⟩ | ⟨_, _, rfl⟩ | ⟨_, rfl⟩ <;> exact hm.elim
  | arr => rcases hx with ⟨_, rfl⟩ | ⟨_, rfl⟩ | ⟨_, rfl⟩ | ⟨_, _, rfl⟩ | ⟨_, rfl⟩ <;> exact hm.elim
  | _ => exact hm.elim
def wordT (T : List TN) (b : Nat) : Bool := match ndT T b with | some t => t.word | none => false
def chT (T : List TN) (b x : Nat) : Option Nat := match ndT T b with | some t => kidT T t.path x | none => none
def kidsT (T : List TN) (b m : Nat) : List (Option Nat) := (List.range m).map (chT T b)
def inT (T : List TN) (b : Nat) : Prop := (ndT T b).isSome = true
theorem ndT_mem : ∀ {T : List TN} {b : Nat} {t : TN}, ndT T b = some t → t ∈ T ∧ t.blk = b
 | [], _, _, h => by cases h
 | u :: r, b, t, h => by
  unfold ndT at h
  split at h
  ·cases h; exact ⟨by simp, by assumption⟩
  ·obtain ⟨h1, h2⟩ := ndT_mem h; exact ⟨by simp [h1], h2⟩
theorem inT_nd {T : List TN} {b : Nat} (h : inT T b) : ∃ t, ndT T b = some t ∧ t ∈ T ∧ t.blk = b := by
 obtain ⟨t, e⟩ := Option.isSome_iff_exists.1 h
 exact ⟨t, e, ndT_mem e⟩
def encKey (kk : KeyKind) (l : List Int) : Value :=
 match kk with
 | .arr => .agg (l.map fun n => Value.int .i64 n).toArray
 | .int k => .int k (l.getD 0 0)
 | .str => .string ⟨(l.map fun n => n.toNat.toUInt8).toArray⟩
def ObjOk (w : World) (S : CellSet) (β : Nat → Nat → Option Nat) (objs : List AObj) (i : Nat) : AObj → Prop
 | .dead => ∀ j, β i j = none
 | .arr p nz => p.wf ∧ (β i 0 = none → p.len = 0) ∧ (∀ j, β i (j + 1) = none) ∧
   ∀ b, β i 0 = some b → (∃ cur, w.heap[b]? = some (.cells cur nz.e (0, 0)) ∧ p.len * p.sz ≤ cur.size) ∧
    ∀ j c (h : c < (p.at j).length), j < p.len → ∃ v, w.cell? ⟨b, j * p.sz + c, none⟩ = some v ∧ PV w S ((p.at j)[c]) v
 | .box cells => (∀ j, β i (j + 1) = none) ∧ ∃ b, β i 0 = some b ∧ (∀ o, w.frozen? ⟨b, o, none⟩ = false) ∧
    (∀ c (h : c < cells.length), ∃ v, w.cell? ⟨b, c, none⟩ = some v ∧ TV w S β objs (cells[c]) v)
 | .mapB kk m => (∀ j, β i (j + 1) = none) ∧ ∃ b es cl, β i 0 = some b ∧ w.heap[b]? = some (.map es cl) ∧ es.size = m.length ∧
    ∀ j (h : j < m.length), es[j]!.key = encKey kk (m[j]).1 ∧ es[j]!.val = .bool (m[j]).2
 | .mapI kk m => (∀ j, β i (j + 1) = none) ∧ ∃ b es cl, β i 0 = some b ∧ w.heap[b]? = some (.map es cl) ∧ es.size = m.length ∧
    ∀ j (h : j < m.length), es[j]!.key = encKey kk (m[j]).1 ∧ es[j]!.val = .int .i64 (m[j]).2
 | .nest rows hole gone ai e2 _ => NestOk w (β i) rows hole gone ai e2
 | .trie m T => TrieOk w (β i) m T
structure KeepL (L : Nat → Prop) (w w' : World) : Prop where
 os : w'.os = w.os
 tape : w'.tape = w.tape
 output : w'.output = w.output
 drawn : w.drawn ≤ w'.drawn
 size : w.heap.size ≤ w'.heap.size
 block : ∀ k, k < w.heap.size → ¬ L k → w'.heap[k]? = w.heap[k]?
theorem KeepL.refl (L w) : KeepL L w w := ⟨rfl, rfl, rfl, Nat.le_refl _, Nat.le_refl _, fun _ _ _ => rfl⟩
theorem KeepL.trans {L L' : Nat → Prop} {a b c : World} (h : KeepL L a b) (k : KeepL L' b c) (hl : ∀ i, i < a.heap.size → ¬ L i → ¬ L' i) : KeepL L a c :=
 ⟨k.os.trans h.os, k.tape.trans h.tape, k.output.trans h.output, Nat.le_trans h.drawn k.drawn, Nat.le_trans h.size k.size, fun i hi hL => (k.block i (Nat.lt_of_lt_of_le hi h.size) (hl i hi hL)).trans (h.block i hi hL)⟩
structure FR (cx : Cx) (β : Nat → Nat → Option Nat) (st : St) (tmps : Array Value) (w : World) : Prop where
 keep : KeepL cx.L cx.w0 w
 s0 : ∀ b o, cx.S0 b o → b < cx.w0.heap.size ∧ ¬ cx.L b
 inj : ∀ i j i' j' b, β i j = some b → β i' j' = some b → i = i' ∧ j = j'
 rng : ∀ i j b, β i j = some b → b < w.heap.size ∧ (b < cx.w0.heap.size → cx.L b)
 out : ∀ i j, st.objs[i]? = none → β i j = none
 objs : ∀ i o, st.objs[i]? = some o → ObjOk w (cx.S β st.objs) β st.objs i o
 size : tmps.size = st.n
 env : ∀ t, TV w (cx.S β st.objs) β st.objs (getE t st.env) (tmps.getD t undef)
theorem claim_of {β : Nat → Nat → Option Nat} {objs : List AObj} {i j b : Nat} {ob : AObj} (h : objs[i]? = some ob) (hb : β i j = some b) (hd : ob ≠ .dead) (o : Nat) : claim β objs b o := by
 refine ⟨i, ob, h, ?_⟩
 cases ob <;> first | exact absurd rfl hd | exact ⟨_, hb⟩
theorem FR.ev {cx β st tmps w} (h : FR cx β st tmps w) (d : List Deferred) (x : Operand) : TV w (cx.S β st.objs) β st.objs (st.ev x) (({ tmps, defers := d } : Act).eval x) := by
 cases x with
 | tmp t => exact h.env t
 | const v =>
  exact .pure (ofConst_PV _ _ _)
 | global g => exact .pure (.junk _)
 | func f => exact .pure (.clo rfl (fun c h => absurd h (Nat.not_lt_zero _)))
theorem FR.put {cx β st tmps w} (h : FR cx β st tmps w) {av : AV} {v : Value} (hv : TV w (cx.S β st.objs) β st.objs av v) (d : Option Tmp) (ds : List Deferred) :
  FR cx β (st.put d av) (({ tmps, defers := ds } : Act).put d v).tmps w := by
 cases d with
 | none => exact h
 | some t =>
  refine ⟨h.keep, h.s0, h.inj, h.rng, h.out, h.objs, by simp [h.size, St.put, Act.put], fun u => ?_⟩
  by_cases hlt : t < st.n
  ·have hlt' : t < tmps.size := by rw [h.size]; exact hlt
   simp only [St.put, Act.put, if_pos hlt]
   by_cases hu : u = t
   ·subst hu
    rw [getE_putE_same]
    have : (tmps.setIfInBounds u v).getD u undef = v := by simp [Array.getD, hlt']
    rw [this]; exact hv
   ·rw [getE_putE_ne _ _ hu]
    have : (tmps.setIfInBounds t v).getD u undef = tmps.getD u undef := by
     simp [Array.getElem?_setIfInBounds_ne (Ne.symm hu)]
    rw [this]; exact h.env u
  ·have : tmps.setIfInBounds t v = tmps := by
    have hle : tmps.size ≤ t := by rw [h.size]; exact Nat.le_of_not_lt hlt
    simp [Array.setIfInBounds, Nat.not_lt.2 hle]
   simp only [St.put, Act.put, if_neg hlt, this]
   exact h.env u
end Go.AM
end

section
namespace Go.AM
open Go
structure ArrKeep (objs objs' : List AObj) : Prop where
 mk ::
 arr : ∀ (i : Nat) (p : Pay) (nz : AI), objs[i]? = some (.arr p nz) → ∃ p' : Pay, objs'[i]? = some (.arr p' nz) ∧ p'.len = p.len ∧ p'.sz = p.sz
 nest : ∀ (i : Nat) rows hole gone ai e am, objs[i]? = some (.nest rows hole gone ai e am) → objs'[i]? = some (.nest rows hole gone ai e am)
 trie : ∀ (i m : Nat) T, objs[i]? = some (.trie m T) → ∃ T', objs'[i]? = some (.trie m T')
theorem ArrKeep.refl (objs : List AObj) : ArrKeep objs objs := ⟨fun _ p _ h => ⟨p, h, rfl, rfl⟩, fun _ _ _ _ _ _ _ h => h, fun _ _ T h => ⟨T, h⟩⟩
theorem ArrKeep.of {objs objs' : List AObj} (h : ∀ (i : Nat) o, objs[i]? = some o → (∀ cs, o ≠ .box cs) → objs'[i]? = some o) : ArrKeep objs objs' :=
 ⟨fun i p _ ho => ⟨p, h i _ ho (by simp), rfl, rfl⟩, fun i _ _ _ _ _ _ ho => h i _ ho (by simp), fun i _ T ho => ⟨T, h i _ ho (by simp)⟩⟩
theorem TV.step {w w' : World} {S S' : CellSet} {β β' : Nat → Nat → Option Nat} {objs objs' : List AObj} {av : AV} {v : Value} (h : TV w S β objs av v)
  (hk : Keeps S w w') (hs : ∀ b o v, w.cell? ⟨b, o, none⟩ = some v → ¬ S b o → ¬ S' b o)
  (hown : ArrKeep objs objs')
  (hβ : ∀ i j b, β i j = some b → β' i j = some b) (hβn : ∀ (i j : Nat) (o : AObj), objs[i]? = some o → β i j = none → β' i j = none)
  (hsh : ∀ r x, w.shape? r = some x → w'.shape? r = some x) : TV w' S' β' objs' av v := by
 induction h with
 | pure h => exact .pure (h.keeps hk hs)
 | @own i p nz a len cap ho hlen hnz hn hb =>
  obtain ⟨p', h1, h2, h3⟩ := hown.arr _ _ _ ho
  cases hβi : β i 0 with
  | none => exact .own h1 (h2.trans hlen) hnz (fun _ => hn hβi) (fun b h => by rw [hβn _ _ _ ho hβi] at h; cases h)
  | some b0 =>
   refine .own h1 (h2.trans hlen) hnz (fun h => by rw [hβ _ _ _ hβi] at h; cases h) (fun b h => ?_)
   rw [hβ _ _ _ hβi] at h
   cases h
   obtain ⟨e1, e2, e3, e4⟩ := hb _ hβi
   exact ⟨e1, e2, e3, by rw [h3]; exact hsh _ _ e4⟩
 | ref hb => exact .ref (hβ _ _ _ hb)
 | eref ho hb hj =>
  obtain ⟨p', h1, h2, h3⟩ := hown.arr _ _ _ ho
  rw [← h3]
  exact .eref h1 (hβ _ _ _ hb) (by omega)
 | mapr hb => exact .mapr (hβ _ _ _ hb)
 | @mh i x o v ho hm =>
  have ho2 := ho
  cases o with
  | nest rows hole gone ai e am => exact .mh (hown.nest _ _ _ _ _ _ _ ho) (hm.step (fun j => by
    cases e : β i j with
    | none => exact hβn _ _ _ ho2 e
    | some b => exact hβ _ _ _ e) (fun _ _ _ _ hx => hsh _ _ hx))
  | arr p ai =>
   obtain ⟨p', h1, h2, h3⟩ := hown.arr _ _ _ ho
   exact .mh h1 (hm.arr (hβ _ _) h2 h3)
  | trie m T =>
   obtain ⟨T', h1⟩ := hown.trie _ _ _ ho
   exact .mh h1 hm.trie
  | _ => exact hm.elim
 | hbox hsp hc hS hr ih => exact .hbox hsp (hk _ _ _ hS hc) (hs _ _ _ hc hS) ih
 | agg hl hr ih => exact .agg hl ih
 | tup hl hr ih => exact .tup hl ih
 | clo hl hr ih => exact .clo hl ih
theorem cell?_of_heap {w w' : World} {b o : Nat} (h : w'.heap[b]? = w.heap[b]?) : w'.cell? ⟨b, o, none⟩ = w.cell? ⟨b, o, none⟩ := by
 simp only [World.cell?, h]
theorem frozen?_of_heap {w w' : World} {b o : Nat} (h : w'.heap[b]? = w.heap[b]?) : w'.frozen? ⟨b, o, none⟩ = w.frozen? ⟨b, o, none⟩ := by
 simp only [World.frozen?, h]
theorem shape?_of_heap {w w' : World} {b : Nat} (h : w'.heap[b]? = w.heap[b]?) : w'.shape? b = w.shape? b := by
 simp only [World.shape?, h]
theorem lt_of_cell? {w : World} {b o : Nat} {v : Value} (h : w.cell? ⟨b, o, none⟩ = some v) : b < w.heap.size := by
 unfold World.cell? at h
 by_cases hb : b < w.heap.size
 ·exact hb
 ·simp [Array.getElem?_eq_none (Nat.le_of_not_lt hb)] at h
theorem lt_of_shape? {w : World} {b : Nat} {x : TypeId × Nat} (h : w.shape? b = some x) : b < w.heap.size := by
 unfold World.shape? at h
 by_cases hb : b < w.heap.size
 ·exact hb
 ·simp [Array.getElem?_eq_none (Nat.le_of_not_lt hb)] at h
theorem KeepL.keeps {L : Nat → Prop} {S : CellSet} {w w' : World} (h : KeepL L w w') (hS : ∀ b o, ¬ S b o → ¬ L b) : Keeps S w w' :=
 fun b o v hs hc => by rw [cell?_of_heap (h.block b (lt_of_cell? hc) (hS b o hs))]; exact hc
theorem ObjOk.step {w w' : World} {S S' : CellSet} {β β' : Nat → Nat → Option Nat} {objs objs' : List AObj} {i : Nat} {o : AObj} (h : ObjOk w S β objs i o)
  (hk : Keeps S w w') (hs : ∀ b o v, w.cell? ⟨b, o, none⟩ = some v → ¬ S b o → ¬ S' b o)
  (hown : ArrKeep objs objs')
  (hβ : ∀ i j b, β i j = some b → β' i j = some b) (hβn : ∀ (i j : Nat) (o : AObj), objs[i]? = some o → β i j = none → β' i j = none)
  (hsh : ∀ r x, w.shape? r = some x → w'.shape? r = some x)
  (hβi : ∀ j, β' i j = β i j) (hblk : ∀ j b, β i j = some b → w'.heap[b]? = w.heap[b]?) : ObjOk w' S' β' objs' i o := by
 cases o with
 | dead => exact fun j => (hβi j).trans (h j)
 | arr p nz =>
  obtain ⟨h1, h2, h3, h4⟩ := h
  refine ⟨h1, fun e => h2 (by rw [← hβi]; exact e), fun j => (hβi _).trans (h3 j), fun b hb => ?_⟩
  rw [hβi] at hb
  obtain ⟨⟨cur, h6, h7⟩, h8⟩ := h4 b hb
  have e0 := hblk 0 b hb
  refine ⟨⟨cur, by rw [e0]; exact h6, h7⟩, fun j c hc hj => ?_⟩
  obtain ⟨v, hv, hp⟩ := h8 j c hc hj
  exact ⟨v, by rw [cell?_of_heap e0]; exact hv, hp.keeps hk hs⟩
 | box cells =>
  obtain ⟨h0, b, hb, h1, h2⟩ := h
  have e0 := hblk 0 b hb
  refine ⟨fun j => (hβi _).trans (h0 j), b, (hβi _).trans hb, fun o => by rw [frozen?_of_heap e0]; exact h1 o, fun c hc => ?_⟩
  obtain ⟨v, hv, hp⟩ := h2 c hc
  exact ⟨v, by rw [cell?_of_heap e0]; exact hv, hp.step hk hs hown hβ hβn hsh⟩
 | mapB kk m =>
  obtain ⟨h0, b, es, cl, hb, h1, h2⟩ := h
  exact ⟨fun j => (hβi _).trans (h0 j), b, es, cl, (hβi _).trans hb, by rw [hblk 0 b hb]; exact h1, h2⟩
 | mapI kk m =>
  obtain ⟨h0, b, es, cl, hb, h1, h2⟩ := h
  exact ⟨fun j => (hβi _).trans (h0 j), b, es, cl, (hβi _).trans hb, by rw [hblk 0 b hb]; exact h1, h2⟩
 | nest rows hole gone ai e2 am => exact NestOk.step h hβi hblk
 | trie m T => exact TrieOk.step h hβi hblk
theorem FR.grow {cx β st tmps w w'} (h : FR cx β st tmps w) (hk : KeepL (fun _ => False) w w') : FR cx β st tmps w' := by
 have hk' : Keeps (cx.S β st.objs) w w' := hk.keeps fun _ _ _ => id
 have hsh : ∀ r x, w.shape? r = some x → w'.shape? r = some x := fun r x hx => by
  rw [shape?_of_heap (hk.block r (lt_of_shape? hx) id)]; exact hx
 have hown := ArrKeep.refl st.objs
 refine ⟨h.keep.trans hk (fun _ _ _ => id), h.s0, h.inj, fun i j b hb => ⟨Nat.lt_of_lt_of_le (h.rng i j b hb).1 hk.size, (h.rng i j b hb).2⟩, h.out, fun i o ho => ?_, h.size, fun t => ?_⟩
 ·exact (h.objs i o ho).step hk' (fun _ _ _ _ => id) hown (fun _ _ _ => id) (fun _ _ _ _ => id) hsh (fun _ => rfl) (fun j b hb => hk.block b (h.rng i j b hb).1 id)
 ·exact (h.env t).step hk' (fun _ _ _ _ => id) hown (fun _ _ _ => id) (fun _ _ _ _ => id) hsh
end Go.AM
end

section
namespace Go.AM
open Go
def AV.isH : AV → Bool
 | .own _ | .ref _ _ | .eref _ _ _ | .mapr _ | .mh _ _ => true
 | _ => false
def AV.mapH (f : AV → AV) : Nat → AV → AV
 | d, av => match av with
  | .own i => f (.own i)
  | .ref i o => f (.ref i o)
  | .eref i j c => f (.eref i j c)
  | .mapr i => f (.mapr i)
  | .mh i x => f (.mh i x)
  | .agg cs => match d with
   | 0 => .junk
   | d + 1 => .agg (cs.map (AV.mapH f d))
  | .tup cs => match d with
   | 0 => .junk
   | d + 1 => .tup (cs.map (AV.mapH f d))
  | .clo g cs => match d with
   | 0 => .junk
   | d + 1 => .clo g (cs.map (AV.mapH f d))
  | .hbox x => match d with
   | 0 => .junk
   | d + 1 => .hbox (x.mapH f d)
  | av => av
theorem pv_cell {w w' : World} {S S' : CellSet} (hp : ∀ av v, PV w S av v → PV w' S' av v) {ad : Addr} {v : Value} (hsp : ad.spot = none) (hc : w.cell? ⟨ad.block, ad.off, none⟩ = some v) (hS : ¬ S ad.block ad.off) :
  w'.cell? ⟨ad.block, ad.off, none⟩ = some v ∧ ¬ S' ad.block ad.off := by
 have := hp (.hbox (.lit v)) (.pointer (some ad)) (.hbox hsp hc hS (.lit v))
 cases this with
 | hbox h1 h2 h3 h4 => cases h4; exact ⟨h2, h3⟩
theorem TV.mapH {w w' : World} {S S' : CellSet} {β β' : Nat → Nat → Option Nat} {objs objs' : List AObj} {f : AV → AV}
  (hf : ∀ av v, av.isH = true → TV w S β objs av v → TV w' S' β' objs' (f av) v) (hp : ∀ av v, PV w S av v → PV w' S' av v) :
  ∀ (d : Nat) (av : AV) (v : Value), TV w S β objs av v → TV w' S' β' objs' (av.mapH f d) v := by
 intro d
 induction d with
 | zero =>
  intro av v h
  cases av <;> unfold AV.mapH <;> simp only [] <;> first
   | exact hf _ _ rfl h
   | exact .pure (.junk _)
   | (cases h with | pure h => exact .pure (hp _ _ h))
 | succ d ih =>
  intro av v h
  cases av <;> unfold AV.mapH <;> simp only [] <;> first
   | exact hf _ _ rfl h
   | (cases h with
      | pure h => cases h with
       | agg hl hr => exact .agg (by simpa using hl) (fun c hc => by simpa using ih _ _ (.pure (hr c (by simpa using hc))))
      | agg hl hr => exact .agg (by simpa using hl) (fun c hc => by simpa using ih _ _ (hr c (by simpa using hc))))
   | (cases h with
      | pure h => cases h with
       | tup hl hr => exact .tup (by simpa using hl) (fun c hc => by simpa using ih _ _ (.pure (hr c (by simpa using hc))))
      | tup hl hr => exact .tup (by simpa using hl) (fun c hc => by simpa using ih _ _ (hr c (by simpa using hc))))
   | (cases h with
      | pure h => cases h with
       | clo hl hr => exact .clo (by simpa using hl) (fun c hc => by simpa using ih _ _ (.pure (hr c (by simpa using hc))))
      | clo hl hr => exact .clo (by simpa using hl) (fun c hc => by simpa using ih _ _ (hr c (by simpa using hc))))
   | (cases h with
      | pure h => cases h with
       | hbox hsp hc hS hr => exact .hbox hsp (pv_cell hp hsp hc hS).1 (pv_cell hp hsp hc hS).2 (ih _ _ (.pure hr))
      | hbox hsp hc hS hr => exact .hbox hsp (pv_cell hp hsp hc hS).1 (pv_cell hp hsp hc hS).2 (ih _ _ hr))
   | (cases h with | pure h => exact .pure (hp _ _ h))
def mapE (g : AV → AV) : List (Nat × AV) → List (Nat × AV)
 | [] => []
 | (t, x) :: r => (t, g x) :: mapE g r
theorem getE_mapE {g : AV → AV} (hg : g .junk = .junk) (t : Nat) (e) : getE t (mapE g e) = g (getE t e) := by
 induction e with
 | nil => exact hg.symm
 | cons a r ih =>
  obtain ⟨u, x⟩ := a
  unfold mapE getE
  cases Nat.beq u t <;> simp [ih]
def AObj.mapH (f : AV → AV) : AObj → AObj
 | .box cells => .box (cells.map (AV.mapH f 3))
 | o => o
def St.mapH (f : AV → AV) (st : St) : St := { st with env := mapE (AV.mapH f 3) st.env, objs := st.objs.map (AObj.mapH f) }
def killL (i : Nat) : AV → AV
 | .own k => match Nat.beq k i with | true => .junk | false => .own k
 | .ref k o => match Nat.beq k i with | true => .junk | false => .ref k o
 | .eref k j c => match Nat.beq k i with | true => .junk | false => .eref k j c
 | .mapr k => match Nat.beq k i with | true => .junk | false => .mapr k
 | .mh k x => match Nat.beq k i with | true => .junk | false => .mh k x
 | av => av
def frzM (ob : AObj) (x : MH) : AV :=
 match ob with
 | .nest rows hole gone ai _ am => match x with
  | .own => match hole, gone, am with
   | none, 0, false => .pay (.rows rows) ai.nz
   | _, _, _ => .junk
  | .row j => .pay (.ints .i64 (rows.getD j [])) false
  | .agg => match hole, gone with
   | none, 0 => .aggp (.rows rows)
   | _, _ => .junk
  | _ => .junk
 | _ => .junk
def frzL (i : Nat) (ob : AObj) : AV → AV
 | .own k => match Nat.beq k i with
  | true => match ob with | .arr p nz => .pay p nz.nz | _ => .junk
  | false => .own k
 | .ref k o => match Nat.beq k i with
  | true => match ob with | .box cells => .fref ((cells.map (AV.mapH (fun _ => .junk) 3)).drop o) | _ => .junk
  | false => .ref k o
 | .eref k j c => match Nat.beq k i with
  | true => match ob with | .arr p _ => .fref ((p.at j).drop c) | _ => .junk
  | false => .eref k j c
 | .mapr k => match Nat.beq k i with | true => .junk | false => .mapr k
 | .mh k x => match Nat.beq k i with | true => frzM ob x | false => .mh k x
 | av => av
def killO (i : Nat) : AObj → AObj := AObj.mapH (killL i)
theorem isH_cases {av : AV} (h : av.isH = true) : (∃ i, av = .own i) ∨ (∃ i o, av = .ref i o) ∨ (∃ i j c, av = .eref i j c) ∨ (∃ i, av = .mapr i) ∨ (∃ i x, av = .mh i x) := by
 cases av <;> first | exact .inl ⟨_, rfl⟩ | exact .inr (.inl ⟨_, _, rfl⟩) | exact .inr (.inr (.inl ⟨_, _, _, rfl⟩)) | exact .inr (.inr (.inr (.inl ⟨_, rfl⟩))) | exact .inr (.inr (.inr (.inr ⟨_, _, rfl⟩))) | cases h
theorem beq_cases (k i : Nat) : (Nat.beq k i = true ∧ k = i) ∨ (Nat.beq k i = false ∧ k ≠ i) := by
 cases h : Nat.beq k i with
 | true => exact .inl ⟨rfl, Nat.eq_of_beq_eq_true h⟩
 | false => exact .inr ⟨rfl, Nat.ne_of_beq_eq_false h⟩
theorem TV.stepH {w w' : World} {S S' : CellSet} {β β' : Nat → Nat → Option Nat} {objs objs' : List AObj} {i : Nat} {av : AV} {v : Value} (hh : av.isH = true) (h : TV w S β objs av v)
  (hown : ∀ (k : Nat) (p : Pay) (nz : AI), k ≠ i → objs[k]? = some (.arr p nz) → ∃ p' : Pay, objs'[k]? = some (.arr p' nz) ∧ p'.len = p.len ∧ p'.sz = p.sz)
  (hnest : ∀ (k : Nat) rows hole gone ai e am, k ≠ i → objs[k]? = some (.nest rows hole gone ai e am) → objs'[k]? = some (.nest rows hole gone ai e am))
  (htrie : ∀ (k m : Nat) T, k ≠ i → objs[k]? = some (.trie m T) → ∃ T', objs'[k]? = some (.trie m T'))
  (hβ : ∀ k j, k ≠ i → β' k j = β k j)
  (hsh : ∀ r x, w.shape? r = some x → w'.shape? r = some x) : TV w' S' β' objs' (killL i av) v := by
 rcases isH_cases hh with ⟨k, rfl⟩ | ⟨k, o, rfl⟩ | ⟨k, j, c, rfl⟩ | ⟨k, rfl⟩ | ⟨k, x, rfl⟩ <;> unfold killL <;> rcases beq_cases k i with ⟨e, rfl⟩ | ⟨e, hne⟩ <;> simp only [e] <;> first
  | exact .pure (.junk _)
  | skip
 ·cases h with
  | pure h => cases h
  | own ho hlen hnz hn hb =>
   obtain ⟨p', h1, h2, h3⟩ := hown _ _ _ hne ho
   refine .own h1 (h2.trans hlen) hnz (fun h => hn (by rw [← hβ _ _ hne]; exact h)) (fun b h => ?_)
   rw [hβ _ _ hne] at h
   obtain ⟨e1, e2, e3, e4⟩ := hb _ h
   exact ⟨e1, e2, e3, by rw [h3]; exact hsh _ _ e4⟩
 ·cases h with
  | pure h => cases h
  | ref hb => exact .ref ((hβ _ _ hne).trans hb)
 ·cases h with
  | pure h => cases h
  | eref ho hb hj =>
   obtain ⟨p', h1, h2, h3⟩ := hown _ _ _ hne ho
   rw [← h3]
   exact .eref h1 ((hβ _ _ hne).trans hb) (by omega)
 ·cases h with
  | pure h => cases h
  | mapr hb => exact .mapr ((hβ _ _ hne).trans hb)
 ·cases h with
  | pure h => cases h
  | @mh _ _ o _ ho hm =>
   cases o with
   | nest rows hole gone ai e am => exact .mh (hnest _ _ _ _ _ _ _ hne ho) (hm.step (fun j => hβ _ _ hne) (fun _ _ _ _ hx => hsh _ _ hx))
   | arr p ai =>
    obtain ⟨p', h1, h2, h3⟩ := hown _ _ _ hne ho
    exact .mh h1 (hm.arr (fun b e => (hβ _ _ hne).trans e) h2 h3)
   | trie m T =>
    obtain ⟨T', h1⟩ := htrie _ _ _ hne ho
    exact .mh h1 hm.trie
   | _ => exact hm.elim
end Go.AM
end

section
namespace Go.AM
open Go
theorem S_iff_of_claims {cx : Cx} {β : Nat → Nat → Option Nat} {objs objs' : List AObj} (h : ∀ i b o, (∃ ob : AObj, objs[i]? = some ob ∧ ob.claims (β i) b o) ↔ (∃ ob : AObj, objs'[i]? = some ob ∧ ob.claims (β i) b o)) (b o : Nat) :
  cx.S β objs b o ↔ cx.S β objs' b o := by
 unfold Cx.S claim
 constructor
 ·rintro (h1 | ⟨i, ob, h2, h3⟩)
  ·exact .inl h1
  ·obtain ⟨ob', h4⟩ := (h i b o).1 ⟨ob, h2, h3⟩
   exact .inr ⟨i, ob', h4⟩
 ·rintro (h1 | ⟨i, ob, h2, h3⟩)
  ·exact .inl h1
  ·obtain ⟨ob', h4⟩ := (h i b o).2 ⟨ob, h2, h3⟩
   exact .inr ⟨i, ob', h4⟩
theorem claims_block {ob : AObj} {β : Nat → Option Nat} {b o : Nat} (h : ob.claims β b o) : ob ≠ .dead ∧ ∃ j, β j = some b := by
 cases ob with
 | dead => exact h.elim
 | _ => exact ⟨by simp, h⟩
theorem claims_mk {ob : AObj} {β : Nat → Option Nat} {j b : Nat} (o : Nat) (h : ob ≠ .dead) (hb : β j = some b) : ob.claims β b o := by
 cases ob <;> first | exact absurd rfl h | exact ⟨_, hb⟩
def AObj.single : AObj → Bool
 | .nest .. => false
 | .trie .. => false
 | _ => true
theorem FR.notS0 {cx β st tmps w} (h : FR cx β st tmps w) {i j b : Nat} (hb : β i j = some b) (o : Nat) : ¬ cx.S0 b o := fun h0 => by
 obtain ⟨h1, h2⟩ := h.s0 b o h0
 exact h2 ((h.rng i j b hb).2 h1)
def updB (β : Nat → Nat → Option Nat) (n : Nat) (b : Option Nat) : Nat → Nat → Option Nat := fun i j => if i = n then (if j = 0 then b else none) else β i j
theorem updB_ne {β : Nat → Nat → Option Nat} {n : Nat} {b : Option Nat} {i : Nat} (h : i ≠ n) (j : Nat) : updB β n b i j = β i j := by simp [updB, h]
theorem updB_same {β : Nat → Nat → Option Nat} {n : Nat} {b : Option Nat} : updB β n b n 0 = b := by simp [updB]
theorem updB_succ {β : Nat → Nat → Option Nat} {n : Nat} {b : Option Nat} {j : Nat} : updB β n b n (j + 1) = none := by simp [updB]
theorem FR.newObj {cx β st tmps w w'} (h : FR cx β st tmps w) (ob : AObj) (blk : Option Nat) (hk : KeepL (fun _ => False) w w') (hd : ob ≠ .dead)
  (hblk : ∀ b, blk = some b → w.heap.size ≤ b ∧ b < w'.heap.size)
  (hob : ObjOk w' (cx.S (updB β st.objs.length blk) (st.objs ++ [ob])) (updB β st.objs.length blk) (st.objs ++ [ob]) st.objs.length ob) :
  FR cx (updB β st.objs.length blk) { st with objs := st.objs ++ [ob] } tmps w' := by
 have hlt : ∀ (i : Nat) (o : AObj), st.objs[i]? = some o → i < st.objs.length := fun i o ho => (List.getElem?_eq_some_iff.1 ho).1
 have hβn : ∀ i j b, β i j = some b → i ≠ st.objs.length := fun i j b hb e => by
  have := h.out i j (by rw [List.getElem?_eq_none_iff]; omega)
  rw [this] at hb; cases hb
 have hS : ∀ b o v, w.cell? ⟨b, o, none⟩ = some v → ¬ cx.S β st.objs b o → ¬ cx.S (updB β st.objs.length blk) (st.objs ++ [ob]) b o := fun b o v hc hn hs => by
  rcases hs with hs | ⟨i, ob1, h1, h2⟩
  ·exact hn (.inl hs)
  ·obtain ⟨h3, j4, h4⟩ := claims_block h2
   by_cases hi : i = st.objs.length
   ·subst hi
    cases j4 with
    | succ j4 => rw [updB_succ] at h4; cases h4
    | zero =>
    rw [updB_same] at h4
    have := (hblk b h4).1
    have := lt_of_cell? hc
    omega
   ·rw [updB_ne hi] at h4
    have hil : i < st.objs.length := by
     have := (List.getElem?_eq_some_iff.1 h1).1
     simp at this; omega
    rw [List.getElem?_append_left hil] at h1
    exact hn (.inr ⟨i, ob1, h1, claims_mk o h3 h4⟩)
 have hk' : Keeps (cx.S β st.objs) w w' := hk.keeps fun _ _ _ => id
 have hsh : ∀ r x, w.shape? r = some x → w'.shape? r = some x := fun r x hx => by
  rw [shape?_of_heap (hk.block r (lt_of_shape? hx) id)]; exact hx
 have hown : ArrKeep st.objs (st.objs ++ [ob]) := ArrKeep.of fun i o ho _ => by rw [List.getElem?_append_left (hlt _ _ ho)]; exact ho
 have hβ : ∀ i j b, β i j = some b → updB β st.objs.length blk i j = some b := fun i j b hb => by rw [updB_ne (hβn _ _ _ hb)]; exact hb
 have hβ0 : ∀ (i j : Nat) (o : AObj), st.objs[i]? = some o → β i j = none → updB β st.objs.length blk i j = none := fun i j o ho hb => by
  rw [updB_ne (Nat.ne_of_lt (hlt _ _ ho))]; exact hb
 refine ⟨h.keep.trans hk (fun _ _ _ => id), h.s0, fun i j i' j' b h1 h2 => ?_, fun i j b hb => ?_, fun i j ho => ?_, fun i o ho => ?_, h.size, fun t => ?_⟩
 ·by_cases hi : i = st.objs.length <;> by_cases hi' : i' = st.objs.length
  ·subst hi; subst hi'
   cases j <;> cases j' <;> simp [updB] at h1 h2 ⊢
  ·subst hi
   cases j with
   | succ j => simp [updB] at h1
   | zero =>
    rw [updB_same] at h1
    rw [updB_ne hi'] at h2
    have := (h.rng _ _ _ h2).1
    have := (hblk b h1).1
    omega
  ·subst hi'
   cases j' with
   | succ j => simp [updB] at h2
   | zero =>
    rw [updB_same] at h2
    rw [updB_ne hi] at h1
    have := (h.rng _ _ _ h1).1
    have := (hblk b h2).1
    omega
  ·rw [updB_ne hi] at h1
   rw [updB_ne hi'] at h2
   exact h.inj _ _ _ _ _ h1 h2
 ·by_cases hi : i = st.objs.length
  ·subst hi
   cases j with
   | succ j => simp [updB] at hb
   | zero =>
    rw [updB_same] at hb
    have := hblk b hb
    exact ⟨this.2, fun hlt => by have := h.keep.size; omega⟩
  ·rw [updB_ne hi] at hb
   exact ⟨Nat.lt_of_lt_of_le (h.rng i j b hb).1 hk.size, (h.rng i j b hb).2⟩
 ·have : i ≠ st.objs.length := fun e => by subst e; simp at ho
  rw [updB_ne this]
  exact h.out i j (by rw [List.getElem?_eq_none_iff] at ho ⊢; simp at ho; omega)
 ·by_cases hi : i = st.objs.length
  ·subst hi
   simp at ho
   subst ho
   exact hob
  ·have hil : i < st.objs.length := by
    have := (List.getElem?_eq_some_iff.1 ho).1
    simp at this; omega
   have ho' : st.objs[i]? = some o := by
    simpa [List.getElem?_append_left hil] using ho
   exact (h.objs i o ho').step hk' hS hown hβ hβ0 hsh (fun j => updB_ne hi j) (fun j b hb => hk.block b (h.rng i j b hb).1 id)
 ·exact (h.env t).step hk' hS hown hβ hβ0 hsh
theorem FR.mut {cx β st tmps w w'} (h : FR cx β st tmps w) {i : Nat} {ob : AObj} (ob' : AObj) {b : Nat} (hi : st.objs[i]? = some ob) (hb : β i 0 = some b) (hd : ob ≠ .dead) (hd' : ob' ≠ .dead)
  (hw : ∀ k, k ≠ b → w'.heap[k]? = w.heap[k]?) (hsz : w'.heap.size = w.heap.size) (hos : w'.os = w.os) (htape : w'.tape = w.tape) (hout : w'.output = w.output) (hdr : w.drawn ≤ w'.drawn)
  (hsh : ∀ r x, w.shape? r = some x → w'.shape? r = some x)
  (hown : ∀ (p : Pay) (nz : AI), ob = .arr p nz → ∃ p' : Pay, ob' = .arr p' nz ∧ p'.len = p.len ∧ p'.sz = p.sz)
  (hob : ObjOk w' (cx.S β st.objs) β (st.objs.set i ob') i ob') (hone : ob.single = true := by rfl) :
  FR cx β { st with objs := st.objs.set i ob' } tmps w' := by
 have hil : i < st.objs.length := (List.getElem?_eq_some_iff.1 hi).1
 have hSiff : ∀ b o, cx.S β st.objs b o ↔ cx.S β (st.objs.set i ob') b o := S_iff_of_claims fun k b o => by
  by_cases hk : k = i
  ·subst hk
   simp only [List.getElem?_set_self hil, hi, Option.some.injEq, exists_eq_left']
   constructor
   ·intro hc; exact claims_mk o hd' (claims_block hc).2.choose_spec
   ·intro hc; exact claims_mk o hd (claims_block hc).2.choose_spec
  ·simp only [List.getElem?_set_ne (Ne.symm hk)]
 have hSeq : cx.S β (st.objs.set i ob') = cx.S β st.objs := by funext b o; exact propext (hSiff b o).symm
 have hk' : Keeps (cx.S β st.objs) w w' := fun b' o v hn hc => by
  have : b' ≠ b := fun e => hn (.inr ⟨i, ob, hi, by subst e; exact claims_mk o hd hb⟩)
  rw [cell?_of_heap (hw b' this)]; exact hc
 have hownA : ArrKeep st.objs (st.objs.set i ob') := ⟨fun k p nz ho => by
  by_cases hk : k = i
  ·subst hk
   rw [hi] at ho
   obtain ⟨p', h1, h2, h3⟩ := hown p nz (Option.some.inj ho)
   exact ⟨p', by rw [List.getElem?_set_self hil, h1], h2, h3⟩
  ·exact ⟨p, by rw [List.getElem?_set_ne (Ne.symm hk)]; exact ho, rfl, rfl⟩, fun k rows hole gone ai e am ho => by
  by_cases hk : k = i
  ·subst hk
   rw [hi] at ho
   cases ho; cases hone
  ·rw [List.getElem?_set_ne (Ne.symm hk)]; exact ho, fun k m T ho => by
  by_cases hk : k = i
  ·subst hk
   rw [hi] at ho
   cases ho; cases hone
  ·exact ⟨T, by rw [List.getElem?_set_ne (Ne.symm hk)]; exact ho⟩⟩
 refine ⟨⟨hos.trans h.keep.os, htape.trans h.keep.tape, hout.trans h.keep.output, Nat.le_trans h.keep.drawn hdr, by rw [hsz]; exact h.keep.size, fun k hk hL => ?_⟩, h.s0, h.inj, fun k j b' hb' => by rw [hsz]; exact h.rng k j b' hb', fun k j ho => ?_, fun k o ho => ?_, h.size, fun t => ?_⟩
 ·rw [hw k (fun e => hL (by subst e; exact (h.rng i 0 k hb).2 hk))]
  exact h.keep.block k hk hL
 ·refine h.out k j ?_
  rw [List.getElem?_eq_none_iff] at ho ⊢
  simpa using ho
 ·simp only [hSeq]
  by_cases hk : k = i
  ·subst hk
   simp only [List.getElem?_set_self hil, Option.some.injEq] at ho
   subst ho
   exact hob
  ·simp only [List.getElem?_set_ne (Ne.symm hk)] at ho
   exact (h.objs k o ho).step hk' (fun _ _ _ _ => id) hownA (fun _ _ _ => id) (fun _ _ _ _ => id) hsh (fun _ => rfl)
    (fun j b' hb' => hw b' (fun e => hk (h.inj k j i 0 b (by rw [← e]; exact hb') hb).1))
 ·simp only [hSeq]
  exact (h.env t).step hk' (fun _ _ _ _ => id) hownA (fun _ _ _ => id) (fun _ _ _ _ => id) hsh
end Go.AM
end

section
namespace Go.AM
open Go
theorem ObjOk.mapH {w w' : World} {S S' : CellSet} {β β' : Nat → Nat → Option Nat} {objs objs' : List AObj} {f : AV → AV} {i : Nat} {o : AObj} (h : ObjOk w S β objs i o)
  (hf : ∀ av v, av.isH = true → TV w S β objs av v → TV w' S' β' objs' (f av) v) (hp : ∀ av v, PV w S av v → PV w' S' av v)
  (hβi : ∀ j, β' i j = β i j) (hblk : ∀ j b, β i j = some b → w'.heap[b]? = w.heap[b]?) : ObjOk w' S' β' objs' i (o.mapH f) := by
 cases o with
 | dead => exact fun j => (hβi j).trans (h j)
 | arr p nz =>
  obtain ⟨h1, h2, h3, h4⟩ := h
  refine ⟨h1, fun e => h2 (by rw [← hβi]; exact e), fun j => (hβi _).trans (h3 j), fun b hb => ?_⟩
  rw [hβi] at hb
  obtain ⟨⟨cur, h6, h7⟩, h8⟩ := h4 b hb
  have e0 := hblk 0 b hb
  refine ⟨⟨cur, by rw [e0]; exact h6, h7⟩, fun j c hc hj => ?_⟩
  obtain ⟨v, hv, hv'⟩ := h8 j c hc hj
  exact ⟨v, by rw [cell?_of_heap e0]; exact hv, hp _ _ hv'⟩
 | box cells =>
  obtain ⟨h0, b, hb, h1, h2⟩ := h
  have e0 := hblk 0 b hb
  refine ⟨fun j => (hβi _).trans (h0 j), b, (hβi _).trans hb, fun o => by rw [frozen?_of_heap e0]; exact h1 o, fun c hc => ?_⟩
  have hc' : c < cells.length := by simpa using hc
  obtain ⟨v, hv, hv'⟩ := h2 c hc'
  exact ⟨v, by rw [cell?_of_heap e0]; exact hv, by simpa using TV.mapH hf hp 3 _ _ hv'⟩
 | mapB kk m =>
  obtain ⟨h0, b, es, cl, hb, h1, h2⟩ := h
  exact ⟨fun j => (hβi _).trans (h0 j), b, es, cl, (hβi _).trans hb, by rw [hblk 0 b hb]; exact h1, h2⟩
 | mapI kk m =>
  obtain ⟨h0, b, es, cl, hb, h1, h2⟩ := h
  exact ⟨fun j => (hβi _).trans (h0 j), b, es, cl, (hβi _).trans hb, by rw [hblk 0 b hb]; exact h1, h2⟩
 | nest rows hole gone ai e2 am => exact NestOk.step h hβi hblk
 | trie m T => exact TrieOk.step h hβi hblk
def St.remap (f : AV → AV) (i : Nat) (ob : AObj) (st : St) : St := { st with env := mapE (AV.mapH f 3) st.env, objs := (st.objs.map (AObj.mapH f)).set i ob }
theorem mapH_dead {f : AV → AV} {o : AObj} : o.mapH f = .dead ↔ o = .dead := by cases o <;> simp [AObj.mapH]
theorem FR.remap {cx β st tmps w w'} (h : FR cx β st tmps w) {f : AV → AV} {i : Nat} {ob : AObj} (ob' : AObj) (blk : Option Nat) (hi : st.objs[i]? = some ob)
  (hkS : Keeps (cx.S β st.objs) w w') (hsize : w.heap.size ≤ w'.heap.size) (hkeep : KeepL cx.L cx.w0 w')
  (hS : ∀ b o v, w.cell? ⟨b, o, none⟩ = some v → ¬ cx.S β st.objs b o → ¬ cx.S (updB β i blk) (st.remap f i ob').objs b o)
  (hoth : ∀ k j b, k ≠ i → β k j = some b → w'.heap[b]? = w.heap[b]?)
  (hblk : ∀ b, blk = some b → b < w'.heap.size ∧ (b < cx.w0.heap.size → cx.L b) ∧ (∀ k j, k ≠ i → β k j ≠ some b))
  (hf : ∀ av v, av.isH = true → TV w (cx.S β st.objs) β st.objs av v → TV w' (cx.S (updB β i blk) (st.remap f i ob').objs) (updB β i blk) (st.remap f i ob').objs (f av) v)
  (hob : ObjOk w' (cx.S (updB β i blk) (st.remap f i ob').objs) (updB β i blk) (st.remap f i ob').objs i ob') :
  FR cx (updB β i blk) (st.remap f i ob') tmps w' := by
 have hil : i < st.objs.length := (List.getElem?_eq_some_iff.1 hi).1
 have hp : ∀ av v, PV w (cx.S β st.objs) av v → PV w' (cx.S (updB β i blk) (st.remap f i ob').objs) av v := fun av v h => h.keeps hkS hS
 refine ⟨hkeep, h.s0, fun k j k' j' b h1 h2 => ?_, fun k j b hb => ?_, fun k j ho => ?_, fun k o ho => ?_, h.size, fun t => ?_⟩
 ·by_cases hk : k = i <;> by_cases hk' : k' = i
  ·subst hk; subst hk'
   cases j <;> cases j' <;> simp [updB] at h1 h2 ⊢
  ·subst hk
   cases j with
   | succ j => simp [updB] at h1
   | zero => rw [updB_same] at h1; rw [updB_ne hk'] at h2; exact absurd h2 ((hblk b h1).2.2 _ _ hk')
  ·subst hk'
   cases j' with
   | succ j => simp [updB] at h2
   | zero => rw [updB_same] at h2; rw [updB_ne hk] at h1; exact absurd h1 ((hblk b h2).2.2 _ _ hk)
  ·rw [updB_ne hk] at h1
   rw [updB_ne hk'] at h2
   exact h.inj _ _ _ _ _ h1 h2
 ·by_cases hk : k = i
  ·subst hk
   cases j with
   | succ j => simp [updB] at hb
   | zero => rw [updB_same] at hb; exact ⟨(hblk b hb).1, (hblk b hb).2.1⟩
  ·rw [updB_ne hk] at hb
   exact ⟨Nat.lt_of_lt_of_le (h.rng k j b hb).1 hsize, (h.rng k j b hb).2⟩
 ·have hk : k ≠ i := fun e => by subst e; simp [St.remap, hil] at ho
  rw [updB_ne hk]
  refine h.out k j ?_
  rw [List.getElem?_eq_none_iff] at ho ⊢
  simpa [St.remap] using ho
 ·by_cases hk : k = i
  ·subst hk
   simp [St.remap, hil] at ho
   subst ho
   exact hob
  ·simp only [St.remap, List.getElem?_set_ne (Ne.symm hk), List.getElem?_map, Option.map_eq_some_iff] at ho
   obtain ⟨o1, ho1, rfl⟩ := ho
   exact (h.objs k o1 ho1).mapH hf hp (fun j => updB_ne hk j) (fun j b hb => hoth k j b hk hb)
 ·simp only [St.remap]
  rw [getE_mapE (by rfl)]
  exact TV.mapH hf hp 3 _ _ (h.env t)
theorem remap_claim {f : AV → AV} {st : St} {i : Nat} {ob' : AObj} {β : Nat → Nat → Option Nat} {blk : Option Nat} {b o : Nat} (hil : i < st.objs.length)
  (h : claim (updB β i blk) (st.remap f i ob').objs b o) : (ob' ≠ .dead ∧ blk = some b) ∨ (∃ (k : Nat) (ob : AObj), k ≠ i ∧ st.objs[k]? = some ob ∧ ob.claims (β k) b o) := by
 obtain ⟨k, ob, h1, h2⟩ := h
 obtain ⟨h3, j4, h4⟩ := claims_block h2
 by_cases hk : k = i
 ·subst hk
  simp [St.remap, hil] at h1
  subst h1
  cases j4 with
  | succ j4 => rw [updB_succ] at h4; cases h4
  | zero =>
  rw [updB_same] at h4
  exact .inl ⟨h3, h4⟩
 ·simp only [St.remap, List.getElem?_set_ne (Ne.symm hk), List.getElem?_map, Option.map_eq_some_iff] at h1
  obtain ⟨o1, ho1, rfl⟩ := h1
  rw [updB_ne hk] at h4
  exact .inr ⟨k, o1, hk, ho1, claims_mk o (fun e => h3 (mapH_dead.2 e)) h4⟩
theorem FR.rebase {cx β st tmps w w'} (h : FR cx β st tmps w) {i : Nat} {ob : AObj} (ob' : AObj) (b' : Nat) (hi : st.objs[i]? = some ob) (hd : ob ≠ .dead)
  (hold : β i 0 = some b' ∨ w.heap.size ≤ b') (hb' : b' < w'.heap.size)
  (hw : ∀ k, k < w.heap.size → β i 0 ≠ some k → w'.heap[k]? = w.heap[k]?) (hsize : w.heap.size ≤ w'.heap.size) (hos : w'.os = w.os) (htape : w'.tape = w.tape) (hout : w'.output = w.output) (hdr : w.drawn ≤ w'.drawn)
  (hsh : ∀ r x, w.shape? r = some x → w'.shape? r = some x)
  (hob : ObjOk w' (cx.S (updB β i (some b')) (st.remap (killL i) i ob').objs) (updB β i (some b')) (st.remap (killL i) i ob').objs i ob') :
  FR cx (updB β i (some b')) (st.remap (killL i) i ob') tmps w' := by
 have hil : i < st.objs.length := (List.getElem?_eq_some_iff.1 hi).1
 refine h.remap ob' (some b') hi (fun b o v hn hc => ?_) hsize ⟨hos.trans h.keep.os, htape.trans h.keep.tape, hout.trans h.keep.output, Nat.le_trans h.keep.drawn hdr, Nat.le_trans h.keep.size hsize, fun k hk hL => ?_⟩
  (fun b o v hc hn hs => ?_) (fun k j b hk hb => ?_) (fun b e => ?_) (fun av v hh ht => ?_) hob
 ·rw [cell?_of_heap (hw b (lt_of_cell? hc) (fun e => hn (.inr ⟨i, ob, hi, claims_mk o hd e⟩)))]; exact hc
 ·rw [hw k (Nat.lt_of_lt_of_le hk h.keep.size) (fun e => hL ((h.rng i 0 k e).2 hk))]
  exact h.keep.block k hk hL
 ·rcases hs with hs | hs
  ·exact hn (.inl hs)
  ·rcases remap_claim hil hs with ⟨_, e⟩ | ⟨k, o1, hk, ho1, hc1⟩
   ·cases e
    rcases hold with h1 | h1
    ·exact hn (.inr ⟨i, ob, hi, claims_mk o hd h1⟩)
    ·have := lt_of_cell? hc; omega
   ·exact hn (.inr ⟨k, o1, ho1, hc1⟩)
 ·exact hw b (h.rng k j b hb).1 (fun e => hk (h.inj _ _ _ _ _ hb e).1)
 ·cases e
  refine ⟨hb', fun hlt => ?_, fun k j hk e => ?_⟩
  ·rcases hold with h1 | h1
   ·exact (h.rng _ _ _ h1).2 hlt
   ·have := h.keep.size; omega
  ·rcases hold with h1 | h1
   ·exact hk (h.inj _ _ _ _ _ e h1).1
   ·have := (h.rng _ _ _ e).1; omega
 ·refine TV.stepH hh ht (fun k p nz hk ho => ⟨p, ?_, rfl, rfl⟩) (fun k rows hole gone ai e am hk ho => ?_) (fun k m T hk ho => ⟨T, ?_⟩) (fun k j hk => updB_ne hk j) hsh
  all_goals
   simp only [St.remap, List.getElem?_set_ne (Ne.symm hk), List.getElem?_map, ho]
   rfl
theorem TV.toPV {w : World} {S S' : CellSet} {β : Nat → Nat → Option Nat} {objs : List AObj} (hs : ∀ b o v, w.cell? ⟨b, o, none⟩ = some v → ¬ S b o → ¬ S' b o) :
  ∀ (d : Nat) (av : AV) (v : Value), TV w S β objs av v → PV w S' (av.mapH (fun _ => .junk) d) v := by
 intro d
 induction d with
 | zero =>
  intro av v h
  cases av <;> unfold AV.mapH <;> simp only [] <;> first
   | exact .junk _
   | (cases h with | pure h => exact h.keeps (Keeps.refl _ _) hs)
 | succ d ih =>
  intro av v h
  cases av <;> unfold AV.mapH <;> simp only [] <;> first
   | exact .junk _
   | (cases h with
      | pure h => cases h with
       | agg hl hr => exact .agg (by simpa using hl) (fun c hc => by simpa using ih _ _ (.pure (hr c (by simpa using hc))))
      | agg hl hr => exact .agg (by simpa using hl) (fun c hc => by simpa using ih _ _ (hr c (by simpa using hc))))
   | (cases h with
      | pure h => cases h with
       | tup hl hr => exact .tup (by simpa using hl) (fun c hc => by simpa using ih _ _ (.pure (hr c (by simpa using hc))))
      | tup hl hr => exact .tup (by simpa using hl) (fun c hc => by simpa using ih _ _ (hr c (by simpa using hc))))
   | (cases h with
      | pure h => cases h with
       | clo hl hr => exact .clo (by simpa using hl) (fun c hc => by simpa using ih _ _ (.pure (hr c (by simpa using hc))))
      | clo hl hr => exact .clo (by simpa using hl) (fun c hc => by simpa using ih _ _ (hr c (by simpa using hc))))
   | (cases h with
      | pure h => cases h with
       | hbox hsp hc hS hr => exact .hbox hsp hc (hs _ _ _ hc hS) (ih _ _ (.pure hr))
      | hbox hsp hc hS hr => exact .hbox hsp hc (hs _ _ _ hc hS) (ih _ _ hr))
   | (cases h with | pure h => exact h.keeps (Keeps.refl _ _) hs)
theorem isArr (ob : AObj) : (∃ p nz, ob = .arr p nz) ∨ ∀ p nz, ob ≠ .arr p nz := by cases ob <;> simp
theorem isBox (ob : AObj) : (∃ cells, ob = .box cells) ∨ ∀ cells, ob ≠ .box cells := by cases ob <;> simp
theorem rowV_pay {w : World} {S' : CellSet} {e2 : TypeId} {β : Option Nat} {r : List Int} {v : Value} (h : RowV w e2 β r v) (hc : ∀ b, β = some b → ∃ cur, w.heap[b]? = some (.cells cur e2 (0, 0)) ∧ ∀ k, k < r.length → cur[k]? = some (.int .i64 (r.getD k 0)))
  (hS : ∀ b o, β = some b → ¬ S' b o) : PV w S' (.pay (.ints .i64 r) false) v := by
 obtain ⟨a, cap, rfl, h2, h3, h4⟩ := h
 cases hβ : β with
 | none =>
  obtain ⟨rfl, rfl⟩ := h3 hβ
  have : r = [] := List.eq_nil_of_length_eq_zero (by omega)
  subst this
  exact .pay ⟨0, 0, none⟩ (fun _ _ => .bool false) rfl (Nat.le_refl _) (Pay.wf_ints _ _) (fun e => by cases e) (fun e => absurd rfl e) rfl (fun j c hj => by simp at hj) (fun j c hj => by simp at hj) (fun j c _ hj => by simp at hj)
 | some b =>
  obtain ⟨rfl, _, _⟩ := h4 b hβ
  obtain ⟨cur, g1, g2⟩ := hc b hβ
  refine .pay ⟨b, 0, none⟩ (fun j _ => .int .i64 (r.getD j 0)) rfl h2 (Pay.wf_ints _ _) (fun e => by cases e) (fun _ => rfl) rfl (fun j c hj hc => ?_) (fun j c hj hc => hS _ _ hβ) (fun j c hc hj => ?_)
  ·simp only [Pay.sz] at hc
   have hc0 : c = 0 := by omega
   subst hc0
   simp only [Pay.sz, Nat.mul_one, Nat.add_zero, Nat.zero_add, World.cell?, g1]
   exact g2 j hj
  ·simp only [Pay.at, List.length_singleton] at hc
   have hc0 : c = 0 := by omega
   subst hc0
   exact .int _ _
theorem frz_handle {cx β st tmps w} (h : FR cx β st tmps w) {i : Nat} {ob : AObj} (hi : st.objs[i]? = some ob) {S' : CellSet} (hS' : ∀ b o, S' b o → cx.S β st.objs b o) (hSi : ∀ j b o, β i j = some b → ¬ S' b o)
  {av : AV} {v : Value} (hh : av.isH = true) (ht : TV w (cx.S β st.objs) β st.objs av v) :
  (∃ av', frzL i ob av = av' ∧ PV w S' av' v) ∨ (frzL i ob av = killL i av) := by
 have hs : ∀ b o v, w.cell? ⟨b, o, none⟩ = some v → ¬ cx.S β st.objs b o → ¬ S' b o := fun b o _ _ hn hs => hn (hS' _ _ hs)
 rcases isH_cases hh with ⟨k, rfl⟩ | ⟨k, o, rfl⟩ | ⟨k, j, c, rfl⟩ | ⟨k, rfl⟩ | ⟨k, x, rfl⟩ <;> unfold frzL killL <;> rcases beq_cases k i with ⟨e, rfl⟩ | ⟨e, hne⟩ <;> simp only [e] <;> first
  | exact .inr trivial
  | exact .inr rfl
  | exact .inl ⟨_, rfl, .junk _⟩
  | skip
 ·left
  rcases isArr ob with ⟨p, nz, rfl⟩ | hna
  case inr => refine ⟨_, rfl, ?_⟩; cases ob <;> first | exact .junk _ | exact absurd rfl (hna _ _)
  refine ⟨_, rfl, ?_⟩
  obtain ⟨h1, h2, h3, h4⟩ := h.objs k _ hi
  cases ht with
  | pure h => cases h
  | @own _ p' nz' a len cap ho hlen hnz hn hb =>
   rw [hi] at ho
   cases ho
   cases hβ : β k 0 with
   | none =>
    have hp0 := h2 hβ
    have := hn hβ
    refine .pay ⟨0, 0, none⟩ (fun _ _ => .bool false) hlen (by omega) h1 hnz (fun hc => absurd (hlen ▸ hp0) hc) rfl (fun j c hj => ?_) (fun j c hj => ?_) (fun j c hc hj => ?_) <;> omega
   | some b =>
    obtain ⟨e1, e2, _⟩ := hb b hβ
    obtain ⟨h6, h7⟩ := h4 b hβ
    have hcell : ∀ j c, j < len → c < p.sz → ∃ v, w.cell? ⟨b, j * p.sz + c, none⟩ = some v ∧ ∀ h : c < (p.at j).length, PV w (cx.S β st.objs) ((p.at j)[c]) v := fun j c hj hc => by
     have hc' : c < (p.at j).length := by rw [h1 j (by omega)]; exact hc
     obtain ⟨v, hv, hv'⟩ := h7 j c hc' (by omega)
     exact ⟨v, hv, fun _ => hv'⟩
    refine .pay ⟨b, 0, none⟩ (fun j c => (w.cell? ⟨b, j * p.sz + c, none⟩).getD (.bool false)) hlen e2 h1 hnz (fun _ => e1) rfl (fun j c hj hc => ?_) (fun j c hj hc => hSi _ _ _ hβ) (fun j c hc hj => ?_)
    ·obtain ⟨v, hv, _⟩ := hcell j c hj hc
     simp [hv]
    ·obtain ⟨v, hv, hv'⟩ := h7 j c hc (by omega)
     simp only [hv, Option.getD_some]
     exact hv'.keeps (Keeps.refl _ _) hs
 ·left
  rcases isBox ob with ⟨cells, rfl⟩ | hna
  case inr => refine ⟨_, rfl, ?_⟩; cases ob <;> first | exact .junk _ | exact absurd rfl (hna _)
  refine ⟨_, rfl, ?_⟩
  obtain ⟨_, b, hb, h1, h2⟩ := h.objs k _ hi
  cases ht with
  | pure h => cases h
  | ref hb' =>
   rw [hb] at hb'
   cases hb'
   refine .fref (fun c => (w.cell? ⟨b, o + c, none⟩).getD (.bool false)) rfl (fun c hc => ?_) (fun c hc => hSi _ _ _ hb) (fun c hc => ?_)
   ·simp at hc
    obtain ⟨v, hv, _⟩ := h2 (o + c) (by omega)
    simp [hv]
   ·simp at hc
    obtain ⟨v, hv, hv'⟩ := h2 (o + c) (by omega)
    simp only [hv, Option.getD_some, List.getElem_drop, List.getElem_map]
    exact TV.toPV hs 3 _ _ hv'
 ·left
  rcases isArr ob with ⟨p, nz, rfl⟩ | hna
  case inr => refine ⟨_, rfl, ?_⟩; cases ob <;> first | exact .junk _ | exact absurd rfl (hna _ _)
  refine ⟨_, rfl, ?_⟩
  obtain ⟨h1, h2, h3, h4⟩ := h.objs k _ hi
  cases ht with
  | pure h => cases h
  | @eref _ _ _ b p' nz' ho hb hj =>
   rw [hi] at ho
   cases ho
   obtain ⟨h6, h7⟩ := h4 b hb
   refine .fref (fun x => (w.cell? ⟨b, j * p.sz + c + x, none⟩).getD (.bool false)) rfl (fun x hx => ?_) (fun x hx => hSi _ _ _ hb) (fun x hx => ?_)
   ·simp at hx
    obtain ⟨v, hv, _⟩ := h7 j (c + x) (by omega) hj
    have e : j * p.sz + c + x = j * p.sz + (c + x) := by omega
    simp only [e, hv, Option.getD_some]
   ·simp at hx
    obtain ⟨v, hv, hv'⟩ := h7 j (c + x) (by omega) hj
    have e : j * p.sz + c + x = j * p.sz + (c + x) := by omega
    simp only [e, hv, Option.getD_some, List.getElem_drop]
    exact hv'.keeps (Keeps.refl _ _) hs
 ·left
  refine ⟨_, rfl, ?_⟩
  cases ht with
  | pure h => cases h
  | @mh _ _ o _ ho hm =>
   rw [hi] at ho
   cases ho
   cases ob with
   | nest rows hole gone ai e2 am =>
    obtain ⟨n1, n2, n3, n4⟩ := h.objs k _ hi
    have row : ∀ j u, nestV rows hole gone j → RowV w e2 (β k (j + 1)) (rows.getD j []) u → PV w S' (.pay (.ints .i64 (rows.getD j [])) false) u := fun j u hj hr => by
     refine rowV_pay hr (fun b hb => ?_) (fun b o hb => hSi _ b o hb)
     obtain ⟨cur, g1, _, g3⟩ := n4 j b hj hb
     exact ⟨cur, g1, g3⟩
    cases x with
    | ref => exact .junk _
    | cell j => exact .junk _
    | row j => exact row _ _ hm.1 hm.2
    | own =>
     cases hole with
     | some _ => exact .junk _
     | none =>
      cases gone with
      | succ _ => exact .junk _
      | zero =>
       cases am with
       | true => exact .junk _
       | false =>
        obtain ⟨_, a, cap, rfl, m2, m3, m4⟩ := hm
        cases hβ : β k 0 with
        | none =>
         have := n1 hβ
         subst this
         obtain ⟨rfl, rfl⟩ := m3 hβ
         exact .pay ⟨0, 0, none⟩ (fun _ _ => .bool false) rfl (Nat.le_refl _) (Pay.wf_rows _) (fun _ _ => rfl) (fun e => absurd rfl e) rfl (fun j c hj => by simp at hj) (fun j c hj => by simp at hj) (fun j c _ hj => by simp at hj)
        | some b =>
         obtain ⟨rfl, m5, _, _⟩ := m4 b hβ
         obtain ⟨cur, g1, g2, g3⟩ := n3 b hβ
         have hv : ∀ j, j < rows.length → nestV rows none 0 j := fun j hj => ⟨Nat.zero_le _, hj, by simp⟩
         refine .pay ⟨b, 0, none⟩ (fun j _ => cur[j]!) rfl m5 (Pay.wf_rows _) (fun e h0 => m2 e h0) (fun _ => rfl) rfl (fun j c hj hc => ?_) (fun j c hj hc => hSi _ _ _ hβ) (fun j c hc hj => ?_)
         ·simp only [Pay.sz] at hc
          have hc0 : c = 0 := by omega
          subst hc0
          have hlt : j < cur.size := by omega
          simp only [Pay.sz, Nat.mul_one, Nat.add_zero, Nat.zero_add, World.cell?, g1]
          rw [getElem!_pos cur j hlt]
          simp [hlt]
         ·simp only [Pay.at, List.length_singleton] at hc
          have hc0 : c = 0 := by omega
          subst hc0
          simp only [Pay.at, List.getElem_cons_zero]
          exact row j _ (hv j hj) (g3 j (hv j hj))
    | agg =>
     cases hole with
     | some _ => exact .junk _
     | none =>
      cases gone with
      | succ _ => exact .junk _
      | zero =>
       obtain ⟨vs, rfl, m2, m3⟩ := hm
       refine .aggp (Pay.wf_rows _) (by simp [Pay.len, Pay.sz, m2]) (fun j c hc hj => ?_)
       simp only [Pay.at, List.length_singleton] at hc
       have hc0 : c = 0 := by omega
       subst hc0
       simp only [Pay.at, List.getElem_cons_zero, Pay.sz, Nat.mul_one, Nat.add_zero]
       exact row j _ ⟨Nat.zero_le _, hj, by simp⟩ (m3 j ⟨Nat.zero_le _, hj, by simp⟩)
    | _ => exact .junk _
   | arr p ai => exact .junk _
   | trie m T => exact .junk _
   | _ => exact hm.elim
theorem FR.freeze {cx β st tmps w} (h : FR cx β st tmps w) {i : Nat} {ob : AObj} (hi : st.objs[i]? = some ob) :
  FR cx (updB β i none) (st.remap (frzL i ob) i .dead) tmps w := by
 have hil : i < st.objs.length := (List.getElem?_eq_some_iff.1 hi).1
 have hS' : ∀ b o, cx.S (updB β i none) (st.remap (frzL i ob) i .dead).objs b o → cx.S β st.objs b o := fun b o hs => by
  rcases hs with hs | hs
  ·exact .inl hs
  ·rcases remap_claim hil hs with ⟨e, _⟩ | ⟨k, o1, hk, ho1, hc1⟩
   ·exact absurd rfl e
   ·exact .inr ⟨k, o1, ho1, hc1⟩
 have hSi : ∀ j b o, β i j = some b → ¬ cx.S (updB β i none) (st.remap (frzL i ob) i .dead).objs b o := fun j b o hb hs => by
  rcases hs with hs | hs
  ·exact h.notS0 hb o hs
  ·rcases remap_claim hil hs with ⟨e, _⟩ | ⟨k, o1, hk, ho1, hc1⟩
   ·exact absurd rfl e
   ·exact hk (h.inj _ _ _ _ _ (claims_block hc1).2.choose_spec hb).1
 refine h.remap .dead none hi (Keeps.refl _ _) (Nat.le_refl _) h.keep (fun b o v _ hn hs => hn (hS' b o hs)) (fun _ _ _ _ _ => rfl) (fun b e => by cases e) (fun av v hh ht => ?_) (fun j => by cases j <;> simp [updB])
 rcases frz_handle h hi hS' hSi hh ht with ⟨av', e, hp⟩ | e
 ·rw [e]; exact .pure hp
 ·rw [e]
  refine TV.stepH hh ht (fun k p nz hk ho => ⟨p, ?_, rfl, rfl⟩) (fun k rows hole gone ai e am hk ho => ?_) (fun k m T hk ho => ⟨T, ?_⟩) (fun k j hk => updB_ne hk j) (fun _ _ => id)
  all_goals
   simp only [St.remap, List.getElem?_set_ne (Ne.symm hk), List.getElem?_map, ho]
   rfl
end Go.AM
end

section
namespace Go.AM
open Go
inductive TK where
 | int (k : IntKind) | bool | str | slice (e : TypeId) | ptr (e : TypeId) | struct (fs : List (Nat × TypeId)) | array (n : Nat) (e : TypeId)
 | map (k e : TypeId) | func | iface | other
 deriving Inhabited
structure TyI where
 sz : Nat
 bytes : Nat
 k : TK
 zero : AV
 deriving Inhabited
def TK.agg : TK → Bool
 | .struct _ | .array _ _ => true
 | _ => false
def TKok : TypeDesc → TK → Prop
 | .int k, .int k' => k = k'
 | .bool, .bool => True
 | .string, .str => True
 | .slice e, .slice e' => e = e'
 | .pointer e, .ptr e' => e = e'
 | .struct fields, .struct fs => fields.toList.map (fun f => (f.offset, f.type)) = fs
 | .array n e, .array n' e' => n = n' ∧ e = e'
 | .map k e, .map k' e' => k = k' ∧ e = e'
 | .func _ _ _, .func => True
 | .interface _, .iface => True
 | _, _ => False
abbrev avOf : Value → AV := ofConst
structure TyOk1 (P : Program) (t : TypeId) (i : TyI) : Prop where
 info : ∃ inf, P.info? t = some inf ∧ inf.size = i.sz ∧ inf.bytes = i.bytes ∧ ∃ z, inf.zero = some z ∧ avOf z = i.zero
 und : ∃ d, P.underlying t = some d ∧ TKok d i.k
abbrev Tys := Nat → Option TyI
def TyOk (P : Program) (T : Tys) : Prop := ∀ t i, T t = some i → TyOk1 P t i
theorem avOf_PV (w : World) (S : CellSet) (v : Value) : PV w S (avOf v) v := ofConst_PV w S v
section
variable {P : Program} {T : Tys} {t : TypeId} {i : TyI}
theorem TyOk.typeInfo (hT : TyOk P T) (ht : T t = some i) : ∃ inf, inf.size = i.sz ∧ inf.bytes = i.bytes ∧ (∃ z, inf.zero = some z ∧ avOf z = i.zero) ∧ ∀ w, (typeInfo t).run P w = .ok inf w := by
 obtain ⟨inf, h1, h2, h3, h4⟩ := (hT t i ht).info
 exact ⟨inf, h2, h3, h4, fun w => by simp [Go.typeInfo, program, h1, Sem.run, bind, Sem.bind, pure]⟩
theorem TyOk.sizeOf (hT : TyOk P T) (ht : T t = some i) (w : World) : (sizeOf t).run P w = .ok i.sz w := by
 obtain ⟨inf, h1, _, _, h2⟩ := hT.typeInfo ht
 simp [Go.sizeOf, h2, h1]
theorem TyOk.underlying (hT : TyOk P T) (ht : T t = some i) : ∃ d, TKok d i.k ∧ ∀ w, (underlying t).run P w = .ok d w := by
 obtain ⟨d, h1, h2⟩ := (hT t i ht).und
 exact ⟨d, h2, fun w => run_underlying h1 w⟩
theorem TyOk.isAgg (hT : TyOk P T) (ht : T t = some i) (w : World) : (isAgg t).run P w = .ok i.k.agg w := by
 obtain ⟨d, h1, h2⟩ := hT.underlying ht
 have key : ∀ (d : TypeDesc) (k : TK), TKok d k → (match d with | .struct _ | .array _ _ => true | _ => false) = k.agg := by
  intro d k h
  cases d <;> cases k <;> first | rfl | exact h.elim
 unfold Go.isAgg
 rw [Sem.run_bind, h2]
 have := key d i.k h1
 clear h1 h2
 cases d <;> (simp only [] at this; rw [← this]; rfl)
theorem TyOk.zeroValue (hT : TyOk P T) (ht : T t = some i) : ∃ z, avOf z = i.zero ∧ ∀ w, (zeroValue t).run P w = .ok z w := by
 obtain ⟨inf, h1, _, ⟨z, h3, h4⟩, h2⟩ := hT.typeInfo ht
 exact ⟨z, h4, fun w => by simp [Go.zeroValue, h2, h3]⟩
end
inductive PR where
 | no
 | val (v : AV)
 | gval (g : Prop) (v : AV)
def emptyPay (T : Tys) (t : TypeId) : Option Pay :=
 match T t with
 | some { k := .slice e, .. } => match T e with
  | some { k := .int k, .. } => some (.ints k [])
  | some { k := .bool, .. } => some (.bools [])
  | some { k := .str, .. } => some (.strs [])
  | some { k := .slice e', sz, .. } => match T e' with
   | some { k := .int .i64, .. } => some (.rows [])
   | _ => some (.gen sz [])
  | some { sz, .. } => some (.gen sz [])
  | none => none
 | _ => none
def coerce (T : Tys) (t : TypeId) (av : AV) : AV :=
 match av with
 | .lit (.slice none 0 0) => match emptyPay T t with
  | some p => .pay p true
  | none => av
 | _ => av
theorem emptyPay_len {T : Tys} {t : TypeId} {p : Pay} (h : emptyPay T t = some p) : p.len = 0 := by
 unfold emptyPay at h
 repeat' (split at h)
 all_goals first | (cases h; rfl) | cases h
theorem PV.empty {w : World} {S : CellSet} {p : Pay} (h : p.len = 0) (nz : Bool) : PV w S (.pay p nz) (.slice none 0 0) :=
 .pay ⟨0, 0, none⟩ (fun _ _ => .bool false) h (Nat.le_refl _) (fun j hj => by omega) (fun _ _ => rfl) (fun h => absurd rfl h) rfl (fun j c hj => by omega) (fun j c hj => by omega) (fun j c _ hj => by omega)
theorem TV.coerce {w S β objs} {T : Tys} {t : TypeId} {av : AV} {v : Value} (h : TV w S β objs av v) : TV w S β objs (coerce T t av) v := by
 unfold AM.coerce
 split
 ·split
  ·rename_i p hp
   cases h with
   | pure h => cases h with
    | lit => exact .pure (PV.empty (emptyPay_len hp) true)
  ·exact h
 ·exact h
def Cls (s : Bool) (S : CellSet) (w w' : World) : Prop :=
 match s with
 | true => Keeps S w w'
 | false => KeepL (fun _ => False) w w'
theorem Cls.refl (s S w) : Cls s S w w := by cases s; exact KeepL.refl _ _; exact Keeps.refl _ _
theorem Cls.keeps {s S w w'} (h : Cls s S w w') : Keeps S w w' := by
 cases s with
 | true => exact h
 | false => exact KeepL.keeps h fun _ _ _ => id
def PRok (P : Program) (s : Bool) (S : CellSet) (β : Nat → Nat → Option Nat) (objs : List AObj) (w : World) (m : Sem Value) : PR → Prop
 | .no => True
 | .val v => ∃ cv, (∀ w', Cls s S w w' → m.run P w' = .ok cv w') ∧ TV w S β objs v cv
 | .gval g v => g → ∃ cv, (∀ w', Cls s S w w' → m.run P w' = .ok cv w') ∧ TV w S β objs v cv
def binA (op : BinOp) (x y : AV) : PR :=
 match x, y with
 | .int k a, .int k' b => match op with
  | .shl => .gval (0 ≤ b) (.int k (k.wrap (a * 2 ^ (min b.toNat k.bits))))
  | .shr => .gval (0 ≤ b) (.int k (a.fdiv (2 ^ (min b.toNat k.bits))))
  | _ => match decide (k = k') with
   | false => .no
   | true => match op with
    | .add => .val (.int k (k.wrap (a + b)))
    | .sub => .val (.int k (k.wrap (a - b)))
    | .mul => .val (.int k (k.wrap (a * b)))
    | .eql => .val (.bool (a == b))
    | .neq => .val (.bool (a != b))
    | .lss => .val (.bool (decide (a < b)))
    | .leq => .val (.bool (decide (a ≤ b)))
    | .gtr => .val (.bool (decide (b < a)))
    | .geq => .val (.bool (decide (b ≤ a)))
    | .quo => .gval (b ≠ 0) (.int k (k.wrap (a.tdiv b)))
    | .rem => .gval (b ≠ 0) (.int k (a.tmod b))
    | .and => .val (.int k (k.wrap ((BitVec.ofInt k.bits a &&& BitVec.ofInt k.bits b).toNat)))
    | .or => .val (.int k (k.wrap ((BitVec.ofInt k.bits a ||| BitVec.ofInt k.bits b).toNat)))
    | .xor => .val (.int k (k.wrap ((BitVec.ofInt k.bits a ^^^ BitVec.ofInt k.bits b).toNat)))
    | _ => .no
 | .str a, .str b => match op with
  | .eql => .val (.bool (a.toList == b.toList))
  | .neq => .val (.bool (!(a.toList == b.toList)))
  | .add => .gval (a.size + b.size ≤ 9223372036854775807) (.str (a ++ b))
  | _ => .no
 | _, _ => .no
theorem binA_ok {P : Program} {s S β objs w} (op : BinOp) (t : TypeId) (x y : AV) (vx vy : Value) (hx : TV w S β objs x vx) (hy : TV w S β objs y vy) :
  PRok P s S β objs w (binOp op t vx vy) (binA op x y) := by
 unfold binA
 split
 ·rename_i k a k' b
  cases hx with | pure hx => cases hx with | int =>
  cases hy with | pure hy => cases hy with | int =>
  split
  ·intro hb
   refine ⟨_, fun w' _ => ?_, .pure (.int _ _)⟩
   simp [binOp, Op.shift, Int.not_lt.2 hb]
  ·intro hb
   refine ⟨_, fun w' _ => ?_, .pure (.int _ _)⟩
   simp [binOp, Op.shift, Int.not_lt.2 hb]
  ·rename_i h1 h2
   split
   ·trivial
   ·rename_i hk
    have hk : k = k' := by simpa using hk
    subst hk
    cases op <;> simp only [PRok] <;> first
     | trivial
     | exact absurd rfl h1
     | exact absurd rfl h2
     | (intro hb; refine ⟨_, fun w' _ => ?_, .pure (.int _ _)⟩; simp [binOp, Op.intDiv, hb]; done)
     | (refine ⟨_, fun w' _ => ?_, .pure (.int _ _)⟩; simp [binOp, Op.intArith]; done)
     | (refine ⟨_, fun w' _ => ?_, .pure (.int _ _)⟩; simp [binOp, Op.intBits]; done)
     | (refine ⟨_, fun w' _ => ?_, .pure (.bool _)⟩; simp [binOp, Op.intCmp]; done)
 ·rename_i a b
  cases hx with | pure hx => cases hx with | str =>
  cases hy with | pure hy => cases hy with | str =>
  cases op <;> simp only [PRok] <;> first
   | trivial
   | (refine ⟨_, fun w' _ => ?_, .pure (.bool _)⟩; simp [binOp, Op.stringOp]; done)
   | (intro hs
      have hm : IntKind.i64.max = 9223372036854775807 := by decide
      exact ⟨_, fun w' _ => by
       simp only [binOp, Op.stringOp]
       rw [if_neg (by rw [hm]; omega)]; rfl, .pure (.str _)⟩)
 ·trivial
end Go.AM
end

section
namespace Go.AM
open Go
theorem addr_add (b o : Nat) (n : Nat) : (⟨b, o, none⟩ : Addr).add n = ⟨b, o + n, none⟩ := by
 unfold Addr.add; split
 ·next h => subst h; rfl
 ·rfl
theorem addr_eq {ad : Addr} (h : ad.spot = none) : ad = ⟨ad.block, ad.off, none⟩ := by cases ad; simp_all
structure CellsAt (w : World) (R : World → AV → Value → Prop) (b o : Nat) (cells : List AV) where
 mk ::
 out : ∀ c (h : c < cells.length), ∃ v, w.cell? ⟨b, o + c, none⟩ = some v ∧ R w (cells[c]) v
def loadCellsA (T : Tys) (t : TypeId) (cells : List AV) : PR :=
 match T t with
 | some i => match i.k.agg with
  | true => match Nat.ble i.sz cells.length with
   | true => .val (.agg (cells.take i.sz))
   | false => .no
  | false => match cells with
   | c :: _ => .val c
   | [] => .no
 | none => .no
theorem loadCellsA_ok {P : Program} {T : Tys} (hT : TyOk P T) {s S β objs w} (t : TypeId) (cells : List AV) (b o : Nat) (vs : Nat → Value)
  (hc : ∀ w', Cls s S w w' → ∀ c, c < cells.length → w'.cell? ⟨b, o + c, none⟩ = some (vs c)) (hr : ∀ c (h : c < cells.length), TV w S β objs (cells[c]) (vs c)) :
  PRok P s S β objs w (loadVar t ⟨b, o, none⟩) (loadCellsA T t cells) := by
 unfold loadCellsA
 split
 ·rename_i i hti
  have ha := fun w => hT.isAgg hti w
  have hz := fun w => hT.sizeOf hti w
  split
  ·rename_i hagg
   split
   ·rename_i hle
    have hle : i.sz ≤ cells.length := Nat.le_of_ble_eq_true hle
    refine ⟨.agg ((List.range i.sz).map vs).toArray, fun w' hw' => ?_, .agg (by simp [hle]) (fun c h => ?_)⟩
    ·unfold loadVar
     simp only [Sem.run_bind, ha, hagg, Result.andThen, if_true, hz, Sem.run_pure]
     rw [run_loadCells w' ⟨b, o, none⟩ i.sz vs (fun j hj => by rw [addr_add]; exact hc w' hw' j (by omega))]
    ·simp only [List.length_take] at h
     have h := Nat.lt_min.1 h
     have e : ((List.range i.sz).map vs).toArray[c]! = vs c := by simp [h.1]
     rw [e]
     simp only [List.getElem_take]
     exact hr c h.2
   ·trivial
  ·rename_i hagg
   split
   ·rename_i c r
    refine ⟨vs 0, fun w' hw' => ?_, hr 0 (by simp)⟩
    unfold loadVar
    have := hc w' hw' 0 (by simp)
    simp only [Nat.add_zero] at this
    simp [ha, hagg, this]
   ·trivial
 ·trivial
def loadA (T : Tys) (s : Bool) (objs : List AObj) (t : TypeId) (x : AV) : PR :=
 match x with
 | .fref cells => loadCellsA T t cells
 | .hbox x => loadCellsA T t [x]
 | .ref i off => match s with
  | true => .no
  | false => match objs[i]? with
   | some (.box cells) => loadCellsA T t (cells.drop off)
   | some (.arr p _) => match off, T t with
    | 0, some { k := .array _ _, sz, .. } => .gval (p.len * p.sz = sz) (.aggp p)
    | _, _ => .no
   | _ => .no
 | .eref i j c => match s with
  | true => .no
  | false => match objs[i]? with
   | some (.arr p _) => loadCellsA T t ((p.at j).drop c)
   | _ => .no
 | .mh i x => match s with
  | true => .no
  | false => match x with
   | .cell j => match objs[i]?, T t with
    | some (.nest _ none gone _ _ _), some { k := .slice _, .. } => match gone with
     | 0 => .val (.mh i (.row j))
     | gone + 1 => .gval (gone + 1 ≤ j) (.mh i (.row j))
    | _, _ => .no
   | .ref => match objs[i]?, T t with
    | some (.nest rows _ _ _ _ _), some { k := .array _ _, sz, .. } => .gval (rows.length = sz) (.mh i .agg)
    | _, _ => .no
   | .tw b => match objs[i]?, T t with
    | some (.trie _ T'), some { k := .bool, .. } => .gval (inT T' b) (.bool (wordT T' b))
    | _, _ => .no
   | .ts b x => match objs[i]?, T t with
    | some (.trie m T'), some { k := .ptr _, .. } => .gval (inT T' b ∧ x < m) (.mh i (.tn (chT T' b x)))
    | _, _ => .no
   | .tx b => match objs[i]?, T t with
    | some (.trie m T'), some { k := .array _ _, sz, .. } => .gval (inT T' b ∧ m = sz) (.mh i (.tk (kidsT T' b m)))
    | _, _ => .no
   | _ => .no
 | _ => .no
theorem loadA_ok {P : Program} {T : Tys} (hT : TyOk P T) {s cx β st tmps w} (h : FR cx β st tmps w) (t : TypeId) (x : AV) (v : Value) (hx : TV w (cx.S β st.objs) β st.objs x v) :
  PRok P s (cx.S β st.objs) β st.objs w (Instr.loadAt t v) (loadA T s st.objs t x) := by
 unfold loadA
 split
 ·rename_i cells
  cases hx with | pure hx => cases hx with | @fref _ ad vs hsp hc hS hr =>
  have e := addr_eq hsp
  have : Instr.loadAt t (.pointer (some ad)) = loadVar t ⟨ad.block, ad.off, none⟩ := by rw [← e]; rfl
  rw [this]
  exact loadCellsA_ok hT t cells ad.block ad.off vs (fun w' hw' c hcl => hw'.keeps _ _ _ (hS c hcl) (hc c hcl)) (fun c hcl => .pure (hr c hcl))
 ·rename_i x
  have core : ∀ {ad : Addr} {u : Value}, ad.spot = none → w.cell? ⟨ad.block, ad.off, none⟩ = some u → ¬ cx.S β st.objs ad.block ad.off → TV w (cx.S β st.objs) β st.objs x u → PRok P s (cx.S β st.objs) β st.objs w (Instr.loadAt t (.pointer (some ad))) (loadCellsA T t [x]) := fun {ad u} hsp hc hS hr => by
   have e := addr_eq hsp
   have : Instr.loadAt t (.pointer (some ad)) = loadVar t ⟨ad.block, ad.off, none⟩ := by rw [← e]; rfl
   rw [this]
   refine loadCellsA_ok hT t [x] ad.block ad.off (fun _ => u) (fun w' hw' c hcl => ?_) (fun c hcl => ?_)
   ·obtain rfl : c = 0 := by simpa using hcl
    exact hw'.keeps _ _ _ hS hc
   ·obtain rfl : c = 0 := by simpa using hcl
    exact hr
  cases hx with
  | pure hx => cases hx with | hbox hsp hc hS hr => exact core hsp hc hS (.pure hr)
  | hbox hsp hc hS hr => exact core hsp hc hS hr
 ·rename_i i off
  split
  ·trivial
  ·rename_i hs
   cases hx with | pure hx => cases hx | @ref _ _ b hb =>
   have hk : ∀ w', Cls false (cx.S β st.objs) w w' → ∀ o, w'.cell? ⟨b, o, none⟩ = w.cell? ⟨b, o, none⟩ := fun w' hw' o => cell?_of_heap (KeepL.block hw' b (h.rng i 0 b hb).1 id)
   split
   ·rename_i cells hi
    obtain ⟨_, b', hb', _, h2⟩ := h.objs i _ hi
    rw [hb] at hb'
    cases hb'
    refine loadCellsA_ok hT t (cells.drop off) b off (fun c => (w.cell? ⟨b, off + c, none⟩).getD (.bool false)) (fun w' hw' c hc => ?_) (fun c hc => ?_)
    ·simp at hc
     obtain ⟨v, hv, _⟩ := h2 (off + c) (by omega)
     rw [hk w' hw', hv]; rfl
    ·simp at hc
     obtain ⟨v, hv, hv'⟩ := h2 (off + c) (by omega)
     simp only [hv, Option.getD_some, List.getElem_drop]
     exact hv'
   ·rename_i p nz hi
    split
    ·rename_i sz bytes n e zero hti
     intro hlen
     obtain ⟨h1, _, _, h4⟩ := h.objs i _ hi
     obtain ⟨_, h8⟩ := h4 b hb
     refine ⟨.agg ((List.range sz).map fun x => (w.cell? ⟨b, x, none⟩).getD (.bool false)).toArray, fun w' hw' => ?_, .pure (.aggp h1 (by simp [hlen]) (fun j c hc hj => ?_))⟩
     ·have ha := fun w => hT.isAgg hti w
      have hz := fun w => hT.sizeOf hti w
      simp only [TK.agg] at ha
      unfold Instr.loadAt Instr.sureAddr loadVar
      simp only [Sem.run_bind, ha, Result.andThen, if_true, hz, Sem.run_pure]
      rw [run_loadCells w' ⟨b, 0, none⟩ sz (fun x => (w.cell? ⟨b, x, none⟩).getD (.bool false)) (fun j hj => ?_)]
      ·rw [addr_add, Nat.zero_add, hk w' hw']
       have hsz : 0 < p.sz := by rcases Nat.eq_zero_or_pos p.sz with h | h; rw [h] at hlen; omega; exact h
       have hj' : j / p.sz < p.len := by rw [Nat.div_lt_iff_lt_mul hsz]; omega
       obtain ⟨v, hv, _⟩ := h8 (j / p.sz) (j % p.sz) (by rw [h1 _ hj']; exact Nat.mod_lt _ hsz) hj'
       rw [show j / p.sz * p.sz + j % p.sz = j from Nat.div_add_mod' j p.sz] at hv
       rw [hv]; rfl
     ·obtain ⟨v, hv, hv'⟩ := h8 j c hc hj
      have hc' : c < p.sz := by rw [← h1 j hj]; exact hc
      have hlt : j * p.sz + c < sz := by
       rw [← hlen]
       calc j * p.sz + c < j * p.sz + p.sz := by omega
        _ = (j + 1) * p.sz := by rw [Nat.add_mul, Nat.one_mul]
        _ ≤ p.len * p.sz := Nat.mul_le_mul_right _ hj
      have e : ((List.range sz).map fun x => (w.cell? ⟨b, x, none⟩).getD (.bool false)).toArray[j * p.sz + c]! = v := by
       simp [hlt, hv]
      rw [e]; exact hv'
    ·trivial
   ·trivial
 ·rename_i i j c
  split
  ·trivial
  ·split
   ·rename_i p nz hi
    cases hx with | pure hx => cases hx | @eref _ _ _ b p' nz' ho hb hj =>
    rw [hi] at ho
    cases ho
    obtain ⟨h1, _, _, h4⟩ := h.objs i _ hi
    obtain ⟨_, h8⟩ := h4 b hb
    refine loadCellsA_ok hT t ((p.at j).drop c) b (j * p.sz + c) (fun x => (w.cell? ⟨b, j * p.sz + c + x, none⟩).getD (.bool false)) (fun w' hw' x hx => ?_) (fun x hx => ?_)
    ·simp at hx
     obtain ⟨v, hv, _⟩ := h8 j (c + x) (by omega) hj
     rw [cell?_of_heap (KeepL.block hw' b (h.rng i 0 b hb).1 id), show j * p.sz + c + x = j * p.sz + (c + x) by omega, hv]; rfl
    ·simp at hx
     obtain ⟨v, hv, hv'⟩ := h8 j (c + x) (by omega) hj
     simp only [show j * p.sz + c + x = j * p.sz + (c + x) by omega, hv, Option.getD_some, List.getElem_drop]
     exact .pure hv'
   ·trivial
 ·rename_i i x
  split
  ·trivial
  ·cases hx with | pure hx => cases hx | @mh _ _ o _ ho hm =>
   split
   ·rename_i j
    split
    ·rename_i rows gone ai e2 am sz bytes e zero hi hti
     rw [hi] at ho
     cases ho
     have go : gone ≤ j → ∃ cv, (∀ w', Cls false (cx.S β st.objs) w w' → (Instr.loadAt t v).run P w' = .ok cv w') ∧ TV w (cx.S β st.objs) β st.objs (.mh i (.row j)) cv := fun hg => by
      obtain ⟨b, hβ, hj, rfl⟩ := hm
      obtain ⟨_, _, n3, _⟩ := h.objs i _ hi
      obtain ⟨cur, q1, q2, q3⟩ := n3 b hβ
      have hv : nestV rows none gone j := ⟨hg, hj, by simp⟩
      refine ⟨cur[j]!, fun w' hw' => ?_, .mh hi ⟨hv, q3 j hv⟩⟩
      have ha := fun w => hT.isAgg hti w
      have hz := fun w => hT.sizeOf hti w
      have hc : w'.cell? ⟨b, j, none⟩ = some (cur[j]!) := by
       rw [cell?_of_heap (KeepL.block hw' b (h.rng i 0 b hβ).1 id)]
       have : j < cur.size := by omega
       simp [World.cell?, q1, this]
      unfold Instr.loadAt Instr.sureAddr loadVar
      simp [ha, TK.agg, hc]
     split
     ·exact go (Nat.zero_le _)
     ·exact go
    ·trivial
   ·split
    ·rename_i rows hole gone ai e2 am sz bytes n e zero hi hti
     rw [hi] at ho
     cases ho
     intro hlen
     obtain ⟨_, b, hβ, rfl⟩ := hm
     obtain ⟨_, _, n3, _⟩ := h.objs i _ hi
     obtain ⟨cur, q1, q2, q3⟩ := n3 b hβ
     refine ⟨.agg ((List.range sz).map fun x => cur[x]!).toArray, fun w' hw' => ?_, .mh hi ⟨_, rfl, by simp [hlen], fun j hj => ?_⟩⟩
     ·have ha := fun w => hT.isAgg hti w
      have hz := fun w => hT.sizeOf hti w
      simp only [TK.agg] at ha
      unfold Instr.loadAt Instr.sureAddr loadVar
      simp only [Sem.run_bind, ha, Result.andThen, if_true, hz, Sem.run_pure]
      rw [run_loadCells w' ⟨b, 0, none⟩ sz (fun x => cur[x]!) (fun j hj => ?_)]
      rw [addr_add, Nat.zero_add, cell?_of_heap (KeepL.block hw' b (h.rng i 0 b hβ).1 id)]
      have : j < cur.size := by omega
      simp [World.cell?, q1, this]
     ·have : j < sz := by have := hj.2.1; omega
      simp [this]
      simpa using q3 j hj
    ·trivial
   ·rename_i b
    split
    ·rename_i m T' sz bytes zero hi hti
     rw [hi] at ho
     cases ho
     intro hin
     obtain ⟨nd, e1, e2, rfl⟩ := inT_nd hin
     have hm : v = .pointer (some ⟨nd.blk, 0, none⟩) := hm
     subst hm
     have hTr : TrieOk w (β i) m T' := h.objs i _ hi
     obtain ⟨q1, q2, q3⟩ := hTr.cur nd e2
     have hbl : nd.blk < w.heap.size := lt_of_cell? q2
     have ha := fun w => hT.isAgg hti w
     have ew : wordT T' nd.blk = nd.word := by simp [wordT, e1]
     refine ⟨.bool nd.word, fun w' hw' => ?_, by rw [ew]; exact .pure (.bool _)⟩
     have hc : w'.cell? ⟨nd.blk, 0, none⟩ = some (.bool nd.word) := by
      rw [cell?_of_heap (KeepL.block hw' nd.blk hbl id)]
      exact q2
     unfold Instr.loadAt Instr.sureAddr loadVar
     simp [ha, TK.agg, hc]
    ·trivial
   ·rename_i b x
    split
    ·rename_i m T' sz bytes e0 zero hi hti
     rw [hi] at ho
     cases ho
     rintro ⟨hin, hx⟩
     obtain ⟨nd, e1, e2, rfl⟩ := inT_nd hin
     have hm : v = .pointer (some ⟨nd.blk, 1 + x, none⟩) := hm
     subst hm
     have hTr : TrieOk w (β i) m T' := h.objs i _ hi
     obtain ⟨q1, q2, q3⟩ := hTr.cur nd e2
     have hbl : nd.blk < w.heap.size := lt_of_cell? q2
     have ha := fun w => hT.isAgg hti w
     have ew : chT T' nd.blk x = kidT T' nd.path x := by simp [chT, e1]
     refine ⟨nodeV (kidT T' nd.path x), fun w' hw' => ?_, by rw [ew]; exact .mh hi rfl⟩
     have hc : w'.cell? ⟨nd.blk, 1 + x, none⟩ = some (nodeV (kidT T' nd.path x)) := by
      rw [cell?_of_heap (KeepL.block hw' nd.blk hbl id)]
      exact q3 x hx
     unfold Instr.loadAt Instr.sureAddr loadVar
     simp [ha, TK.agg, hc]
    ·trivial
   ·rename_i b
    split
    ·rename_i m T' sz bytes n e0 zero hi hti
     rw [hi] at ho
     cases ho
     rintro ⟨hin, rfl⟩
     obtain ⟨nd, e1, e2, rfl⟩ := inT_nd hin
     have hm : v = .pointer (some ⟨nd.blk, 1, none⟩) := hm
     subst hm
     have hTr : TrieOk w (β i) m T' := h.objs i _ hi
     obtain ⟨q1, q2, q3⟩ := hTr.cur nd e2
     have hbl : nd.blk < w.heap.size := lt_of_cell? q2
     refine ⟨.agg ((List.range m).map fun x => nodeV (kidT T' nd.path x)).toArray, fun w' hw' => ?_, .mh hi ?_⟩
     ·have ha := fun w => hT.isAgg hti w
      have hz := fun w => hT.sizeOf hti w
      simp only [TK.agg] at ha
      unfold Instr.loadAt Instr.sureAddr loadVar
      simp only [Sem.run_bind, ha, Result.andThen, if_true, hz, Sem.run_pure]
      rw [run_loadCells w' ⟨nd.blk, 1, none⟩ m (fun x => nodeV (kidT T' nd.path x)) (fun j hj => ?_)]
      rw [addr_add, cell?_of_heap (KeepL.block hw' nd.blk hbl id)]
      exact q3 j hj
     ·show _ = Value.agg ((kidsT T' nd.blk m).map nodeV).toArray
      congr 2
      simp [kidsT, chT, e1]
    ·trivial
   ·trivial
 ·trivial
end Go.AM
end

section
namespace Go.AM
open Go
theorem PV.fref_drop {w S} {cells : List AV} {ad : Addr} (h : PV w S (.fref cells) (.pointer (some ad))) (k : Nat) : PV w S (.fref (cells.drop k)) (.pointer (some (ad.add k))) := by
 cases h with
 | fref vs hsp hc hS hr =>
  have e : ad.add k = ⟨ad.block, ad.off + k, none⟩ := by
   have := addr_eq hsp
   rw [this]; exact addr_add _ _ _
  rw [e]
  refine .fref (fun c => vs (k + c)) rfl (fun c h => ?_) (fun c h => ?_) (fun c h => ?_)
  ·simp at h
   simp only [Nat.add_assoc]
   exact hc (k + c) (by omega)
  ·simp at h
   simp only [Nat.add_assoc]
   exact hS (k + c) (by omega)
  ·simp at h
   simp only [List.getElem_drop]
   exact hr (k + c) (by omega)
def fieldAddrA (T : Tys) (t : TypeId) (f : Nat) (x : AV) : PR :=
 match T t with
 | some { k := .struct fs, .. } => match fs[f]? with
  | some (off, ft) => match T ft with
   | some { sz := _ + 1, .. } => match x with
    | .fref cells => .val (.fref (cells.drop off))
    | .ref i o => .val (.ref i (o + off))
    | .eref i j c => .val (.eref i j (c + off))
    | .mh i (.tn o) => match off with
     | 0 => .gval (o.isSome = true) (.mh i (.tw (o.getD 0)))
     | 1 => .gval (o.isSome = true) (.mh i (.tx (o.getD 0)))
     | _ => .no
    | _ => .no
   | _ => .no
  | none => .no
 | _ => .no
theorem run_fieldAt {P : Program} {T : Tys} (hT : TyOk P T) {t : TypeId} {f : Nat} {sz bytes off : Nat} {fs : List (Nat × TypeId)} {zero : AV} {ft : TypeId} {n by' : Nat} {k : TK} {zf : AV}
  (ht : T t = some { sz, bytes, k := .struct fs, zero }) (hf : fs[f]? = some (off, ft)) (hft : T ft = some { sz := n + 1, bytes := by', k, zero := zf }) (a : Addr) (w : World) :
  (Instr.fieldAt t (.pointer (some a)) f).run P w = .ok (.pointer (some (a.add off))) w := by
 obtain ⟨d, h1, h2⟩ := hT.underlying ht
 cases d <;> simp only [TKok] at h1
 rename_i fields
 have hz := fun w => hT.sizeOf hft w
 have hfi : ∃ fd, fields[f]? = some fd ∧ fd.offset = off ∧ fd.type = ft := by
  rw [← h1] at hf
  simp only [List.getElem?_map, Option.map_eq_some_iff] at hf
  obtain ⟨fd, h3, h4⟩ := hf
  simp only [Prod.mk.injEq] at h4
  exact ⟨fd, by rw [← Array.getElem?_toList]; exact h3, h4.1, h4.2⟩
 obtain ⟨fd, h3, rfl, rfl⟩ := hfi
 unfold Instr.fieldAt
 rw [Sem.run_bind, h2]
 simp only [Result.andThen, h3]
 simp [Instr.sureAddr, fieldPlace, hz]
theorem fieldAddrA_ok {P : Program} {T : Tys} (hT : TyOk P T) {s S β objs w} (t : TypeId) (f : Nat) (x : AV) (v : Value) (hx : TV w S β objs x v) :
  PRok P s S β objs w (Instr.fieldAt t v f) (fieldAddrA T t f x) := by
 unfold fieldAddrA
 split
 ·rename_i sz bytes fs zero ht
  split
  ·rename_i off ft hf
   split
   ·rename_i n by' k zf hft
    have hrun := fun a w => run_fieldAt hT ht hf hft a w
    split
    ·cases hx with | pure hx => cases hx with | fref vs hsp hc hS hr =>
     exact ⟨_, fun w' _ => hrun _ w', .pure (PV.fref_drop (.fref vs hsp hc hS hr) off)⟩
    ·cases hx with | pure hx => cases hx | ref hb =>
     exact ⟨_, fun w' _ => hrun _ w', by rw [addr_add]; exact .ref hb⟩
    ·cases hx with | pure hx => cases hx | eref ho hb hj =>
     exact ⟨_, fun w' _ => hrun _ w', by rw [addr_add, Nat.add_assoc]; exact .eref ho hb hj⟩
    ·rename_i i o
     obtain ⟨m, T', ho, hm⟩ := hx.trieH (.inl ⟨_, rfl⟩)
     have hv : v = nodeV o := hm
     cases o with
     | none => split <;> first | trivial | (intro h; cases h)
     | some b =>
      subst hv
      split
      ·intro _
       exact ⟨_, fun w' _ => hrun ⟨b, 0, none⟩ w', .mh ho rfl⟩
      ·intro _
       exact ⟨_, fun w' _ => hrun ⟨b, 0, none⟩ w', .mh ho rfl⟩
      ·trivial
    ·trivial
   ·trivial
  ·trivial
 ·trivial
def indexAddrA (T : Tys) (objs : List AObj) (t : TypeId) (x ix : AV) : PR :=
 match T t, ix with
 | some { k := .slice e, .. }, .int _ n => match T e with
  | some ei => match x with
   | .pay p _ => match Nat.beq ei.sz p.sz with
    | true => .gval (0 ≤ n ∧ n < (p.len : Int)) (.fref (p.at n.toNat))
    | false => .no
   | .own i => match objs[i]? with
    | some (.arr p _) => match Nat.beq ei.sz p.sz with
     | true => .gval (0 ≤ n ∧ n < (p.len : Int)) (.eref i n.toNat 0)
     | false => .no
    | _ => .no
   | .mh i .own => match objs[i]? with
    | some (.nest rows _ _ _ _ _) => match Nat.beq ei.sz 1 with
     | true => .gval (0 ≤ n ∧ n < (rows.length : Int)) (.mh i (.cell n.toNat))
     | false => .no
    | _ => .no
   | .mh i (.sub k) => match objs[i]? with
    | some (.arr p _) => match Nat.beq ei.sz p.sz with
     | true => .gval (0 ≤ n ∧ n < (p.len : Int) - (k : Int)) (.eref i (k + n.toNat) 0)
     | false => .no
    | _ => .no
   | _ => .no
  | none => .no
 | some { k := .array m e, .. }, .int _ n => match T e with
  | some ei => match x with
   | .fref cells => match decide (0 ≤ n ∧ n < (m : Int)) with
    | true => .val (.fref (cells.drop (n.toNat * ei.sz)))
    | false => .no
   | .ref i o => match objs[i]? with
    | some (.box _) => match decide (0 ≤ n ∧ n < (m : Int)) with
     | true => .val (.ref i (o + n.toNat * ei.sz))
     | false => .no
    | some (.arr p _) => match o, Nat.beq ei.sz p.sz with
     | 0, true => .gval ((0 ≤ n ∧ n < (m : Int)) ∧ n < (p.len : Int)) (.eref i n.toNat 0)
     | _, _ => .no
    | _ => .no
   | .eref i j c => match decide (0 ≤ n ∧ n < (m : Int)) with
    | true => .val (.eref i j (c + n.toNat * ei.sz))
    | false => .no
   | .mh i .ref => match objs[i]? with
    | some (.nest rows _ _ _ _ _) => match Nat.beq ei.sz 1 with
     | true => .gval ((0 ≤ n ∧ n < (m : Int)) ∧ n < (rows.length : Int)) (.mh i (.cell n.toNat))
     | false => .no
    | _ => .no
   | .mh i (.tx b) => match Nat.beq ei.sz 1 with
    | true => .gval (0 ≤ n ∧ n < (m : Int)) (.mh i (.ts b n.toNat))
    | false => .no
   | _ => .no
  | none => .no
 | _, _ => .no
theorem run_indexAt_slice {P : Program} {T : Tys} (hT : TyOk P T) {t e : TypeId} {sz bytes : Nat} {zero : AV} {ei : TyI} (ht : T t = some { sz, bytes, k := .slice e, zero }) (he : T e = some ei)
  {k : IntKind} {n : Int} {a : Addr} {len cap : Nat} (hn : 0 ≤ n ∧ n < (len : Int)) (w : World) :
  (Instr.indexAt t (.slice (some a) len cap) (.int k n)).run P w = .ok (.pointer (some (a.add (n.toNat * ei.sz)))) w := by
 obtain ⟨d, h1, h2⟩ := hT.underlying ht
 cases d <;> simp only [TKok] at h1
 subst h1
 have hz := fun w => hT.sizeOf he w
 unfold Instr.indexAt
 simp [asIntOf, h2, hz, hn.1, hn.2]
theorem run_indexAt_array {P : Program} {T : Tys} (hT : TyOk P T) {t e : TypeId} {sz bytes m : Nat} {zero : AV} {ei : TyI} (ht : T t = some { sz, bytes, k := .array m e, zero }) (he : T e = some ei)
  {k : IntKind} {n : Int} {a : Addr} (hn : 0 ≤ n ∧ n < (m : Int)) (w : World) :
  (Instr.indexAt t (.pointer (some a)) (.int k n)).run P w = .ok (.pointer (some (a.add (n.toNat * ei.sz)))) w := by
 obtain ⟨d, h1, h2⟩ := hT.underlying ht
 cases d <;> simp only [TKok] at h1
 obtain ⟨rfl, rfl⟩ := h1
 have hz := fun w => hT.sizeOf he w
 unfold Instr.indexAt
 simp [asIntOf, h2, hz, hn.1, hn.2, Instr.sureAddr]
theorem indexAddrA_ok {P : Program} {T : Tys} (hT : TyOk P T) {s cx β st tmps w} (h : FR cx β st tmps w) (t : TypeId) (x ix : AV) (vx vi : Value)
  (hx : TV w (cx.S β st.objs) β st.objs x vx) (hi : TV w (cx.S β st.objs) β st.objs ix vi) :
  PRok P s (cx.S β st.objs) β st.objs w (Instr.indexAt t vx vi) (indexAddrA T st.objs t x ix) := by
 unfold indexAddrA
 split
 ·rename_i sz bytes e zero k n ht
  cases hi with | pure hi => cases hi with | int =>
  split
  ·rename_i ei he
   split
   ·rename_i p nz
    split
    ·rename_i hsz
     have hsz : ei.sz = p.sz := Nat.eq_of_beq_eq_true hsz
     intro hn
     cases hx with | pure hx => cases hx with | @pay _ _ a len cap ad vs hlen hcap hwf hnz had hsp hc hS hr =>
     have hne : len ≠ 0 := by omega
     obtain rfl := had hne
     rw [hlen] at hn
     refine ⟨_, fun w' _ => run_indexAt_slice hT ht he hn w', .pure ?_⟩
     have hj : n.toNat < len := by omega
     have e1 : ad.add (n.toNat * ei.sz) = ⟨ad.block, ad.off + n.toNat * p.sz, none⟩ := by rw [addr_eq hsp, addr_add, hsz]
     rw [e1]
     have hw := hwf n.toNat (by omega)
     refine .fref (vs n.toNat) rfl (fun c hcl => ?_) (fun c hcl => ?_) (fun c hcl => hr n.toNat c hcl hj)
     ·rw [Nat.add_assoc]; exact hc _ _ hj (by omega)
     ·rw [Nat.add_assoc]; exact hS _ _ hj (by omega)
    ·trivial
   ·rename_i i
    split
    ·rename_i p nz ho
     split
     ·rename_i hsz
      have hsz : ei.sz = p.sz := Nat.eq_of_beq_eq_true hsz
      intro hn
      cases hx with | pure hx => cases hx | @own _ p' nz' a len cap ho' hlen hnz hbn hb =>
      rw [ho] at ho'
      cases ho'
      cases hβ : β i 0 with
      | none =>
       obtain ⟨_, h2, _⟩ := h.objs i _ ho
       have := h2 hβ
       omega
      | some b =>
       obtain ⟨rfl, _, _⟩ := hb b hβ
       rw [hlen] at hn
       refine ⟨_, fun w' _ => run_indexAt_slice hT ht he hn w', ?_⟩
       rw [addr_add, Nat.zero_add, hsz]
       exact .eref (c := 0) ho hβ (by omega)
     ·trivial
    ·trivial
   ·rename_i i
    split
    ·rename_i rows hole gone ai e2 am ho
     split
     ·rename_i hsz
      have hsz : ei.sz = 1 := Nat.eq_of_beq_eq_true hsz
      intro hn
      cases hx with | pure hx => cases hx | mh ho' hm =>
      rw [ho] at ho'
      cases ho'
      obtain ⟨_, a, cap, rfl, h2, h3, h4⟩ := hm
      cases hβ : β i 0 with
      | none =>
       have := (h.objs i _ ho).1 hβ
       subst this
       simp at hn; omega
      | some b =>
       obtain ⟨rfl, _, _⟩ := h4 b hβ
       refine ⟨_, fun w' _ => run_indexAt_slice hT ht he hn w', ?_⟩
       rw [addr_add, Nat.zero_add, hsz, Nat.mul_one]
       exact .mh ho ⟨b, hβ, by omega, rfl⟩
     ·trivial
    ·trivial
   ·rename_i i k'
    split
    ·rename_i p ai ho
     split
     ·rename_i hsz
      have hsz : ei.sz = p.sz := Nat.eq_of_beq_eq_true hsz
      intro hn
      cases hx with | pure hx => cases hx | mh ho' hm =>
      rw [ho] at ho'
      cases ho'
      obtain ⟨h1, h2, b, cap, h3, h4, rfl⟩ := hm
      refine ⟨_, fun w' _ => run_indexAt_slice hT ht he (by omega) w', ?_⟩
      have e : (⟨b, k', none⟩ : Addr).add (n.toNat * ei.sz) = ⟨b, (k' + n.toNat) * p.sz + 0, none⟩ := by rw [addr_add, hsz, h1]; simp
      rw [e]
      exact .eref ho h3 (by omega)
     ·trivial
    ·trivial
   ·trivial
  ·trivial
 ·rename_i sz bytes m e zero k n ht
  cases hi with | pure hi => cases hi with | int =>
  split
  ·rename_i ei he
   split
   ·rename_i cells
    split
    ·rename_i hn
     have hn := of_decide_eq_true hn
     cases hx with | pure hx => cases hx with | fref vs hsp hc hS hr =>
     exact ⟨_, fun w' _ => run_indexAt_array hT ht he hn w', .pure (PV.fref_drop (.fref vs hsp hc hS hr) _)⟩
    ·trivial
   ·rename_i i o
    split
    ·split
     ·rename_i hn
      have hn := of_decide_eq_true hn
      cases hx with | pure hx => cases hx | ref hb =>
      exact ⟨_, fun w' _ => run_indexAt_array hT ht he hn w', by rw [addr_add]; exact .ref hb⟩
     ·trivial
    ·rename_i p nz ho
     split
     ·rename_i hsz
      have hsz : ei.sz = p.sz := Nat.eq_of_beq_eq_true hsz
      intro hn
      cases hx with | pure hx => cases hx | ref hb =>
      refine ⟨_, fun w' _ => run_indexAt_array hT ht he hn.1 w', ?_⟩
      rw [addr_add, Nat.zero_add, hsz]
      exact .eref (c := 0) ho hb (by omega)
     ·trivial
    ·trivial
   ·rename_i i j c
    split
    ·rename_i hn
     have hn := of_decide_eq_true hn
     cases hx with | pure hx => cases hx | eref ho hb hj =>
     exact ⟨_, fun w' _ => run_indexAt_array hT ht he hn w', by rw [addr_add, Nat.add_assoc]; exact .eref ho hb hj⟩
    ·trivial
   ·rename_i i
    split
    ·rename_i rows hole gone ai e2 am ho
     split
     ·rename_i hsz
      have hsz : ei.sz = 1 := Nat.eq_of_beq_eq_true hsz
      intro hn
      cases hx with | pure hx => cases hx | mh ho' hm =>
      rw [ho] at ho'
      cases ho'
      obtain ⟨_, b, hβ, rfl⟩ := hm
      refine ⟨_, fun w' _ => run_indexAt_array hT ht he hn.1 w', ?_⟩
      rw [addr_add, Nat.zero_add, hsz, Nat.mul_one]
      exact .mh ho ⟨b, hβ, by omega, rfl⟩
     ·trivial
    ·trivial
   ·rename_i i b
    split
    ·rename_i hsz
     have hsz : ei.sz = 1 := Nat.eq_of_beq_eq_true hsz
     intro hn
     obtain ⟨m', T', ho, hm⟩ := hx.trieH (.inr (.inr (.inl ⟨_, rfl⟩)))
     have hm : vx = .pointer (some ⟨b, 1, none⟩) := hm
     subst hm
     refine ⟨_, fun w' _ => run_indexAt_array hT ht he hn w', ?_⟩
     rw [addr_add, hsz, Nat.mul_one]
     exact .mh ho rfl
    ·trivial
   ·trivial
  ·trivial
 ·trivial
end Go.AM
end

section
namespace Go.AM
open Go
def partA (T : Tys) (t : TypeId) (cells : List AV) : PR := loadCellsA T t cells
theorem part_run {P : Program} {T : Tys} (hT : TyOk P T) {s S β objs w} (t : TypeId) (cells : List AV) (cs : Array Value) (off : Nat)
  (hl : off + cells.length ≤ cs.size) (hr : ∀ c (h : c < cells.length), TV w S β objs (cells[c]) (cs[off + c]!)) :
  PRok P s S β objs w (part t cs off) (partA T t cells) := by
 unfold partA loadCellsA
 split
 ·rename_i i hti
  have ha := fun w => hT.isAgg hti w
  have hz := fun w => hT.sizeOf hti w
  split
  ·rename_i hagg
   split
   ·rename_i hle
    have hle : i.sz ≤ cells.length := Nat.le_of_ble_eq_true hle
    refine ⟨.agg (cs.extract off (off + i.sz)), fun w' _ => ?_, .agg (by simp; omega) (fun c h => ?_)⟩
    ·unfold part
     simp [ha, hagg, hz]
    ·simp only [List.length_take] at h
     have h := Nat.lt_min.1 h
     have e : (cs.extract off (off + i.sz))[c]! = cs[off + c]! := by
      have h1 : c < (cs.extract off (off + i.sz)).size := by simp; omega
      have h2 : off + c < cs.size := by omega
      rw [getElem!_pos (cs.extract off (off + i.sz)) c h1, getElem!_pos cs (off + c) h2]
      simp
     rw [e]
     simp only [List.getElem_take]
     exact hr c h.2
   ·trivial
  ·rename_i hagg
   split
   ·rename_i c r
    have h0 : off < cs.size := by simp at hl; omega
    refine ⟨cs[off]!, fun w' _ => ?_, by have := hr 0 (by simp); rw [Nat.add_zero] at this; exact this⟩
    unfold part
    simp [ha, hagg, h0]
   ·trivial
 ·trivial
def fieldA (T : Tys) (t : TypeId) (f : Nat) (x : AV) : PR :=
 match T t with
 | some { k := .struct fs, .. } => match fs[f]? with
  | some (off, ft) => match x with
   | .agg cells => match Nat.ble off cells.length with
    | true => partA T ft (cells.drop off)
    | false => .no
   | _ => .no
  | none => .no
 | _ => .no
theorem fieldA_ok {P : Program} {T : Tys} (hT : TyOk P T) {s S β objs w} (t : TypeId) (f : Nat) (x : AV) (v : Value) (hx : TV w S β objs x v) :
  PRok P s S β objs w (Instr.field t v f) (fieldA T t f x) := by
 unfold fieldA
 split
 ·rename_i sz bytes fs zero ht
  split
  ·rename_i off ft hf
   split
   ·rename_i cells
    obtain ⟨d, h1, h2⟩ := hT.underlying ht
    cases d <;> simp only [TKok] at h1
    rename_i fields
    have hfi : ∃ fd, fields[f]? = some fd ∧ fd.offset = off ∧ fd.type = ft := by
     rw [← h1] at hf
     simp only [List.getElem?_map, Option.map_eq_some_iff] at hf
     obtain ⟨fd, h3, h4⟩ := hf
     simp only [Prod.mk.injEq] at h4
     exact ⟨fd, by rw [← Array.getElem?_toList]; exact h3, h4.1, h4.2⟩
    obtain ⟨fd, h3, rfl, rfl⟩ := hfi
    have hv : ∃ cs : Array Value, v = .agg cs ∧ cells.length = cs.size ∧ ∀ c (h : c < cells.length), TV w S β objs (cells[c]) (cs[c]!) := by
     cases hx with
     | pure hx => cases hx with
      | agg hl hr => exact ⟨_, rfl, hl, fun c h => .pure (hr c h)⟩
     | agg hl hr => exact ⟨_, rfl, hl, hr⟩
    obtain ⟨cs, rfl, hl, hr⟩ := hv
    have key := part_run (P := P) hT (s := s) (S := S) (β := β) (objs := objs) (w := w) fd.type (cells.drop fd.offset) cs fd.offset
    split
    ·rename_i hle
     have hle := Nat.le_of_ble_eq_true hle
     have := key (by simp; omega) (fun c h => by simp at h; simpa using hr (fd.offset + c) (by omega))
     revert this
     unfold Instr.field
     generalize partA T fd.type (cells.drop fd.offset) = r
     cases r with
     | no => exact id
     | val av =>
      rintro ⟨cv, hcv, htv⟩
      refine ⟨cv, fun w' hw' => ?_, htv⟩
      rw [Sem.run_bind, h2]
      simp only [Result.andThen, h3]
      simp [asAgg, hcv w' hw']
     | gval g av =>
      intro hh hg
      obtain ⟨cv, hcv, htv⟩ := hh hg
      refine ⟨cv, fun w' hw' => ?_, htv⟩
      rw [Sem.run_bind, h2]
      simp only [Result.andThen, h3]
      simp [asAgg, hcv w' hw']
    ·trivial
   ·trivial
  ·trivial
 ·trivial
def sbyte (s : ByteArray) (i : Int) : Int := ((s.data.toList.getD i.toNat 0).toNat : Int)
def indexA (T : Tys) (t : TypeId) (x ix : AV) : PR :=
 match T t, ix with
 | some { k := .str, .. }, .int _ n => match x with
  | .str s => .gval (0 ≤ n ∧ n < (s.size : Int)) (.int .u8 (sbyte s n))
  | _ => .no
 | some { k := .array m e, .. }, .int _ n => match T e with
  | some ei => match x with
   | .agg cells => match decide (0 ≤ n ∧ n < (m : Int)) with
    | true => match Nat.ble (n.toNat * ei.sz) cells.length with
     | true => partA T e (cells.drop (n.toNat * ei.sz))
     | false => .no
    | false => .no
   | .mh i (.tk l) => match Nat.beq ei.sz 1, ei.k with
    | true, .ptr _ => .gval ((0 ≤ n ∧ n < (m : Int)) ∧ n < (l.length : Int)) (.mh i (.tn (l.getD n.toNat none)))
    | _, _ => .no
   | .aggp p => match Nat.beq ei.sz p.sz, ei.k.agg, p.at n.toNat with
    | true, false, [c] => .gval ((0 ≤ n ∧ n < (m : Int)) ∧ n < (p.len : Int)) c
    | _, _, _ => .no
   | _ => .no
  | none => .no
 | _, _ => .no
theorem indexA_ok {P : Program} {T : Tys} (hT : TyOk P T) {s S β objs w} (t : TypeId) (x ix : AV) (vx vi : Value) (hx : TV w S β objs x vx) (hi : TV w S β objs ix vi) :
  PRok P s S β objs w (Instr.index t vx vi) (indexA T t x ix) := by
 unfold indexA
 split
 ·rename_i sz bytes zero k n ht
  cases hi with | pure hi => cases hi with | int =>
  split
  ·rename_i str
   cases hx with | pure hx => cases hx with | str =>
   obtain ⟨d, h1, h2⟩ := hT.underlying ht
   cases d <;> simp only [TKok] at h1
   intro hn
   have hlt : n.toNat < str.size := by omega
   refine ⟨.int .u8 (sbyte str n), fun w' _ => ?_, .pure (.int _ _)⟩
   unfold Instr.index
   have e : str[n.toNat]? = some (str.data.toList.getD n.toNat 0) := by
    rw [getElem?_pos str n.toNat hlt]
    congr 1
    have : n.toNat < str.data.size := hlt
    simp only [List.getD, ByteArray.getElem_eq_getElem_data, Array.getElem?_toList]
    rw [getElem?_pos str.data n.toNat this]
    rfl
   simp [asIntOf, h2, hn.1, e, sbyte]
  ·trivial
 ·rename_i sz bytes m e zero k n ht
  cases hi with | pure hi => cases hi with | int =>
  obtain ⟨d, h1, h2⟩ := hT.underlying ht
  cases d <;> simp only [TKok] at h1
  rename_i len elem
  obtain ⟨rfl, rfl⟩ := h1
  split
  ·rename_i ei he
   have hz := fun w => hT.sizeOf he w
   split
   ·rename_i cells
    split
    ·rename_i hn
     have hn := of_decide_eq_true hn
     split
     ·rename_i hle
      have hle := Nat.le_of_ble_eq_true hle
      have hv : ∃ cs : Array Value, vx = .agg cs ∧ cells.length = cs.size ∧ ∀ c (h : c < cells.length), TV w S β objs (cells[c]) (cs[c]!) := by
       cases hx with
       | pure hx => cases hx with
        | agg hl hr => exact ⟨_, rfl, hl, fun c h => .pure (hr c h)⟩
       | agg hl hr => exact ⟨_, rfl, hl, hr⟩
      obtain ⟨cs, rfl, hl, hr⟩ := hv
      have := part_run (P := P) hT (s := s) (S := S) (β := β) (objs := objs) (w := w) elem (cells.drop (n.toNat * ei.sz)) cs (n.toNat * ei.sz) (by simp; omega) (fun c h => by simp at h; simpa using hr (n.toNat * ei.sz + c) (by omega))
      revert this
      unfold Instr.index
      generalize partA T elem (cells.drop (n.toNat * ei.sz)) = r
      cases r with
      | no => exact id
      | val av =>
       rintro ⟨cv, hcv, htv⟩
       refine ⟨cv, fun w' hw' => ?_, htv⟩
       simp [asIntOf, h2, hn.1, hn.2, hz, hcv w' hw']
      | gval g av =>
       intro hh hg
       obtain ⟨cv, hcv, htv⟩ := hh hg
       refine ⟨cv, fun w' hw' => ?_, htv⟩
       simp [asIntOf, h2, hn.1, hn.2, hz, hcv w' hw']
     ·trivial
    ·trivial
   ·rename_i i l
    split
    ·rename_i e0 h3 h4
     have h3 : ei.sz = 1 := Nat.eq_of_beq_eq_true h3
     intro hn
     obtain ⟨m', T', ho, hm⟩ := hx.trieH (.inr (.inr (.inr (.inr ⟨_, rfl⟩))))
     have hm : vx = .agg (l.map nodeV).toArray := hm
     subst hm
     have ha := fun w => hT.isAgg he w
     have hlt : n.toNat < l.length := by omega
     refine ⟨nodeV (l.getD n.toNat none), fun w' _ => ?_, .mh ho rfl⟩
     unfold Instr.index part
     simp [asIntOf, h2, hn.1.1, hn.1.2, hz, ha, h4, TK.agg, h3, hlt, List.getD]
    ·trivial
   ·rename_i p
    split
    ·rename_i c h3 h4 h5
     have h3 : ei.sz = p.sz := Nat.eq_of_beq_eq_true h3
     intro hn
     cases hx with | pure hx => cases hx with | @aggp _ vs hwf hl hr =>
     have hj : n.toNat < p.len := by omega
     have h6 := hwf n.toNat hj
     rw [h5] at h6
     have h6 : p.sz = 1 := by simpa using h6.symm
     have h7 := hr n.toNat 0 (by rw [h5]; simp) hj
     simp only [h5, List.getElem_cons_zero, Nat.add_zero, h6, Nat.mul_one] at h7
     have hlt : n.toNat < vs.size := by rw [h6] at hl; omega
     refine ⟨vs[n.toNat]!, fun w' _ => ?_, .pure h7⟩
     have ha := fun w => hT.isAgg he w
     unfold Instr.index part
     simp [asIntOf, h2, hn.1.1, hn.1.2, hz, ha, h4, h3, h6, hlt]
    ·trivial
   ·trivial
  ·trivial
 ·trivial
end Go.AM
end

section
namespace Go.AM
open Go
def lenA (T : Tys) (s : Bool) (objs : List AObj) (t : TypeId) (x : AV) : PR :=
 match T t with
 | some { k := .slice _, .. } => match x with
  | .pay p _ => .val (.int .i64 (p.len : Int))
  | .lit (.slice none 0 0) => .val (.int .i64 0)
  | .own i => match objs[i]? with
   | some (.arr p _) => .val (.int .i64 (p.len : Int))
   | _ => .no
  | .mh i .own => match objs[i]? with
   | some (.nest rows _ _ _ _ _) => .val (.int .i64 (rows.length : Int))
   | _ => .no
  | .mh i (.row j) => match objs[i]? with
   | some (.nest rows _ _ _ _ _) => .val (.int .i64 ((rows.getD j []).length : Int))
   | _ => .no
  | .mh i (.sub k) => match objs[i]? with
   | some (.arr p _) => .val (.int .i64 ((p.len : Int) - (k : Int)))
   | _ => .no
  | _ => .no
 | some { k := .str, .. } => match x with
  | .str s => .val (.int .i64 (s.size : Int))
  | _ => .no
 | some { k := .array n _, .. } => .val (.int .i64 (n : Int))
 | some { k := .map _ _, .. } => match s with
  | true => .no
  | false => match x with
   | .mapr i => match objs[i]? with
    | some (.mapB _ m) => .val (.int .i64 (m.length : Int))
    | some (.mapI _ m) => .val (.int .i64 (m.length : Int))
    | _ => .no
   | _ => .no
 | _ => .no
theorem lenA_ok {P : Program} {T : Tys} (hT : TyOk P T) {s cx β st tmps w} (h : FR cx β st tmps w) (t u : TypeId) (x : AV) (v : Value) (hx : TV w (cx.S β st.objs) β st.objs x v) :
  PRok P s (cx.S β st.objs) β st.objs w (Builtin.len_ #[t] u #[v]) (lenA T s st.objs t x) := by
 unfold lenA
 split
 ·rename_i sz bytes e zero ht
  obtain ⟨d, h1, h2⟩ := hT.underlying ht
  cases d <;> simp only [TKok] at h1
  split
  ·cases hx with | pure hx => cases hx with | @pay _ _ a len cap ad vs hlen hcap hwf hnz had hsp hc hS hr =>
   exact ⟨.int .i64 (len : Int), fun w' _ => by simp [Builtin.len_, h2, goInt], by rw [hlen]; exact .pure (.int _ _)⟩
  ·cases hx with | pure hx => cases hx with | lit =>
   exact ⟨.int .i64 0, fun w' _ => by simp [Builtin.len_, h2, goInt], .pure (.int _ _)⟩
  ·split
   ·rename_i p nz ho
    cases hx with | pure hx => cases hx | @own i p' nz' a len cap ho' hlen hnz hn hb =>
    rw [ho] at ho'
    cases ho'
    exact ⟨.int .i64 (len : Int), fun w' _ => by simp [Builtin.len_, h2, goInt], by rw [hlen]; exact .pure (.int _ _)⟩
   ·trivial
  ·split
   ·rename_i ho
    cases hx with | pure hx => cases hx | mh ho' hm =>
    rw [ho] at ho'
    cases ho'
    obtain ⟨_, a, cap, rfl, _⟩ := hm
    exact ⟨_, fun w' _ => by simp [Builtin.len_, h2, goInt], .pure (.int _ _)⟩
   ·trivial
  ·split
   ·rename_i ho
    cases hx with | pure hx => cases hx | mh ho' hm =>
    rw [ho] at ho'
    cases ho'
    obtain ⟨_, a, cap, rfl, _⟩ := hm
    exact ⟨_, fun w' _ => by simp [Builtin.len_, h2, goInt], .pure (.int _ _)⟩
   ·trivial
  ·rename_i i k
   split
   ·rename_i p ai ho
    cases hx with | pure hx => cases hx | mh ho' hm =>
    rw [ho] at ho'
    cases ho'
    obtain ⟨_, h4, b, cap, _, _, rfl⟩ := hm
    refine ⟨.int .i64 ((p.len - k : Nat) : Int), fun w' _ => by simp [Builtin.len_, h2, goInt], ?_⟩
    rw [show ((p.len : Int) - (k : Int)) = ((p.len - k : Nat) : Int) by omega]
    exact .pure (.int _ _)
   ·trivial
  ·trivial
 ·rename_i sz bytes zero ht
  obtain ⟨d, h1, h2⟩ := hT.underlying ht
  cases d <;> simp only [TKok] at h1
  split
  ·cases hx with | pure hx => cases hx with | str =>
   exact ⟨_, fun w' _ => by simp [Builtin.len_, h2, goInt], .pure (.int _ _)⟩
  ·trivial
 ·rename_i sz bytes n e zero ht
  obtain ⟨d, h1, h2⟩ := hT.underlying ht
  cases d <;> simp only [TKok] at h1
  obtain ⟨rfl, rfl⟩ := h1
  exact ⟨_, fun w' _ => by simp [Builtin.len_, h2, goInt], .pure (.int _ _)⟩
 ·rename_i sz bytes kt e zero ht
  obtain ⟨d, h1, h2⟩ := hT.underlying ht
  cases d <;> simp only [TKok] at h1
  split
  ·trivial
  ·split
   ·split
    ·rename_i ho
     obtain ⟨_, b, es, cl, hb, hm, hsz, _⟩ := h.objs _ _ ho
     cases hx with | pure hx => cases hx | mapr hb' =>
     rw [hb] at hb'; cases hb'
     refine ⟨.int .i64 (es.size : Int), fun w' hw' => ?_, by rw [hsz]; exact .pure (.int _ _)⟩
     have e : w'.heap[b]? = some (.map es cl) := by rw [KeepL.block hw' b (h.rng _ 0 b hb).1 id]; exact hm
     simp [Builtin.len_, h2, goInt, getObj, Sem.run, e]
    ·rename_i ho
     obtain ⟨_, b, es, cl, hb, hm, hsz, _⟩ := h.objs _ _ ho
     cases hx with | pure hx => cases hx | mapr hb' =>
     rw [hb] at hb'; cases hb'
     refine ⟨.int .i64 (es.size : Int), fun w' hw' => ?_, by rw [hsz]; exact .pure (.int _ _)⟩
     have e : w'.heap[b]? = some (.map es cl) := by rw [KeepL.block hw' b (h.rng _ 0 b hb).1 id]; exact hm
     simp [Builtin.len_, h2, goInt, getObj, Sem.run, e]
    ·trivial
   ·trivial
 ·trivial
def eqNil (T : Tys) (objs : List AObj) (t : TypeId) (x y : AV) : PR :=
 match y with
 | .lit (.slice none 0 0) => match T t with
  | some { k := .slice _, .. } => match x with
   | .pay p true => .val (.bool (decide (p.len = 0)))
   | .pay p false => .gval (p.len ≠ 0) (.bool false)
   | .own i => match objs[i]? with
    | some (.arr p ⟨_, true⟩) => .val (.bool (decide (p.len = 0)))
    | some (.arr p ⟨_, false⟩) => .gval (p.len ≠ 0) (.bool false)
    | _ => .no
   | .lit (.slice none 0 0) => .val (.bool true)
   | _ => .no
  | _ => .no
 | .lit (.pointer none) => match T t with
  | some { k := .ptr _, .. } => match x with
   | .fref _ | .ref _ _ | .eref _ _ _ => .val (.bool false)
   | .lit (.pointer none) => .val (.bool true)
   | .mh _ (.tn o) => .val (.bool o.isNone)
   | _ => .no
  | _ => .no
 | .bool b => match x with
  | .bool a => match T t with
   | some { k := .bool, .. } => .val (.bool (a == b))
   | _ => .no
  | _ => .no
 | .lit .nilIface => match T t with
  | some { k := .iface, .. } => match x with
   | .lit .nilIface => .val (.bool true)
   | .lit (.iface _ _) => .val (.bool false)
   | _ => .no
  | _ => .no
 | _ => .no
theorem equal_of {P : Program} {t : TypeId} {x y : Value} {b : Bool} {w : World} (h : ∀ d, (Op.equalIn (d + 1) t x y).run P w = .ok b w) : (Op.equal t x y).run P w = .ok b w := h 9999
def NilShape (y : AV) (vx vy : Value) : Prop := (∃ a l c, vx = .slice a l c ∧ vy = .slice none 0 0) ∨ (∃ a, vx = .pointer a ∧ vy = .pointer none) ∨ (∃ a b, vx = .bool a ∧ vy = .bool b) ∨ ((vx = .nilIface ∨ ∃ a b, vx = .iface a b) ∧ vy = .nilIface ∧ y = .lit .nilIface)
def EqOk (P : Program) (m : Sem Bool) (sh : Prop) : PR → Prop
 | .no => True
 | .val v => ∃ b, v = .bool b ∧ sh ∧ ∀ w', m.run P w' = .ok b w'
 | .gval g v => g → ∃ b, v = .bool b ∧ sh ∧ ∀ w', m.run P w' = .ok b w'
def nilOp (y : Operand) (av : AV) : AV :=
 match y with
 | .const _ => av
 | _ => match av with
  | .lit .nilIface => .junk
  | av => av
theorem nilOp_ok {w S β objs} {y : Operand} {av : AV} {v : Value} (h : TV w S β objs av v) : TV w S β objs (nilOp y av) v := by
 unfold nilOp
 split
 ·exact h
 ·split
  ·exact .pure (.junk _)
  ·exact h
theorem nilOp_const {y : Operand} {av : AV} (h : nilOp y av = .lit .nilIface) : ∃ v, y = .const v := by
 unfold nilOp at h
 split at h
 ·exact ⟨_, rfl⟩
 ·split at h
  ·cases h
  ·rename_i h2; exact absurd h h2
theorem eqNil_ok {P : Program} {T : Tys} (hT : TyOk P T) {S β objs w} (hz : ∀ i p nz, objs[i]? = some (AObj.arr p nz) → β i 0 = none → p.len = 0) (t : TypeId) (x y : AV) (vx vy : Value) (hx : TV w S β objs x vx) (hy : TV w S β objs y vy) :
  EqOk P (Op.equal t vx vy) (NilShape y vx vy) (eqNil T objs t x y) := by
 unfold eqNil
 split
 ·cases hy with | pure hy => cases hy with | lit =>
  split
  ·rename_i sz bytes e zero ht
   obtain ⟨d, h1, h2⟩ := hT.underlying ht
   cases d <;> simp only [TKok] at h1
   have key : ∀ a len cap w', (Op.equal t (.slice a len cap) (.slice none 0 0)).run P w' = .ok a.isNone w' := fun a len cap w' => by
    refine equal_of fun d => ?_
    cases a <;> simp [Op.equalIn, h2]
   split
   ·rename_i p
    cases hx with | pure hx => cases hx with | @pay _ _ a len cap ad vs hlen hcap hwf hnz had hsp hc hS hr =>
    refine ⟨_, rfl, .inl ⟨_, _, _, rfl, rfl⟩, fun w' => ?_⟩
    rw [key]
    congr 1
    by_cases h0 : len = 0
    ·rw [hnz rfl h0]; simp [hlen, h0]
    ·rw [had h0]; simp [hlen, h0]
   ·rename_i p
    intro h0
    cases hx with | pure hx => cases hx with | @pay _ _ a len cap ad vs hlen hcap hwf hnz had hsp hc hS hr =>
    refine ⟨_, rfl, .inl ⟨_, _, _, rfl, rfl⟩, fun w' => ?_⟩
    rw [key, had (by omega)]; rfl
   ·rename_i i
    split
    ·rename_i p ho
     cases hx with | pure hx => cases hx | @own i0 p' nz' a len cap ho' hlen hnz hn hb =>
     rw [ho] at ho'; cases ho'
     refine ⟨_, rfl, .inl ⟨_, _, _, rfl, rfl⟩, fun w' => ?_⟩
     rw [key]
     congr 1
     by_cases h0 : len = 0
     ·rw [hnz rfl h0]; simp [hlen, h0]
     ·cases hβ : β i 0 with
      | none => have := hz _ _ _ ho hβ; omega
      | some b => rw [(hb b hβ).1]; simp [hlen, h0]
    ·rename_i p ho
     intro h0
     cases hx with | pure hx => cases hx | @own i0 p' nz' a len cap ho' hlen hnz hn hb =>
     rw [ho] at ho'; cases ho'
     refine ⟨_, rfl, .inl ⟨_, _, _, rfl, rfl⟩, fun w' => ?_⟩
     rw [key]
     cases hβ : β i 0 with
     | none => have := hz _ _ _ ho hβ; omega
     | some b => rw [(hb b hβ).1]; rfl
    ·trivial
   ·cases hx with | pure hx => cases hx with | lit =>
    exact ⟨_, rfl, .inl ⟨_, _, _, rfl, rfl⟩, fun w' => by rw [key]; rfl⟩
   ·trivial
  ·trivial
 ·cases hy with | pure hy => cases hy with | lit =>
  split
  ·rename_i sz bytes e zero ht
   obtain ⟨d, h1, h2⟩ := hT.underlying ht
   cases d <;> simp only [TKok] at h1
   have key : ∀ a w', (Op.equal t (.pointer a) (.pointer none)).run P w' = .ok a.isNone w' := fun a w' => by
    refine equal_of fun d => ?_
    cases a <;> simp [Op.equalIn, h2]
   split
   ·cases hx with | pure hx => cases hx with | fref => exact ⟨_, rfl, .inr (.inl ⟨_, rfl, rfl⟩), fun w' => by rw [key]; rfl⟩
   ·cases hx with | pure hx => cases hx | ref hb => exact ⟨_, rfl, .inr (.inl ⟨_, rfl, rfl⟩), fun w' => by rw [key]; rfl⟩
   ·cases hx with | pure hx => cases hx | eref ho hb hj => exact ⟨_, rfl, .inr (.inl ⟨_, rfl, rfl⟩), fun w' => by rw [key]; rfl⟩
   ·cases hx with | pure hx => cases hx with | lit => exact ⟨_, rfl, .inr (.inl ⟨_, rfl, rfl⟩), fun w' => by rw [key]; rfl⟩
   ·rename_i i o
    obtain ⟨m, T', ho, hm⟩ := hx.trieH (.inl ⟨_, rfl⟩)
    have hm : vx = nodeV o := hm
    subst hm
    exact ⟨_, rfl, .inr (.inl ⟨_, rfl, rfl⟩), fun w' => by unfold nodeV; rw [key]; cases o <;> rfl⟩
   ·trivial
  ·trivial
 ·cases hy with | pure hy => cases hy with | bool =>
  split
  ·cases hx with | pure hx => cases hx with | bool =>
   split
   ·rename_i sz bytes zero ht
    obtain ⟨d, h1, h2⟩ := hT.underlying ht
    cases d <;> simp only [TKok] at h1
    exact ⟨_, rfl, .inr (.inr (.inl ⟨_, _, rfl, rfl⟩)), fun w' => equal_of fun d => by simp [Op.equalIn, h2]⟩
   ·trivial
  ·trivial
 ·cases hy with | pure hy => cases hy with | lit =>
  split
  ·rename_i sz bytes zero ht
   obtain ⟨d, h1, h2⟩ := hT.underlying ht
   cases d <;> simp only [TKok] at h1
   split
   ·cases hx with | pure hx => cases hx with | lit =>
    exact ⟨_, rfl, .inr (.inr (.inr ⟨.inl rfl, rfl, rfl⟩)), fun w' => equal_of fun d => by simp [Op.equalIn, h2]⟩
   ·cases hx with | pure hx => cases hx with | lit =>
    exact ⟨_, rfl, .inr (.inr (.inr ⟨.inr ⟨_, _, rfl⟩, rfl, rfl⟩)), fun w' => equal_of fun d => by simp [Op.equalIn, h2]⟩
   ·trivial
  ·trivial
 ·trivial
end Go.AM
end

section
namespace Go.AM
open Go
def pickA (c a b : AV) : PR :=
 match c with
 | .lit (.bool true) => .val a
 | .lit (.bool false) => .val b
 | .bool c => match a, b with
  | .bool x, .bool y => .val (.bool (bif c then x else y))
  | .int k x, .int k' y => match decide (k = k') with
   | true => .val (.int k (bif c then x else y))
   | false => .no
  | _, _ => .no
 | _ => .no
theorem pickA_ok {P : Program} {s S β objs w} (c a b : AV) (vc va vb : Value) (hc : TV w S β objs c vc) (ha : TV w S β objs a va) (hb : TV w S β objs b vb) :
  PRok P s S β objs w (do pure (if ← asBool vc then va else vb)) (pickA c a b) := by
 unfold pickA
 split
 ·cases hc with | pure hc => cases hc with | lit => exact ⟨va, fun w' _ => by simp [asBool], ha⟩
 ·cases hc with | pure hc => cases hc with | lit => exact ⟨vb, fun w' _ => by simp [asBool], hb⟩
 ·rename_i c
  cases hc with | pure hc => cases hc with | bool =>
  split
  ·rename_i x y
   cases ha with | pure ha => cases ha with | bool =>
   cases hb with | pure hb => cases hb with | bool =>
   exact ⟨.bool (bif c then x else y), fun w' _ => by cases c <;> simp [asBool], .pure (.bool _)⟩
  ·rename_i k x k' y
   split
   ·rename_i hk
    have hk := of_decide_eq_true hk
    cases ha with | pure ha => cases ha with | int =>
    cases hb with | pure hb => cases hb with | int =>
    subst hk
    exact ⟨.int k (bif c then x else y), fun w' _ => by cases c <;> simp [asBool], .pure (.int _ _)⟩
   ·trivial
  ·trivial
 ·trivial
def unA (op : UnOp) (x : AV) : PR :=
 match op, x with
 | .not, .bool b => .val (.bool (!b))
 | .not, .lit (.bool b) => .val (.lit (.bool (!b)))
 | .neg, .int k n => .val (.int k (k.wrap (0 - n)))
 | _, _ => .no
theorem unA_ok {P : Program} {s S β objs w} (op : UnOp) (x : AV) (v : Value) (hx : TV w S β objs x v) : PRok P s S β objs w (Op.unary op v) (unA op x) := by
 unfold unA
 split
 ·cases hx with | pure hx => cases hx with | bool => exact ⟨_, fun w' _ => by simp [Op.unary], .pure (.bool _)⟩
 ·cases hx with | pure hx => cases hx with | lit => exact ⟨_, fun w' _ => by simp [Op.unary], .pure (.lit _)⟩
 ·cases hx with | pure hx => cases hx with | int => exact ⟨_, fun w' _ => by simp [Op.unary, Op.intArith], .pure (.int _ _)⟩
 ·trivial
def extractA (x : AV) (i : Nat) : PR :=
 match x with
 | .tup vs => match vs[i]? with
  | some v => .val v
  | none => .no
 | _ => .no
theorem extractA_ok {P : Program} {s S β objs w} (x : AV) (i : Nat) (v : Value) (hx : TV w S β objs x v) : PRok P s S β objs w (Instr.extract v i) (extractA x i) := by
 unfold extractA
 split
 ·rename_i vs
  have hv : ∃ cs : Array Value, v = .tuple cs ∧ vs.length = cs.size ∧ ∀ c (h : c < vs.length), TV w S β objs (vs[c]) (cs[c]!) := by
   cases hx with
   | pure hx => cases hx with
    | tup hl hr => exact ⟨_, rfl, hl, fun c h => .pure (hr c h)⟩
   | tup hl hr => exact ⟨_, rfl, hl, hr⟩
  obtain ⟨cs, rfl, hl, hr⟩ := hv
  split
  ·rename_i av hi
   obtain ⟨hlt, rfl⟩ := List.getElem?_eq_some_iff.1 hi
   refine ⟨cs[i]!, fun w' _ => ?_, hr i hlt⟩
   have : i < cs.size := by omega
   simp [Instr.extract, this]
  ·trivial
 ·trivial
def nilA (x : AV) : PR :=
 match x with
 | .fref c => .val (.fref c)
 | .ref i o => .val (.ref i o)
 | .eref i j c => .val (.eref i j c)
 | .clo f c => .val (.clo f c)
 | .mh i x => match x with
  | .tn o => .gval (o.isSome = true) (.mh i (.tn o))
  | _ => .no
 | _ => .no
def convA (T : Tys) (dst : TypeId) (x : AV) : PR :=
 match T dst, x with
 | some { k := .int k, .. }, .int _ n => .val (.int k (k.wrap n))
 | some { k := .str, .. }, .str s => .val (.str s)
 | _, _ => .no
theorem convA_ok {P : Program} {T : Tys} (hT : TyOk P T) {s S β objs w} (src dst : TypeId) (hs : (T src).isSome = true) (x : AV) (v : Value) (hx : TV w S β objs x v) : PRok P s S β objs w (convert src dst v) (convA T dst x) := by
 unfold convA
 split
 ·rename_i sz bytes k zero k' n ht
  cases hx with | pure hx => cases hx with | int =>
  obtain ⟨d, h1, h2⟩ := hT.underlying ht
  cases d <;> simp only [TKok] at h1
  obtain ⟨i, hi⟩ := Option.isSome_iff_exists.1 hs
  obtain ⟨d', h1', h2'⟩ := hT.underlying hi
  subst h1
  refine ⟨_, fun w' _ => ?_, .pure (.int _ _)⟩
  unfold convert
  rw [Sem.run_bind, h2']
  simp only [Result.andThen]
  rw [Sem.run_bind, h2]
  simp only [Result.andThen]
  cases d' <;> simp [Conv.intToInt]
 ·rename_i sz bytes zero str ht
  cases hx with | pure hx => cases hx with | str =>
  obtain ⟨d, h1, h2⟩ := hT.underlying ht
  cases d <;> simp only [TKok] at h1
  obtain ⟨i, hi⟩ := Option.isSome_iff_exists.1 hs
  obtain ⟨d', h1', h2'⟩ := hT.underlying hi
  refine ⟨_, fun w' _ => ?_, .pure (.str _)⟩
  unfold convert
  rw [Sem.run_bind, h2']
  simp only [Result.andThen]
  rw [Sem.run_bind, h2]
  simp only [Result.andThen]
  cases d' <;> simp
 ·trivial
def bytesOf (l : List Int) : ByteArray := ⟨(l.map fun n => UInt8.ofNat n.toNat).toArray⟩
theorem foldl_push (l : List Int) : ∀ s : ByteArray, l.foldl (fun r n => r.push (UInt8.ofNat n.toNat)) s = ⟨s.data ++ (l.map fun n => UInt8.ofNat n.toNat).toArray⟩ := by
 induction l with
 | nil => intro s; simp
 | cons n l ih => intro s; simp only [List.foldl_cons, ih]; simp [ByteArray.push]
def convS (T : Tys) (s : Bool) (objs : List AObj) (src dst : TypeId) (x : AV) : PR :=
 match T dst, T src with
 | some { k := .str, .. }, some { k := .slice e, .. } => match T e, x with
  | some { k := .int .u8, .. }, .pay (.ints .u8 l) _ => .val (.str (bytesOf l))
  | some { k := .int .u8, .. }, .lit (.slice none 0 0) => .val (.str (bytesOf []))
  | some { k := .int .u8, .. }, .own i => match s, objs[i]? with
   | false, some (.arr (.ints .u8 l) _) => .val (.str (bytesOf l))
   | _, _ => .no
  | _, _ => .no
 | _, some _ => convA T dst x
 | _, none => .no
theorem run_bytes_at {P : Program} {w : World} {l : List Int} {b o len cap : Nat} (hl : l.length = len) (h : ∀ j, j < len → w.cell? ⟨b, o + j, none⟩ = some (.int .u8 (l.getD j 0))) : (Conv.bytesToString (.slice (some ⟨b, o, none⟩) len cap)).run P w = .ok (.string (bytesOf l)) w := by
 have hc : (loadCells ⟨b, o, none⟩ len).run P w = .ok (l.map (Value.int .u8)).toArray w := by
  have := run_loadCells (P := P) w ⟨b, o, none⟩ len (fun j => .int .u8 (l.getD j 0)) (fun j hj => by rw [addr_add]; exact h j hj)
  rw [this]
  congr 1
  refine Array.ext (by simp [hl]) fun j h1 h2 => ?_
  have hj : j < l.length := by simpa using h2
  simp [List.getD, hj]
 rw [run_bytesToString w _ _ _ l hc, foldl_push]
 simp [bytesOf]
theorem convS_ok {P : Program} {T : Tys} (hT : TyOk P T) {s cx β st tmps w} (h : FR cx β st tmps w) (src dst : TypeId) (x : AV) (v : Value) (hx : TV w (cx.S β st.objs) β st.objs x v) : PRok P s (cx.S β st.objs) β st.objs w (convert src dst v) (convS T s st.objs src dst x) := by
 unfold convS
 split
 ·rename_i e zero hdst hsrc
  obtain ⟨d1, g1, g2⟩ := hT.underlying hdst
  obtain ⟨d2, g3, g4⟩ := hT.underlying hsrc
  cases d1 <;> simp only [TKok] at g1
  cases d2 <;> simp only [TKok] at g3
  rename_i elem
  subst elem
  have start : ∀ {w'}, (∀ d, T e = some d → d.k = .int .u8 → True) → ∀ (x : Value), (∃ a l c, x = .slice a l c) → (∃ d, T e = some d ∧ d.k = .int .u8) → (convert src dst x).run P w' = (Conv.bytesToString x).run P w' := fun {w'} _ x ⟨a, l, c, hx⟩ ⟨d, hd1, hd2⟩ => by
   subst hx
   obtain ⟨d3, g5, g6⟩ := hT.underlying hd1
   rw [hd2] at g5
   cases d3 <;> simp only [TKok] at g5
   subst g5
   unfold convert
   simp only [Sem.run_bind, g4, g2, Result.andThen_ok, g6]
  split
  ·rename_i l nz he
   cases hx with | pure hx => cases hx with | @pay _ _ a len cap ad vs hlen hcap hwf hnz had hsp hc hS hr =>
   refine ⟨.string (bytesOf l), fun w' hw' => ?_, .pure (.str _)⟩
   rw [start (fun _ _ _ => trivial) _ ⟨_, _, _, rfl⟩ ⟨_, he, rfl⟩]
   simp only [Pay.len] at hlen
   by_cases h0 : len = 0
   ·subst h0
    have : l = [] := List.eq_nil_of_length_eq_zero hlen
    subst this
    cases a with
    | none => rfl
    | some a => simp [Conv.bytesToString, loadCells, loadCellsFrom, bytesOf]; rfl
   ·have e1 := had h0
    subst e1
    have e2 : ad = ⟨ad.block, ad.off, none⟩ := addr_eq hsp
    rw [e2]
    refine run_bytes_at hlen fun j hj => ?_
    have k1 := hc j 0 hj (by simp [Pay.sz])
    have k2 := hr j 0 (by simp [Pay.at]) hj
    have k3 := hS j 0 hj (by simp [Pay.sz])
    simp only [Pay.sz, Nat.mul_one, Nat.add_zero, Pay.at, List.getElem_cons_zero] at k1 k2 k3
    rw [hw'.keeps _ _ _ k3 k1]
    generalize vs j 0 = u at k2
    cases k2; rfl
  ·rename_i he
   cases hx with | pure hx => cases hx with | lit =>
   refine ⟨.string (bytesOf []), fun w' _ => ?_, .pure (.str _)⟩
   rw [start (fun _ _ _ => trivial) _ ⟨_, _, _, rfl⟩ ⟨_, he, rfl⟩]
   rfl
  ·rename_i i he
   split
   ·rename_i l nz ho
    cases hx with | pure hx => cases hx | @own i0 p' nz' a len cap ho' hlen hnz hn hb =>
    rw [ho] at ho'; cases ho'
    refine ⟨.string (bytesOf l), fun w' hw' => ?_, .pure (.str _)⟩
    rw [start (fun _ _ _ => trivial) _ ⟨_, _, _, rfl⟩ ⟨_, he, rfl⟩]
    simp only [Pay.len] at hlen
    obtain ⟨o1, o2, o3, o4⟩ := h.objs i _ ho
    cases hβ : β i 0 with
    | none =>
     have := o2 hβ
     simp only [Pay.len] at this
     have : l = [] := List.eq_nil_of_length_eq_zero this
     subst this
     rw [(hn hβ).1]; rfl
    | some b =>
     obtain ⟨_, h8⟩ := o4 b hβ
     rw [(hb b hβ).1]
     refine run_bytes_at hlen fun j hj => ?_
     obtain ⟨v, v1, v2⟩ := h8 j 0 (by simp [Pay.at]) (by simp only [Pay.len]; omega)
     simp only [Pay.sz, Nat.mul_one, Nat.add_zero, Pay.at, List.getElem_cons_zero] at v1 v2
     rw [Nat.zero_add, cell?_of_heap (KeepL.block hw' b (h.rng i 0 b hβ).1 id), v1]
     cases v2; rfl
   ·trivial
  ·trivial
 ·rename_i hsrc _
  exact convA_ok hT src dst (by rw [hsrc]; rfl) x v hx
 ·trivial
def minA (g : Bool) (x y : AV) : PR :=
 match x, y with
 | .int k a, .int k' b => match decide (k = k'), g with
  | true, false => .val (.int k (min a b))
  | true, true => .val (.int k (max a b))
  | _, _ => .no
 | _, _ => .no
theorem minA_ok {P : Program} {s S β objs w} (x y : AV) (vx vy : Value) (ts : Array TypeId) (u : TypeId) (hx : TV w S β objs x vx) (hy : TV w S β objs y vy) :
  PRok P s S β objs w (Builtin.min_ ts u #[vx, vy]) (minA false x y) ∧ PRok P s S β objs w (Builtin.max_ ts u #[vx, vy]) (minA true x y) := by
 unfold minA
 split
 ·rename_i k a k' b
  cases hx with | pure hx => cases hx with | int =>
  cases hy with | pure hy => cases hy with | int =>
  by_cases hk : k = k'
  ·subst hk
   simp only [decide_true]
   refine ⟨⟨_, fun w' _ => ?_, .pure (.int _ _)⟩, ⟨_, fun w' _ => ?_, .pure (.int _ _)⟩⟩
   ·simp only [Builtin.min_, List.foldlM_cons, List.foldlM_nil, Builtin.min2]
    simp [Int.min_def]; split <;> split <;> omega
   ·simp only [Builtin.max_, List.foldlM_cons, List.foldlM_nil, Builtin.max2]
    simp [Int.max_def]; split <;> split <;> omega
  ·simp only [hk, decide_false]
   exact ⟨trivial, trivial⟩
 ·exact ⟨trivial, trivial⟩
def Pay.sub (p : Pay) (a n : Nat) : Pay :=
 match p with
 | .ints k l => .ints k ((l.drop a).take n)
 | .bools l => .bools ((l.drop a).take n)
 | .strs l => .strs ((l.drop a).take n)
 | .rows l => .rows ((l.drop a).take n)
 | .gen sz l => .gen sz ((l.drop a).take n)
theorem Pay.sub_len (p : Pay) (a n : Nat) (h : a + n ≤ p.len) : (p.sub a n).len = n := by
 cases p <;> simp [Pay.sub, Pay.len] at h ⊢ <;> omega
theorem Pay.sub_sz (p : Pay) (a n : Nat) : (p.sub a n).sz = p.sz := by cases p <;> rfl
theorem getD_sub {α : Type} (l : List α) (a n j : Nat) (d : α) (hj : j < n) : ((l.drop a).take n).getD j d = l.getD (a + j) d := by
 simp [List.getD, hj, List.getElem?_take_of_lt]
theorem Pay.sub_at (p : Pay) (a n j : Nat) (hj : j < n) : (p.sub a n).at j = p.at (a + j) := by
 cases p <;> simp only [Pay.sub, Pay.at, getD_sub _ _ _ _ _ hj]
def intOr (x : Option AV) (d : Int) : Option Int :=
 match x with
 | none => some d
 | some (.int _ n) => some n
 | some _ => none
def sliceA (T : Tys) (t : TypeId) (x : AV) (lo hi mx : Option AV) : PR :=
 match mx, T t with
 | some m, some { k := .slice e, .. } => match T e, x, lo, hi with
  | some _, .pay p _, none, some hv => match intOr (some hv) 0, intOr (some m) 0 with
   | some h, some k => .gval (h = (p.len : Int) ∧ k = (p.len : Int)) (.full p)
   | _, _ => .no
  | _, _, _, _ => .no
 | none, some { k := .slice e, .. } => match T e, x with
  | some ei, .pay p _ => match Nat.beq ei.sz p.sz, intOr lo 0, intOr hi (p.len : Int) with
   | true, some l, some h => .gval (0 ≤ l ∧ l ≤ h ∧ h ≤ (p.len : Int)) (.pay (p.sub l.toNat (h.toNat - l.toNat)) false)
   | _, _, _ => .no
  | _, _ => .no
 | none, some { k := .str, .. } => match x with
  | .str s => match intOr lo 0, intOr hi (s.size : Int) with
   | some l, some h => .gval (0 ≤ l ∧ l ≤ h ∧ h ≤ (s.size : Int)) (.str (s.extract l.toNat h.toNat))
   | _, _ => .no
  | _ => .no
 | _, _ => .no
def OptTV (w : World) (S : CellSet) (β : Nat → Nat → Option Nat) (objs : List AObj) : Option AV → Option Value → Prop
 | none, none => True
 | some a, some v => TV w S β objs a v
 | _, _ => False
theorem intOr_bound {w S β objs} {x : Option AV} {v : Option Value} (h : OptTV w S β objs x v) {d n : Int} (hn : intOr x d = some n) : (v = none ∧ n = d) ∨ (∃ k, v = some (.int k n)) := by
 cases x with
 | none => cases v with
  | none => left; exact ⟨rfl, by simpa [intOr] using hn.symm⟩
  | some v => exact h.elim
 | some x => cases v with
  | none => exact h.elim
  | some v =>
   right
   cases x <;> simp [intOr] at hn
   subst hn
   cases h with | pure h => cases h with | int => exact ⟨_, rfl⟩
theorem run_sliceBounds {P : Program} (isS : Bool) (len cap : Nat) (lo hi : Option Value) (l h : Int) (hl : (lo = none ∧ l = 0) ∨ ∃ k, lo = some (.int k l)) (hh : (hi = none ∧ h = (len : Int)) ∨ ∃ k, hi = some (.int k h))
  (h0 : 0 ≤ l) (h1 : l ≤ h) (h2 : h ≤ (cap : Int)) (w : World) : (Instr.sliceBounds isS len cap lo hi none).run P w = .ok (l.toNat, h.toNat, cap) w := by
 unfold Instr.sliceBounds
 have e1 : (h.toNat : Int) = h := by omega
 rcases hl with ⟨rfl, rfl⟩ | ⟨k, rfl⟩ <;> rcases hh with ⟨rfl, rfl⟩ | ⟨k', rfl⟩ <;> simp [Instr.sliceBound, asIntOf, h0, h1, h2, e1] <;> omega
theorem run_sliceBounds3 {P : Program} (len cap : Nat) (hi mx : Option Value) (h m : Int) (hh : (hi = none ∧ h = 0) ∨ ∃ k, hi = some (.int k h)) (hm : (mx = none ∧ m = 0) ∨ ∃ k, mx = some (.int k m)) (hh1 : hi ≠ none) (hm1 : mx ≠ none)
  (h1 : h = len) (h2 : m = len) (h3 : len ≤ cap) (w : World) : (Instr.sliceBounds true len cap none hi mx).run P w = .ok (0, len, len) w := by
 rcases hh with ⟨rfl, _⟩ | ⟨k, rfl⟩
 ·exact absurd rfl hh1
 rcases hm with ⟨rfl, _⟩ | ⟨k', rfl⟩
 ·exact absurd rfl hm1
 subst h1 h2
 unfold Instr.sliceBounds
 simp [Instr.sliceBound, asIntOf, h3]
theorem sliceA_ok {P : Program} {T : Tys} (hT : TyOk P T) {s S β objs w} (t : TypeId) (x : AV) (v : Value) (lo hi mx : Option AV) (vl vh vm : Option Value)
  (hx : TV w S β objs x v) (hl : OptTV w S β objs lo vl) (hh : OptTV w S β objs hi vh) (hm : OptTV w S β objs mx vm) :
  PRok P s S β objs w (Instr.sliceAt t v vl vh vm) (sliceA T t x lo hi mx) := by
 unfold sliceA
 split
 ·rename_i m sz bytes e zero ht
  obtain ⟨d, h1, h2⟩ := hT.underlying ht
  cases d <;> simp only [TKok] at h1
  subst h1
  have nn : ∀ {x : Option AV} {u : Option Value} {d n : Int}, OptTV w S β objs x u → x.isSome = true → u ≠ none := fun {x u d n} h1 h2 e => by
   subst e; cases x with
   | none => cases h2
   | some x => exact h1.elim
  split
  ·rename_i ei p nz hv he
   split
   case h_2 => trivial
   rename_i h k hh' hm'
   rintro ⟨g1, g2⟩
   cases hx with | pure hx => cases hx with | @pay _ _ a len cap ad vs hlen hcap hwf hnz had hsp hc hS hr =>
   have hvl : vl = none := by cases vl; rfl; exact hl.elim
   subst hvl
   have hz := fun w => hT.sizeOf he w
   have hb := fun w' => run_sliceBounds3 (P := P) len cap vh vm h k (intOr_bound hh hh') (intOr_bound hm hm') (nn (d := 0) (n := 0) hh rfl) (nn (d := 0) (n := 0) hm rfl) (by rw [g1, hlen]) (by rw [g2, hlen]) hcap w'
   refine ⟨.slice (if len = 0 then a else a.map (·.add (0 * ei.sz))) len len, fun w' _ => ?_, .pure (.full ?_)⟩
   ·unfold Instr.sliceAt Instr.slice
    simp [h2, hb, hz]
   ·refine .pay ad vs hlen (Nat.le_refl _) hwf (fun h => by cases h) (fun hne => ?_) hsp hc hS hr
    rw [if_neg hne, had hne]
    simp [Addr.add]
  ·trivial
 ·rename_i sz bytes e zero ht
  have hm : vm = none := by cases vm; rfl; exact hm.elim
  subst hm
  obtain ⟨d, h1, h2⟩ := hT.underlying ht
  cases d <;> simp only [TKok] at h1
  subst h1
  split
  ·rename_i ei p nz he
   split
   ·rename_i l h hsz hl' hh'
    have hsz : ei.sz = p.sz := Nat.eq_of_beq_eq_true hsz
    rintro ⟨h0, hle, hhl⟩
    cases hx with | pure hx => cases hx with | @pay _ _ a len cap ad vs hlen hcap hwf hnz had hsp hc hS hr =>
    have hz := fun w => hT.sizeOf he w
    have hb := run_sliceBounds (P := P) true len cap vl vh l h (intOr_bound hl hl') (by have := intOr_bound hh hh'; rw [hlen] at this; exact this) h0 hle (by omega)
    have hsub : (p.sub l.toNat (h.toNat - l.toNat)).len = h.toNat - l.toNat := Pay.sub_len _ _ _ (by omega)
    refine ⟨.slice (if cap = l.toNat then a else a.map (·.add (l.toNat * ei.sz))) (h.toNat - l.toNat) (cap - l.toNat), fun w' _ => ?_, .pure ?_⟩
    ·unfold Instr.sliceAt Instr.slice
     simp [h2, hb, hz]
    ·refine .pay (ad.add (l.toNat * ei.sz)) (fun j c => vs (l.toNat + j) c) hsub (by omega) (fun j hj => ?_) (fun hf => absurd hf (by simp)) (fun hne => ?_) ?_ (fun j c hj hc' => ?_) (fun j c hj hc' => ?_) (fun j c hc' hj => ?_)
     ·rw [Pay.sub_at _ _ _ _ (by omega), Pay.sub_sz]
      exact hwf _ (by omega)
     ·rw [if_neg (by omega), had (by omega)]; rfl
     ·rw [addr_eq hsp, addr_add]
     ·rw [Pay.sub_sz] at hc' ⊢
      have := hc (l.toNat + j) c (by omega) hc'
      rw [addr_eq hsp, addr_add, hsz]
      simp only
      rw [show ad.off + l.toNat * p.sz + (j * p.sz + c) = ad.off + ((l.toNat + j) * p.sz + c) by rw [Nat.add_mul]; omega]
      exact this
     ·rw [Pay.sub_sz] at hc' ⊢
      have := hS (l.toNat + j) c (by omega) hc'
      rw [addr_eq hsp, addr_add, hsz]
      simp only
      rw [show ad.off + l.toNat * p.sz + (j * p.sz + c) = ad.off + ((l.toNat + j) * p.sz + c) by rw [Nat.add_mul]; omega]
      exact this
     ·have e := Pay.sub_at p l.toNat (h.toNat - l.toNat) j (by omega)
      have hc2 : c < (p.at (l.toNat + j)).length := by rw [← e]; exact hc'
      have := hr (l.toNat + j) c hc2 (by omega)
      simp only [e]
      exact this
   ·trivial
  ·trivial
 ·rename_i sz bytes zero ht
  have hm : vm = none := by cases vm; rfl; exact hm.elim
  subst hm
  obtain ⟨d, h1, h2⟩ := hT.underlying ht
  cases d <;> simp only [TKok] at h1
  split
  ·rename_i str
   split
   ·rename_i l h hl' hh'
    rintro ⟨h0, hle, hhl⟩
    cases hx with | pure hx => cases hx with | str =>
    have hb := run_sliceBounds (P := P) false str.size str.size vl vh l h (intOr_bound hl hl') (intOr_bound hh hh') h0 hle hhl
    exact ⟨_, fun w' _ => by unfold Instr.sliceAt Instr.slice; simp [h2, hb], .pure (.str _)⟩
   ·trivial
  ·trivial
 ·trivial
end Go.AM
end

section
namespace Go.AM
open Go
def mfindK {α : Type} (key : List Int) : List (List Int × α) → Nat → Option (Nat × α)
 | [], _ => none
 | (l, b) :: r, i => match decide (key = l) with
  | true => some (i, b)
  | false => mfindK key r (i + 1)
def encArr (l : List Int) : Value := .agg (l.map fun n => Value.int .i64 n).toArray
theorem run_eqItems_ints {P : Program} {w : World} {e : TypeId} {d : Nat} (he : P.underlying e = some (.int .i64)) (a b : List Int) : ∀ (is : List Nat), (∀ i ∈ is, i < a.length ∧ i < b.length) →
  (Op.eqItems (d + 1) e 1 (a.map fun n => Value.int .i64 n).toArray (b.map fun n => Value.int .i64 n).toArray is).run P w = .ok (is.all fun i => a.getD i 0 == b.getD i 0) w
 | [], _ => by simp [Op.eqItems]
 | i :: is, h => by
  obtain ⟨h1, h2⟩ := h i (by simp)
  have ih := run_eqItems_ints (w := w) (d := d) he a b is fun j hj => h j (by simp [hj])
  have hp : P.plainKey e = true := by simp [Program.plainKey, he]
  have p1 : (part e (a.map fun n => Value.int .i64 n).toArray (i * 1)).run P w = .ok (.int .i64 (a.getD i 0)) w := run_part_plain w hp (by simp [h1, List.getD])
  have p2 : (part e (b.map fun n => Value.int .i64 n).toArray (i * 1)).run P w = .ok (.int .i64 (b.getD i 0)) w := run_part_plain w hp (by simp [h2, List.getD])
  simp only [Op.eqItems, Sem.run_bind, p1, p2, Result.andThen_ok]
  have p3 : (Op.equalIn (d + 1) e (.int .i64 (a.getD i 0)) (.int .i64 (b.getD i 0))).run P w = .ok (a.getD i 0 == b.getD i 0) w := by
   simp [Op.equalIn, run_underlying he]
  rw [p3]
  simp only [Result.andThen_ok, List.all_cons]
  cases a.getD i 0 == b.getD i 0
  ·simp
  ·simpa using ih
theorem all_range_eq {a b : List Int} {n : Nat} (ha : a.length = n) (hb : b.length = n) : ((List.range n).all fun i => a.getD i 0 == b.getD i 0) = decide (a = b) := by
 rw [Bool.eq_iff_iff, List.all_eq_true, decide_eq_true_eq]
 constructor
 ·intro h
  refine List.ext_getElem (by omega) fun i h1 h2 => ?_
  have := h i (List.mem_range.2 (by omega))
  simpa [List.getD, h1, h2] using this
 ·rintro rfl i _
  simp
theorem run_equal_arr {P : Program} {w : World} {kt e : TypeId} {n : Nat} {ti : TypeInfo} (hu : P.underlying kt = some (.array n e)) (he : P.underlying e = some (.int .i64)) (ce : P.cellsOf e = 1) (hi : P.info? e = some ti) {a b : List Int} (ha : a.length = n) (hb : b.length = n) :
  (Op.equal kt (encArr a) (encArr b)).run P w = .ok (decide (a = b)) w := by
 unfold Op.equal encArr
 rw [show Op.maxDepth = (Op.maxDepth - 2) + 1 + 1 from rfl, run_equalIn_array w _ _ _ hu hi, ce, run_eqItems_ints he a b _ fun i hi => by have := List.mem_range.1 hi; omega, all_range_eq ha hb]
theorem findAsking_arr {α : Type} {P : Program} {w : World} {kt e : TypeId} {n : Nat} {ti : TypeInfo} (hu : P.underlying kt = some (.array n e)) (he : P.underlying e = some (.int .i64)) (ce : P.cellsOf e = 1) (hi : P.info? e = some ti) (enc : α → Value) {key : List Int} (hk : key.length = n) :
  ∀ (l : List MapEntry) (m : List (List Int × α)) (i : Nat), l.length = m.length → (∀ x ∈ m, x.1.length = n) → (∀ j (h : j < m.length) (h' : j < l.length), l[j].key = encArr (m[j]).1 ∧ l[j].val = enc (m[j]).2) →
   (Instr.findAsking kt (encArr key) l i).run P w = .ok ((mfindK key m i).map fun p => (p.1, enc p.2)) w
 | [], [], i, _, _, _ => rfl
 | [], _ :: _, _, h, _, _ => by cases h
 | _ :: _, [], _, h, _, _ => by cases h
 | x :: l, (kk, b) :: m, i, hl, hm, h => by
  have h0 := h 0 (by simp) (by simp)
  have ih := findAsking_arr hu he ce hi (w := w) enc hk l m (i + 1) (by simpa using hl) (fun y hy => hm y (by simp [hy])) (fun j h1 h2 => by
   have := h (j + 1) (by simpa using h1) (by simpa using h2)
   simpa using this)
  simp only [List.getElem_cons_zero] at h0
  unfold Instr.findAsking mfindK
  rw [Sem.run_bind, h0.1, run_equal_arr hu he ce hi hk (hm (kk, b) (by simp))]
  simp only [Result.andThen_ok]
  by_cases e1 : key = kk
  ·simp [e1, h0.2]
  ·simp only [e1, decide_false]
   simpa using ih
theorem sameBits_arr : ∀ (l : List Int), (((l.map fun n => Value.int .i64 n).zip (l.map fun n => Value.int .i64 n)).all fun (x, y) => Instr.sameBits 9999 x y) = true
 | [] => rfl
 | x :: l => by
  have := sameBits_arr l
  simp only [List.map_cons, List.zip_cons_cons, List.all_cons, this, Bool.and_true]
  simp [Instr.sameBits]
theorem keyThatStays_arr {P : Program} {w : World} (l : List Int) : (Instr.keyThatStays (encArr l) (encArr l)).run P w = .ok (encArr l) w := by
 have h : Instr.sameBits 10000 (encArr l) (encArr l) = true := by
  unfold encArr
  rw [show (10000 : Nat) = 9999 + 1 from rfl, Instr.sameBits]
  ·have := sameBits_arr l
   simpa using this
  all_goals simp
 simp [Instr.keyThatStays, h]
theorem checkKey_arr {P : Program} {w : World} {kt e : TypeId} {n : Nat} {ti : TypeInfo} (hu : P.underlying kt = some (.array n e)) (he : P.underlying e = some (.int .i64)) (ce : P.cellsOf e = 1) (hi : P.info? e = some ti) {a : List Int} (ha : a.length = n) (em : Bool) :
  (Instr.checkKey em 10000 kt (encArr a)).run P w = .ok () w := by
 have hp : P.plainKey e = true := by simp [Program.plainKey, he]
 unfold encArr
 rw [show (10000 : Nat) = 9999 + 1 from rfl, Instr.checkKey]
 simp only [Sem.run_bind, run_underlying hu, Result.andThen_ok]
 simp only [Std.Legacy.Range.forIn_eq_forIn_range', Std.Legacy.Range.size, Nat.sub_zero, Nat.add_one_sub_one, Nat.div_one]
 have hall : ∀ i ∈ List.range' 0 n, i < a.length := fun i hi => by simp at hi; omega
 generalize List.range' 0 n = is at hall
 induction is with
 | nil => simp
 | cons j is ih =>
  have hj := hall j (by simp)
  have p1 : (part e (a.map fun n => Value.int .i64 n).toArray (j * 1)).run P w = .ok (.int .i64 (a.getD j 0)) w := run_part_plain w hp (by simp [hj, List.getD])
  have p2 : (Instr.checkKey em 9999 e (.int .i64 (a.getD j 0))).run P w = .ok () w := MapKept.run_checkKey he (by simp [MapKept.IsKey]) em 9998
  simp only [List.forIn_cons, Sem.run_bind, run_sizeOf w hi, Result.andThen_ok, ce, p1, p2]
  simpa using ih fun i hi => hall i (by simp [hi])
def keyInts : List AV → Option (List Int)
 | [] => some []
 | .int .i64 n :: r => match keyInts r with
  | some l => some (n :: l)
  | none => none
 | _ => none
def keyA : AV → Option (List Int)
 | .agg l => keyInts l
 | .aggp (.ints .i64 l) => some l
 | _ => none
theorem keyInts_spec : ∀ {l : List AV} {key : List Int}, keyInts l = some key → l = key.map fun n => .int .i64 n
 | [], key, h => by simp [keyInts] at h; subst h; rfl
 | a :: r, key, h => by
  unfold keyInts at h
  split at h
  ·rename_i e; cases e
  ·rename_i n r' e
   cases e
   split at h
   ·rename_i l hl
    cases h
    simp [keyInts_spec hl]
   ·cases h
  ·cases h
theorem keyA_enc {w : World} {S : CellSet} {β : Nat → Nat → Option Nat} {objs : List AObj} {av : AV} {v : Value} {key : List Int} (h : keyA av = some key) (hv : TV w S β objs av v) : v = encArr key := by
 have int : ∀ {n : Int} {u : Value}, TV w S β objs (.int .i64 n) u → u = .int .i64 n := fun h => by cases h with | pure h => cases h; rfl
 unfold keyA at h
 split at h
 ·rename_i l
  have hl := keyInts_spec h
  subst hl
  have key2 : ∀ {vs : Array Value}, (key.map fun n => AV.int .i64 n).length = vs.size → (∀ c (h : c < (key.map fun n => AV.int .i64 n).length), TV w S β objs ((key.map fun n => AV.int .i64 n)[c]) (vs[c]!)) → (Value.agg vs) = encArr key := fun {vs} hs hr => by
   unfold encArr
   congr 1
   refine Array.ext (by simpa using hs.symm) fun c h1 h2 => ?_
   have hc : c < (key.map fun n => AV.int .i64 n).length := by omega
   have := hr c hc
   rw [getElem!_pos vs c h1] at this
   simp only [List.getElem_map] at this
   rw [int this]
   simp
  cases hv with
  | pure hv => cases hv with | agg hs hr => exact key2 hs fun c hc => .pure (hr c hc)
  | agg hs hr => exact key2 hs hr
 ·rename_i l
  cases h
  cases hv with
  | pure hv => cases hv with
   | @aggp _ vs hwf hs hr =>
    unfold encArr
    congr 1
    simp only [Pay.len, Pay.sz, Nat.mul_one] at hs
    refine Array.ext (by simpa using hs.symm) fun c h1 h2 => ?_
    have hc : c < key.length := by omega
    have := hr c 0 (by simp [Pay.at]) (by simpa [Pay.len] using hc)
    simp only [Pay.at, Pay.sz, Nat.mul_one, Nat.add_zero, List.getElem_cons_zero] at this
    rw [getElem!_pos vs c h1] at this
    rw [int (.pure this)]
    simp [List.getD, hc]
 ·cases h
end Go.AM
end

section
namespace Go.AM
open Go
def strK (s : ByteArray) : List Int := s.data.toList.map fun c => (c.toNat : Int)
def keysB {α : Type} (m : List (List Int × α)) : Prop := ∀ x ∈ m, ∀ c ∈ x.1, 0 ≤ c ∧ c < 256
theorem encKey_strK (s : ByteArray) : encKey .str (strK s) = .string s := by
 show Value.string ⟨((strK s).map fun n => n.toNat.toUInt8).toArray⟩ = .string s
 congr 1
 have : (strK s).map (fun n => n.toNat.toUInt8) = s.data.toList := by
  unfold strK
  rw [List.map_map]
  conv => rhs; rw [← List.map_id s.data.toList]
  refine List.map_congr_left fun c _ => ?_
  show ((c.toNat : Int).toNat).toUInt8 = c
  simp
 rw [this]
theorem strK_of {l : List Int} (h : ∀ c ∈ l, 0 ≤ c ∧ c < 256) : strK ⟨(l.map fun n => n.toNat.toUInt8).toArray⟩ = l := by
 unfold strK
 show ((l.map fun n => n.toNat.toUInt8).toArray.toList.map fun c => (c.toNat : Int)) = l
 rw [List.toList_toArray, List.map_map]
 conv => rhs; rw [← List.map_id l]
 refine List.map_congr_left fun c hc => ?_
 have := h c hc
 show ((c.toNat.toUInt8.toNat : Nat) : Int) = c
 have e : c.toNat.toUInt8.toNat = c.toNat := by
  simp [Nat.toUInt8, UInt8.toNat_ofNat]
  omega
 rw [e]; omega
theorem strK_inj {s t : ByteArray} (h : strK s = strK t) : s = t := by
 have := encKey_strK s
 rw [h, encKey_strK t] at this
 exact (Value.string.inj this).symm
theorem strK_byte (s : ByteArray) : ∀ c ∈ strK s, 0 ≤ c ∧ c < 256 := fun c hc => by
 obtain ⟨b, _, rfl⟩ := List.mem_map.1 hc
 have := b.toNat_lt
 omega
theorem findNow_str {α : Type} {s : ByteArray} (enc : α → Value) : ∀ (l : List MapEntry) (m : List (List Int × α)) (i : Nat), l.length = m.length → keysB m →
  (∀ j (h : j < m.length) (h' : j < l.length), l[j].key = encKey .str (m[j]).1 ∧ l[j].val = enc (m[j]).2) →
  Instr.findNow .string (.string s) l i = some ((mfindK (strK s) m i).map fun p => (p.1, enc p.2))
 | [], [], i, _, _, _ => rfl
 | [], _ :: _, _, h, _, _ => by cases h
 | _ :: _, [], _, h, _, _ => by cases h
 | e :: l, (kk, b) :: m, i, hl, hb, h => by
  have h0 := h 0 (by simp) (by simp)
  have ih := findNow_str (s := s) enc l m (i + 1) (by simpa using hl) (fun x hx => hb x (by simp [hx])) (fun j h1 h2 => by
   have := h (j + 1) (by simpa using h1) (by simpa using h2)
   simpa using this)
  simp only [List.getElem_cons_zero] at h0
  have hkk := strK_of (hb (kk, b) (by simp))
  unfold Instr.findNow mfindK
  rw [h0.1]
  simp only [encKey, Instr.sameNow]
  have key : (s == (⟨(kk.map fun n => n.toNat.toUInt8).toArray⟩ : ByteArray)) = decide (strK s = kk) := by
   rw [Bool.eq_iff_iff, MapKept.bytes_beq, decide_eq_true_eq]
   constructor
   ·intro e
    rw [e]; exact hkk
   ·intro e1
    exact strK_inj (by rw [hkk, e1])
  rw [key]
  by_cases e1 : strK s = kk
  ·simp [e1, h0.2]
  ·simp only [e1, decide_false]
   exact ih
end Go.AM
end

section
namespace Go.AM
open Go
def mfind {α : Type} (n : Int) : List (List Int × α) → Nat → Option (Nat × α)
 | [], _ => none
 | (l, b) :: r, i => match decide (n = l.getD 0 0) with
  | true => some (i, b)
  | false => mfind n r (i + 1)
def mgetB (n : Int) (m : List (List Int × Bool)) : Bool := match mfind n m 0 with
 | some (_, b) => b
 | none => false
def mhas {α : Type} (n : Int) (m : List (List Int × α)) : Bool := (mfind n m 0).isSome
def mput {α : Type} (n : Int) (b : α) (m : List (List Int × α)) : List (List Int × α) := match mfind n m 0 with
 | some (i, _) => m.modify i fun e => (e.1, b)
 | none => m ++ [([n], b)]
theorem findNow_int {α : Type} {k : IntKind} {n : Int} (enc : α → Value) : ∀ (l : List MapEntry) (m : List (List Int × α)) (i : Nat), l.length = m.length →
  (∀ j (h : j < m.length) (h' : j < l.length), l[j].key = encKey (.int k) (m[j]).1 ∧ l[j].val = enc (m[j]).2) →
  Instr.findNow (.int k) (.int k n) l i = some ((mfind n m i).map fun p => (p.1, enc p.2))
 | [], [], i, _, _ => rfl
 | [], _ :: _, _, h, _ => by cases h
 | _ :: _, [], _, h, _ => by cases h
 | e :: l, (kk, b) :: m, i, hl, h => by
  have h0 := h 0 (by simp) (by simp)
  have ih := findNow_int (n := n) (k := k) enc l m (i + 1) (by simpa using hl) (fun j h1 h2 => by
   have := h (j + 1) (by simpa using h1) (by simpa using h2)
   simpa using this)
  simp only [List.getElem_cons_zero] at h0
  unfold Instr.findNow mfind
  rw [h0.1]
  simp only [encKey, Instr.sameNow, if_true]
  by_cases e1 : n = kk.getD 0 0
  ·simp [e1, h0.2]
  ·have e2 : (n == kk.getD 0 0) = false := by simpa using e1
   simp only [e2, e1, decide_false]
   exact ih
def mgetKB (key : List Int) (m : List (List Int × Bool)) : Bool := match mfindK key m 0 with
 | some (_, b) => b
 | none => false
def mgetKI (key : List Int) (m : List (List Int × Int)) : Int := match mfindK key m 0 with
 | some (_, b) => b
 | none => 0
def mhasK {α : Type} (key : List Int) (m : List (List Int × α)) : Bool := (mfindK key m 0).isSome
def keysLen {α : Type} (n : Nat) (m : List (List Int × α)) : Prop := ∀ x ∈ m, x.1.length = n
def lookupK (T : Tys) (objs : List AObj) (kt et : TypeId) (i : Nat) (key : List Int) (ok : Bool) : PR :=
 match T kt with
 | some { k := .array n e, .. } => match T e with
  | some { k := .int .i64, sz := 1, .. } => match objs[i]?, T et, ok with
   | some (.mapB .arr m), some { zero := .bool false, .. }, false => .gval (key.length = n ∧ keysLen n m) (.bool (mgetKB key m))
   | some (.mapB .arr m), some { zero := .bool false, .. }, true => .gval (key.length = n ∧ keysLen n m) (.tup [.bool (mgetKB key m), .bool (mhasK key m)])
   | some (.mapI .arr m), some { zero := .int .i64 0, .. }, false => .gval (key.length = n ∧ keysLen n m) (.int .i64 (mgetKI key m))
   | some (.mapI .arr m), some { zero := .int .i64 0, .. }, true => .gval (key.length = n ∧ keysLen n m) (.tup [.int .i64 (mgetKI key m), .bool (mhasK key m)])
   | _, _, _ => .no
  | _ => .no
 | _ => .no
def lkV (r : Option (Nat × Value)) (zv : Value) : Value := match r with
 | some (_, v) => v
 | none => zv
def lookupS (T : Tys) (objs : List AObj) (kt et : TypeId) (i : Nat) (s : ByteArray) (ok : Bool) : PR :=
 match T kt, objs[i]?, T et, ok with
 | some { k := .str, .. }, some (.mapB .str m), some { zero := .bool false, .. }, false => .gval (keysB m) (.bool (mgetKB (strK s) m))
 | some { k := .str, .. }, some (.mapB .str m), some { zero := .bool false, .. }, true => .gval (keysB m) (.tup [.bool (mgetKB (strK s) m), .bool (mhasK (strK s) m)])
 | _, _, _, _ => .no
theorem run_lookup_str {P : Program} {w : World} {t kt et : TypeId} {s : ByteArray} {b : Nat} {es : Array MapEntry} {cl : Nat} {ok : Bool} {r : Option (Nat × Value)} {zv : Value} (hm : ∀ w, (underlying t).run P w = .ok (.map kt et) w) (hk : P.underlying kt = some .string)
  (hb : w.heap[b]? = some (.map es cl)) (hf : Instr.findNow .string (.string s) es.toList 0 = some r) (hz : ∀ w, (zeroValue et).run P w = .ok zv w) :
  (Instr.lookup t (.map (some b)) (.string s) ok).run P w = .ok (if ok then .tuple #[lkV r zv, .bool r.isSome] else lkV r zv) w := by
 unfold Instr.lookup
 rw [Sem.run_bind, hm]
 simp only [Result.andThen]
 simp only [Sem.run_bind, MapKept.run_getObj_map hb, Result.andThen, pure_bind]
 rw [MapKept.run_checkKey hk (by simp [MapKept.IsKey])]
 simp only [Result.andThen]
 rw [MapKept.run_findKey hk hf]
 simp only [Result.andThen]
 cases r with
 | none => cases ok <;> simp [hz, lkV]
 | some p => cases ok <;> simp [lkV]
theorem lookupS_ok {P : Program} {T : Tys} (hT : TyOk P T) {cx : Cx} {β : Nat → Nat → Option Nat} {st : St} {tmps : Array Value} {w : World} (hfr : FR cx β st tmps w) {t kt et : TypeId} {a1 a2 : Nat} {a3 : AV} (ht : T t = some { sz := a1, bytes := a2, k := .map kt et, zero := a3 }) {i : Nat} {s : ByteArray} (vx : Value) (ok : Bool)
  (hx : TV w (cx.S β st.objs) β st.objs (.mapr i) vx) : PRok P false (cx.S β st.objs) β st.objs w (Instr.lookup t vx (.string s) ok) (lookupS T st.objs kt et i s ok) := by
 unfold lookupS
 obtain ⟨d, hd1, hd2⟩ := hT.underlying ht
 cases d <;> simp only [TKok] at hd1
 obtain ⟨hd3, hd4⟩ := hd1
 rw [hd3, hd4] at hd2
 have runB : ∀ {m : List (List Int × Bool)} {k1 k2 k3} {d1 d2 d3}, T kt = some { sz := k1, bytes := k2, k := .str, zero := k3 } → st.objs[i]? = some (.mapB .str m) → T et = some { sz := d1, bytes := d2, k := d3, zero := .bool false } → keysB m → ∀ w', Cls false (cx.S β st.objs) w w' →
   (Instr.lookup t vx (.string s) ok).run P w' = .ok (if ok then .tuple #[.bool (mgetKB (strK s) m), .bool (mhasK (strK s) m)] else .bool (mgetKB (strK s) m)) w' := fun {m k1 k2 k3 d1 d2 d3} hkt ho het hg w' hc => by
  obtain ⟨_, b, es, cl, hb, h1, h2, h3⟩ := hfr.objs i _ ho
  have hvx : vx = .map (some b) := by
   cases hx with
   | pure h => cases h
   | mapr h => rw [hb] at h; cases h; rfl
  subst hvx
  obtain ⟨zv, hz1, hz2⟩ := hT.zeroValue het
  have hzv : zv = .bool false := by
   simp only at hz1
   cases zv <;> simp [avOf, ofConst, leafC] at hz1
   exact hz1 ▸ rfl
  subst hzv
  have hkt' : P.underlying kt = some .string := by
   obtain ⟨d, hd, hk'⟩ := (hT _ _ hkt).und
   cases d <;> simp only [TKok] at hk'
   exact hd
  have h1' : w'.heap[b]? = some (.map es cl) := by
   rw [hc.block b (Array.getElem?_eq_some_iff.1 h1).1 id]; exact h1
  rw [run_lookup_str hd2 hkt' h1' (findNow_str Value.bool es.toList m 0 (by simpa using h2) hg fun j hj hj' => by
   have hj2 : j < es.size := by simpa using hj'
   have := h3 j hj
   rw [getElem!_pos es j hj2] at this
   simpa using this) hz2]
  unfold mgetKB mhasK
  cases mfindK (strK s) m 0 <;> rfl
 split
 ·rename_i hkt ho het
  exact fun hg => ⟨_, runB hkt ho het hg, by simpa using .pure (.bool _)⟩
 ·rename_i hkt ho het
  refine fun hg => ⟨_, runB hkt ho het hg, ?_⟩
  simp only [if_true]
  refine .pure (.tup rfl fun c hc => ?_)
  match c, hc with
  | 0, _ => exact .bool _
  | 1, _ => exact .bool _
 ·trivial
def lookupA (T : Tys) (s : Bool) (objs : List AObj) (t : TypeId) (x ix : AV) (ok : Bool) : PR :=
 match s, x, ix, T t with
 | false, .mapr i, .int k n, some { k := .map kt et, .. } => match objs[i]?, T kt, T et with
  | some (.mapB (.int k1) m), some { k := .int k2, .. }, some { zero := .bool false, .. } => match decide (k = k1), decide (k = k2), ok with
   | true, true, false => .val (.bool (mgetB n m))
   | true, true, true => .val (.tup [.bool (mgetB n m), .bool (mhas n m)])
   | _, _, _ => .no
  | _, _, _ => .no
 | false, .mapr i, ix, some { k := .map kt et, .. } => match keyA ix with
  | some key => lookupK T objs kt et i key ok
  | none => match ix with
   | .str s => lookupS T objs kt et i s ok
   | _ => .no
 | _, _, _, _ => .no
theorem run_lookup_map {P : Program} {w : World} {t kt et : TypeId} {k : IntKind} {n : Int} {b : Nat} {es : Array MapEntry} {cl : Nat} {ok : Bool} {r : Option (Nat × Value)} {zv : Value} (hm : ∀ w, (underlying t).run P w = .ok (.map kt et) w) (hk : P.underlying kt = some (.int k))
  (hb : w.heap[b]? = some (.map es cl)) (hf : Instr.findNow (.int k) (.int k n) es.toList 0 = some r) (hz : ∀ w, (zeroValue et).run P w = .ok zv w) :
  (Instr.lookup t (.map (some b)) (.int k n) ok).run P w = .ok (if ok then .tuple #[lkV r zv, .bool r.isSome] else lkV r zv) w := by
 unfold Instr.lookup
 rw [Sem.run_bind, hm]
 simp only [Result.andThen]
 simp only [Sem.run_bind, MapKept.run_getObj_map hb, Result.andThen, pure_bind]
 rw [MapKept.run_checkKey hk (by simp [MapKept.IsKey])]
 simp only [Result.andThen]
 rw [MapKept.run_findKey hk hf]
 simp only [Result.andThen]
 cases r with
 | none => cases ok <;> simp [hz, lkV]
 | some p => cases ok <;> simp [lkV]
theorem arr_key {P : Program} {T : Tys} (hT : TyOk P T) {kt e n : Nat} {sz by1 by2 : Nat} {z1 z2 : AV} (hkt : T kt = some { sz, bytes := by1, k := .array n e, zero := z1 }) (he : T e = some { sz := 1, bytes := by2, k := .int .i64, zero := z2 }) :
  P.underlying kt = some (.array n e) ∧ P.underlying e = some (.int .i64) ∧ P.cellsOf e = 1 ∧ ∃ ti, P.info? e = some ti := by
 obtain ⟨d, hd, hk⟩ := (hT _ _ hkt).und
 cases d <;> simp only [TKok] at hk
 obtain ⟨rfl, rfl⟩ := hk
 obtain ⟨d2, hd2, hk2⟩ := (hT _ _ he).und
 cases d2 <;> simp only [TKok] at hk2
 subst hk2
 obtain ⟨inf, h1, h2, _⟩ := (hT _ _ he).info
 exact ⟨hd, hd2, by simp [Program.cellsOf, h1, h2], inf, h1⟩
theorem run_lookup_arr {P : Program} {w : World} {t kt et e : TypeId} {n : Nat} {ti : TypeInfo} {key : List Int} {b : Nat} {es : Array MapEntry} {cl : Nat} {ok : Bool} {r : Option (Nat × Value)} {zv : Value} (hm : ∀ w, (underlying t).run P w = .ok (.map kt et) w) (hk : P.underlying kt = some (.array n e))
  (he : P.underlying e = some (.int .i64)) (ce : P.cellsOf e = 1) (hi : P.info? e = some ti) (hl : key.length = n) (hb : w.heap[b]? = some (.map es cl)) (hf : (Instr.findAsking kt (encArr key) es.toList 0).run P w = .ok r w) (hz : ∀ w, (zeroValue et).run P w = .ok zv w) :
  (Instr.lookup t (.map (some b)) (encArr key) ok).run P w = .ok (if ok then .tuple #[lkV r zv, .bool r.isSome] else lkV r zv) w := by
 unfold Instr.lookup
 rw [Sem.run_bind, hm]
 simp only [Result.andThen]
 simp only [Sem.run_bind, MapKept.run_getObj_map hb, Result.andThen, pure_bind]
 rw [checkKey_arr hk he ce hi hl]
 simp only [Result.andThen]
 rw [run_findKey_eq w (by rw [hk]), hf]
 simp only [Result.andThen]
 cases r with
 | none => cases ok <;> simp [hz, lkV]
 | some p => cases ok <;> simp [lkV]
theorem lookupK_ok {P : Program} {T : Tys} (hT : TyOk P T) {cx : Cx} {β : Nat → Nat → Option Nat} {st : St} {tmps : Array Value} {w : World} (hfr : FR cx β st tmps w) {t kt et : TypeId} {a1 a2 : Nat} {a3 : AV} (ht : T t = some { sz := a1, bytes := a2, k := .map kt et, zero := a3 }) {i : Nat} {key : List Int} (vx : Value) (ok : Bool)
  (hx : TV w (cx.S β st.objs) β st.objs (.mapr i) vx) : PRok P false (cx.S β st.objs) β st.objs w (Instr.lookup t vx (encArr key) ok) (lookupK T st.objs kt et i key ok) := by
 unfold lookupK
 obtain ⟨d, hd1, hd2⟩ := hT.underlying ht
 cases d <;> simp only [TKok] at hd1
 obtain ⟨hd3, hd4⟩ := hd1
 rw [hd3, hd4] at hd2
 split
 ·rename_i b1 b2 n e b3 hkt
  split
  ·rename_i c1 c2 he
   obtain ⟨u1, u2, u3, ti, u4⟩ := arr_key hT hkt he
   have runB : ∀ {m : List (List Int × Bool)} {d1 d2 d3}, st.objs[i]? = some (.mapB .arr m) → T et = some { sz := d1, bytes := d2, k := d3, zero := .bool false } → key.length = n ∧ keysLen n m → ∀ w', Cls false (cx.S β st.objs) w w' →
     (Instr.lookup t vx (encArr key) ok).run P w' = .ok (if ok then .tuple #[.bool (mgetKB key m), .bool (mhasK key m)] else .bool (mgetKB key m)) w' := fun {m d1 d2 d3} ho het hg w' hc => by
    obtain ⟨_, b, es, cl, hb, h1, h2, h3⟩ := hfr.objs i _ ho
    have hvx : vx = .map (some b) := by
     cases hx with
     | pure h => cases h
     | mapr h => rw [hb] at h; cases h; rfl
    subst hvx
    obtain ⟨zv, hz1, hz2⟩ := hT.zeroValue het
    have hzv : zv = .bool false := by
     simp only at hz1
     cases zv <;> simp [avOf, ofConst, leafC] at hz1
     exact hz1 ▸ rfl
    subst hzv
    have h1' : w'.heap[b]? = some (.map es cl) := by
     rw [hc.block b (Array.getElem?_eq_some_iff.1 h1).1 id]; exact h1
    rw [run_lookup_arr hd2 u1 u2 u3 u4 hg.1 h1' (findAsking_arr u1 u2 u3 u4 Value.bool hg.1 es.toList m 0 (by simpa using h2) hg.2 fun j hj hj' => by
     have hj2 : j < es.size := by simpa using hj'
     have := h3 j hj
     rw [getElem!_pos es j hj2] at this
     simpa [encArr, encKey] using this) hz2]
    unfold mgetKB mhasK
    cases mfindK key m 0 <;> rfl
   have runI : ∀ {m : List (List Int × Int)} {d1 d2 d3}, st.objs[i]? = some (.mapI .arr m) → T et = some { sz := d1, bytes := d2, k := d3, zero := .int .i64 0 } → key.length = n ∧ keysLen n m → ∀ w', Cls false (cx.S β st.objs) w w' →
     (Instr.lookup t vx (encArr key) ok).run P w' = .ok (if ok then .tuple #[.int .i64 (mgetKI key m), .bool (mhasK key m)] else .int .i64 (mgetKI key m)) w' := fun {m d1 d2 d3} ho het hg w' hc => by
    obtain ⟨_, b, es, cl, hb, h1, h2, h3⟩ := hfr.objs i _ ho
    have hvx : vx = .map (some b) := by
     cases hx with
     | pure h => cases h
     | mapr h => rw [hb] at h; cases h; rfl
    subst hvx
    obtain ⟨zv, hz1, hz2⟩ := hT.zeroValue het
    have hzv : zv = .int .i64 0 := by
     simp only at hz1
     cases zv <;> simp [avOf, ofConst, leafC] at hz1
     obtain ⟨rfl, rfl⟩ := hz1
     rfl
    subst hzv
    have h1' : w'.heap[b]? = some (.map es cl) := by
     rw [hc.block b (Array.getElem?_eq_some_iff.1 h1).1 id]; exact h1
    rw [run_lookup_arr hd2 u1 u2 u3 u4 hg.1 h1' (findAsking_arr u1 u2 u3 u4 (Value.int .i64) hg.1 es.toList m 0 (by simpa using h2) hg.2 fun j hj hj' => by
     have hj2 : j < es.size := by simpa using hj'
     have := h3 j hj
     rw [getElem!_pos es j hj2] at this
     simpa [encArr, encKey] using this) hz2]
    unfold mgetKI mhasK
    cases mfindK key m 0 <;> rfl
   split
   ·rename_i ho het
    exact fun hg => ⟨_, runB ho het hg, by simpa using .pure (.bool _)⟩
   ·rename_i ho het
    refine fun hg => ⟨_, runB ho het hg, ?_⟩
    simp only [if_true]
    refine .pure (.tup rfl fun c hc => ?_)
    match c, hc with
    | 0, _ => exact .bool _
    | 1, _ => exact .bool _
   ·rename_i ho het
    exact fun hg => ⟨_, runI ho het hg, by simpa using .pure (.int _ _)⟩
   ·rename_i ho het
    refine fun hg => ⟨_, runI ho het hg, ?_⟩
    simp only [if_true]
    refine .pure (.tup rfl fun c hc => ?_)
    match c, hc with
    | 0, _ => exact .int _ _
    | 1, _ => exact .bool _
   ·trivial
  ·trivial
 ·trivial
theorem lookupA_ok {P : Program} {T : Tys} (hT : TyOk P T) {s : Bool} {cx : Cx} {β : Nat → Nat → Option Nat} {st : St} {tmps : Array Value} {w : World} (hfr : FR cx β st tmps w) (t : TypeId) (x ix : AV) (vx vix : Value) (ok : Bool)
  (hx : TV w (cx.S β st.objs) β st.objs x vx) (hix : TV w (cx.S β st.objs) β st.objs ix vix) : PRok P s (cx.S β st.objs) β st.objs w (Instr.lookup t vx vix ok) (lookupA T s st.objs t x ix ok) := by
 unfold lookupA
 split
 ·rename_i i k n a1 a2 kt et a3 ht
  split
  ·rename_i k1 m b1 b2 k2 b3 c1 c2 c3 ho hkt het
   have key : k = k1 → k = k2 → ∃ cl b es, vx = .map (some b) ∧ vix = .int k n ∧ w.heap[b]? = some (.map es cl) ∧ Instr.findNow (.int k) (.int k n) es.toList 0 = some ((mfind n m 0).map fun p => (p.1, Value.bool p.2)) := fun e1 e2 => by
    subst e1 e2
    obtain ⟨_, b, es, cl, hb, h1, h2, h3⟩ := hfr.objs i _ ho
    have hvx : vx = .map (some b) := by
     cases hx with
     | pure h => cases h
     | mapr h => rw [hb] at h; cases h; rfl
    have hvi : vix = .int k n := by cases hix with | pure h => cases h; rfl
    refine ⟨cl, b, es, hvx, hvi, h1, findNow_int Value.bool es.toList m 0 (by simpa using h2) fun j hj hj' => ?_⟩
    have hj2 : j < es.size := by simpa using hj'
    have := h3 j hj
    rw [getElem!_pos es j hj2] at this
    simpa using this
   obtain ⟨d, hd1, hd2⟩ := hT.underlying ht
   cases d <;> simp only [TKok] at hd1
   obtain ⟨hd3, hd4⟩ := hd1
   rw [hd3, hd4] at hd2
   obtain ⟨zv, hz1, hz2⟩ := hT.zeroValue het
   have hzv : zv = .bool false := by
    simp only at hz1
    cases zv <;> simp [avOf, ofConst, leafC] at hz1
    exact hz1 ▸ rfl
   subst hzv
   have hkt' : P.underlying kt = some (.int k2) := by
    obtain ⟨d, hd, hk'⟩ := (hT _ _ hkt).und
    cases d <;> simp only [TKok] at hk'
    subst hk'
    exact hd
   have run : k = k1 → k = k2 → ∀ w', Cls false (cx.S β st.objs) w w' → (Instr.lookup t vx vix ok).run P w' = .ok (if ok then .tuple #[.bool (mgetB n m), .bool (mhas n m)] else .bool (mgetB n m)) w' := fun e1 e2 w' hc => by
    obtain ⟨cl, b, es, rfl, rfl, h1, h2⟩ := key e1 e2
    have h1' : w'.heap[b]? = some (.map es cl) := by
     rw [hc.block b (Array.getElem?_eq_some_iff.1 h1).1 id]; exact h1
    rw [run_lookup_map hd2 (by rw [e2]; exact hkt') h1' h2 hz2]
    unfold mgetB mhas
    cases mfind n m 0 <;> rfl
   split
   ·rename_i e1 e2
    exact ⟨_, run (of_decide_eq_true e1) (of_decide_eq_true e2), by simpa using .pure (.bool _)⟩
   ·rename_i e1 e2
    refine ⟨_, run (of_decide_eq_true e1) (of_decide_eq_true e2), ?_⟩
    simp only [if_true]
    refine .pure (.tup rfl fun c hc => ?_)
    match c, hc with
    | 0, _ => exact .bool _
    | 1, _ => exact .bool _
   ·trivial
  ·trivial
 ·rename_i i a1 a2 kt et a3 hne ht
  split
  ·rename_i key hkey
   rw [keyA_enc hkey hix]
   exact lookupK_ok hT hfr ht vx ok hx
  ·split
   ·rename_i s _
    have hvs : vix = .string s := by cases hix with | pure h => cases h; rfl
    rw [hvs]
    exact lookupS_ok hT hfr ht vx ok hx
   ·trivial
 ·trivial
end Go.AM
end

section
namespace Go.AM
open Go
def cellsA (x : AV) : Option (List AV) :=
 match x with
 | .agg cs => some cs
 | .junk | .aggp _ | .tup _ => none
 | .mh _ .agg => none
 | .mh _ (.tk _) => none
 | .lit v => match v with
  | .agg _ => none
  | v => some [.lit v]
 | x => some [x]
theorem cellsA_ok {w S β objs} {x : AV} {v : Value} {xs : List AV} (hx : TV w S β objs x v) (h : cellsA x = some xs) :
  xs.length = v.cells.size ∧ ∀ c (hc : c < xs.length), TV w S β objs (xs[c]) (v.cells[c]!) := by
 cases x with
 | agg cs =>
  simp [cellsA] at h
  subst h
  cases hx with
  | pure hx => cases hx with
   | agg hl hr => exact ⟨hl, fun c h => .pure (hr c h)⟩
  | agg hl hr => exact ⟨hl, hr⟩
 | lit v' =>
  cases hx with | pure hx => cases hx with | lit =>
  cases v <;> simp [cellsA] at h <;> subst h <;> exact ⟨rfl, fun c hc => by
   have : c = 0 := by simpa using hc
   subst this
   exact .pure (.lit _)⟩
 | junk => simp [cellsA] at h
 | aggp => simp [cellsA] at h
 | tup => simp [cellsA] at h
 | mh i x =>
  have hv : v.cells = #[v] := by
   cases hx with
   | pure hx => cases hx
   | mh h1 hm => rcases hm.one (fun e => by subst e; simp [cellsA] at h) (fun l e => by subst e; simp [cellsA] at h) with ⟨a, l, c, e⟩ | ⟨a, e⟩ <;> rw [e] <;> rfl
  have hxs : xs = [.mh i x] := by cases x <;> simp [cellsA] at h <;> exact h.symm
  subst hxs
  rw [hv]
  refine ⟨rfl, fun c hc => ?_⟩
  have : c = 0 := by simpa using hc
  subst this
  exact hx
 | _ =>
  simp [cellsA] at h
  subst h
  have hv : v.cells = #[v] := by
   cases hx with
   | pure hx => cases hx <;> rfl
   | _ => rfl
  rw [hv]
  refine ⟨rfl, fun c hc => ?_⟩
  have : c = 0 := by simpa using hc
  subst this
  exact hx
theorem foldl_set (off : Nat) : ∀ (l : List Value) (k0 : Nat) (cs : Array Value),
  ((l.zipIdx k0).foldl (fun cs p => cs.setIfInBounds (off + p.2) p.1) cs).size = cs.size ∧
  ∀ k, off + k0 + l.length ≤ cs.size → k < cs.size → ((l.zipIdx k0).foldl (fun cs p => cs.setIfInBounds (off + p.2) p.1) cs)[k]! = if off + k0 ≤ k ∧ k < off + k0 + l.length then l.getD (k - (off + k0)) (.bool false) else cs[k]!
 | [], k0, cs => by
  refine ⟨rfl, fun k _ _ => ?_⟩
  simp; intro h1 h2; omega
 | v :: l, k0, cs => by
  have ih := foldl_set off l (k0 + 1) (cs.setIfInBounds (off + k0) v)
  simp only [List.zipIdx_cons, List.foldl_cons]
  refine ⟨by rw [ih.1]; simp, fun k h hk => ?_⟩
  simp only [List.length_cons] at h
  rw [ih.2 k (by simp; omega) (by simp; exact hk)]
  simp only [List.length_cons]
  by_cases h1 : off + (k0 + 1) ≤ k ∧ k < off + (k0 + 1) + l.length
  ·rw [if_pos h1, if_pos (by omega)]
   obtain ⟨m, hm⟩ : ∃ m, k - (off + k0) = m + 1 := ⟨k - (off + k0) - 1, by omega⟩
   rw [hm]
   have hm' : k - (off + (k0 + 1)) = m := by omega
   rw [hm']
   rfl
  ·rw [if_neg h1]
   by_cases h2 : k = off + k0
   ·subst h2
    rw [if_pos (by omega)]
    simp [hk]
   ·rw [if_neg (by omega)]
    have : ¬ off + k0 = k := fun e => h2 e.symm
    simp only [getElem!_def]
    rw [Array.getElem?_setIfInBounds_ne this]
def fillA (place : Nat → Option (Nat × Nat)) (cells : List AV) : List (Nat × AV) → Option (List AV)
 | [] => some cells
 | (i, x) :: rest =>
  match place i, cellsA x with
  | some (off, size), some xs => match Nat.beq xs.length size, Nat.ble (off + size) cells.length with
   | true, true => fillA place (cells.take off ++ (xs ++ cells.drop (off + size))) rest
   | _, _ => none
  | _, _ => none
theorem fillA_ok {w S β objs} (place : Nat → Option (Nat × Nat)) : ∀ (parts : List (Nat × AV)) (vparts : List (Nat × Value)) (cells out : List AV) (vcells : Array Value),
  parts.length = vparts.length → (∀ k (h1 : k < parts.length) (h2 : k < vparts.length), (parts[k]).1 = (vparts[k]).1 ∧ TV w S β objs (parts[k]).2 (vparts[k]).2) →
  cells.length = vcells.size → (∀ c (h : c < cells.length), TV w S β objs (cells[c]) (vcells[c]!)) → fillA place cells parts = some out →
  ∃ vout, Instr.fill place vcells vparts = some vout ∧ out.length = vout.size ∧ ∀ c (h : c < out.length), TV w S β objs (out[c]) (vout[c]!) := by
 intro parts
 induction parts with
 | nil =>
  intro vparts cells out vcells hl _ hc hr h
  cases vparts with
  | nil => simp [fillA] at h; subst h; exact ⟨vcells, rfl, hc, hr⟩
  | cons => simp at hl
 | cons a rest ih =>
  intro vparts cells out vcells hl hp hc hr h
  cases vparts with
  | nil => simp at hl
  | cons b vrest =>
   obtain ⟨i, x⟩ := a
   obtain ⟨i', v⟩ := b
   have h0 := hp 0 (by simp) (by simp)
   simp only [List.getElem_cons_zero] at h0
   obtain ⟨rfl, hx⟩ := h0
   unfold fillA at h
   split at h
   ·rename_i off size xs hpl hxs
    split at h
    ·rename_i hb1 hb2
     have hb1 : xs.length = size := Nat.eq_of_beq_eq_true hb1
     have hb2 : off + size ≤ cells.length := Nat.le_of_ble_eq_true hb2
     obtain ⟨hxl, hxr⟩ := cellsA_ok hx hxs
     unfold Instr.fill
     rw [hpl]
     have hcond : ¬ (v.cells.size ≠ size || off + v.cells.size > vcells.size) = true := by simp; omega
     simp only [if_neg hcond]
     have key := foldl_set off v.cells.toList 0 vcells
     have e : (v.cells.zipIdx.foldl (fun cs x => match x with | (c, j) => cs.setIfInBounds (off + j) c) vcells) = (v.cells.toList.zipIdx 0).foldl (fun cs p => cs.setIfInBounds (off + p.2) p.1) vcells := by
      rw [← Array.foldl_toList]
      simp
     rw [e]
     refine ih vrest _ out _ (by simpa using hl) (fun k h1 h2 => by have := hp (k + 1) (by simp; omega) (by simp; omega); simpa using this) ?_ (fun c hcl => ?_) h
     ·rw [key.1]; simp; omega
     ·have hcl' : c < vcells.size := by simp at hcl; omega
      rw [key.2 c (by simp; omega) hcl']
      simp only [Nat.add_zero]
      by_cases h1 : c < off
      ·rw [if_neg (by omega), List.getElem_append_left (by simp; omega), List.getElem_take]
       exact hr c (by omega)
      ·by_cases h2 : c < off + size
       ·rw [if_pos (by simp; omega)]
        have h3 : c - off < xs.length := by omega
        have := hxr (c - off) h3
        rw [List.getElem_append_right (by simp; omega)]
        have e1 : c - (cells.take off).length = c - off := by simp; omega
        simp only [e1]
        rw [List.getElem_append_left (by omega)]
        have e2 : v.cells.toList.getD (c - off) (.bool false) = v.cells[c - off]! := by
         have h4 : c - off < v.cells.size := by omega
         simp [List.getD, h4]
        rw [e2]; exact this
       ·rw [if_neg (by simp; omega), List.getElem_append_right (by simp; omega)]
        have e1 : c - (cells.take off).length = c - off := by simp; omega
        simp only [e1]
        rw [List.getElem_append_right (by omega)]
        simp only [List.getElem_drop]
        have e3 : off + size + (c - off - xs.length) = c := by omega
        simp only [e3]
        exact hr c (by omega)
    ·cases h
   ·cases h
def placeS (T : Tys) (fs : List (Nat × TypeId)) (i : Nat) : Option (Nat × Nat) :=
 match fs[i]? with
 | some (off, ft) => match T ft with
  | some fi => some (off, fi.sz)
  | none => none
 | none => none
def buildA (T : Tys) (t : TypeId) (parts : List (Nat × AV)) : PR :=
 match T t with
 | some { k := .struct fs, zero := .agg z, .. } => match fs.all (fun f => (T f.2).isSome), fillA (placeS T fs) z parts with
  | true, some out => .val (.agg out)
  | _, _ => .no
 | some { k := .array _ e, zero := .agg z, .. } => match T e with
  | some ei => match fillA (fun i => some (i * ei.sz, ei.sz)) z parts with
   | some out => .val (.agg out)
   | none => .no
  | none => .no
 | _ => .no
theorem run_mapM_ok {P : Program} {α β : Type} (f : α → Sem β) (g : α → β) : ∀ (l : List α), (∀ a ∈ l, ∀ w, (f a).run P w = .ok (g a) w) → ∀ w, (l.mapM f).run P w = .ok (l.map g) w := by
 intro l
 induction l with
 | nil => intro _ w; rfl
 | cons a l ih =>
  intro h w
  rw [List.mapM_cons]
  simp [h a (by simp) w, ih (fun b hb => h b (by simp [hb])) w]
theorem buildA_ok {P : Program} {T : Tys} (hT : TyOk P T) {s S β objs w} (t : TypeId) (parts : List (Nat × AV)) (vparts : Array (Nat × Value)) (hl : parts.length = vparts.toList.length)
  (hp : ∀ k (h1 : k < parts.length) (h2 : k < vparts.toList.length), (parts[k]).1 = (vparts.toList[k]).1 ∧ TV w S β objs (parts[k]).2 (vparts.toList[k]).2) :
  PRok P s S β objs w (Instr.build t vparts) (buildA T t parts) := by
 have hzero : ∀ (z : Value) (zl : List AV), avOf z = .agg zl → zl.length = z.cells.size ∧ ∀ c (h : c < zl.length), TV w S β objs (zl[c]) (z.cells[c]!) := by
  intro z zl hz
  cases z <;> simp [ofConst, leafC] at hz
  rename_i cs
  subst hz
  refine ⟨by simp [Value.cells], fun c hc => ?_⟩
  have := ofConst_agg w S cs
  cases this with
  | agg h1 h2 => exact .pure (h2 c hc)
 unfold buildA
 split
 ·rename_i sz bytes fs z ht
  split
  ·rename_i out hall hf
   obtain ⟨d, h1, h2⟩ := hT.underlying ht
   cases d <;> simp only [TKok] at h1
   rename_i fields
   obtain ⟨zv, hz1, hz2⟩ := hT.zeroValue ht
   obtain ⟨hz3, hz4⟩ := hzero zv z hz1
   have hsz : ∀ fd ∈ fields.toList, ∃ fi, T fd.type = some fi := fun fd hfd => by
    have := List.all_eq_true.1 hall (fd.offset, fd.type) (by rw [← h1]; exact List.mem_map.2 ⟨fd, hfd, rfl⟩)
    exact Option.isSome_iff_exists.1 this
   have hmap : ∀ w, (fields.mapM fun f : Field => do pure (f.offset, ← sizeOf f.type)).run P w = .ok (fields.toList.map fun f : Field => (f.offset, ((T f.type).map (·.sz)).getD 0)).toArray w := fun w => by
    rw [Array.mapM_eq_mapM_toList]
    have := run_mapM_ok (P := P) (fun f : Field => do pure (f.offset, ← sizeOf f.type)) (fun f : Field => (f.offset, ((T f.type).map (·.sz)).getD 0)) fields.toList (fun f hfm w => by
     obtain ⟨fi, hfi⟩ := hsz f hfm
     have := hT.sizeOf hfi w
     simp [this, hfi]) w
    simp only [Sem.run_map, this]
    rfl
   have hplace : ∀ i, (fields.toList.map fun f : Field => (f.offset, ((T f.type).map (·.sz)).getD 0)).toArray[i]? = placeS T fs i := fun i => by
    unfold placeS
    rw [← h1]
    simp only [List.getElem?_toArray, List.getElem?_map]
    cases hi : fields.toList[i]? with
    | none => rfl
    | some fd =>
     obtain ⟨fi, hfi⟩ := hsz fd (List.mem_of_getElem? hi)
     simp [hfi]
   obtain ⟨vout, hv1, hv2, hv3⟩ := fillA_ok (w := w) (S := S) (β := β) (objs := objs) (placeS T fs) parts vparts.toList z out zv.cells hl hp hz3 hz4 hf
   refine ⟨.agg vout, fun w' _ => ?_, .agg hv2 hv3⟩
   unfold Instr.build
   rw [Sem.run_bind, hz2]
   simp only [Result.andThen]
   rw [Sem.run_bind, h2]
   simp only [Result.andThen]
   rw [Sem.run_bind, hmap]
   simp only [Result.andThen]
   have e : (fun i => (fields.toList.map fun f : Field => (f.offset, ((T f.type).map (·.sz)).getD 0)).toArray[i]?) = placeS T fs := funext hplace
   rw [e, hv1]
   rfl
  ·trivial
 ·rename_i sz bytes n e z ht
  split
  ·rename_i ei he
   split
   ·rename_i out hf
    obtain ⟨d, h1, h2⟩ := hT.underlying ht
    cases d <;> simp only [TKok] at h1
    obtain ⟨rfl, rfl⟩ := h1
    obtain ⟨zv, hz1, hz2⟩ := hT.zeroValue ht
    obtain ⟨hz3, hz4⟩ := hzero zv z hz1
    have hz := fun w => hT.sizeOf he w
    obtain ⟨vout, hv1, hv2, hv3⟩ := fillA_ok (w := w) (S := S) (β := β) (objs := objs) (fun i => some (i * ei.sz, ei.sz)) parts vparts.toList z out zv.cells hl hp hz3 hz4 hf
    refine ⟨.agg vout, fun w' _ => ?_, .agg hv2 hv3⟩
    unfold Instr.build
    rw [Sem.run_bind, hz2]
    simp only [Result.andThen]
    rw [Sem.run_bind, h2]
    simp only [Result.andThen]
    rw [Sem.run_bind, hz]
    simp only [Result.andThen]
    rw [hv1]
    rfl
   ·trivial
  ·trivial
 ·trivial
end Go.AM
end

section
namespace Go.AM
open Go
def AV.noH : Nat → AV → Bool
 | d, av => match av with
  | .own _ | .ref _ _ | .eref _ _ _ | .mapr _ | .mh _ _ => false
  | .agg cs => match d with
   | 0 => false
   | d + 1 => cs.all (AV.noH d)
  | .tup cs => match d with
   | 0 => false
   | d + 1 => cs.all (AV.noH d)
  | .clo _ cs => match d with
   | 0 => false
   | d + 1 => cs.all (AV.noH d)
  | .hbox x => match d with
   | 0 => false
   | d + 1 => x.noH d
  | _ => true
theorem TV.noH {w S β objs} : ∀ (d : Nat) (av : AV) (v : Value), av.noH d = true → TV w S β objs av v → PV w S av v := by
 intro d
 induction d with
 | zero =>
  intro av v hn h
  cases av <;> first
   | (cases h with | pure h => exact h)
   | (simp only [AV.noH, Bool.false_eq_true] at hn; done)
 | succ d ih =>
  intro av v hn h
  cases av <;> first
   | (simp only [AV.noH, Bool.false_eq_true] at hn; done)
   | (unfold AV.noH at hn
      cases h with
      | pure h => exact h
      | agg hl hr => exact .agg hl (fun c hc => ih _ _ (List.all_eq_true.1 hn _ (List.getElem_mem hc)) (hr c hc)))
   | (unfold AV.noH at hn
      cases h with
      | pure h => exact h
      | tup hl hr => exact .tup hl (fun c hc => ih _ _ (List.all_eq_true.1 hn _ (List.getElem_mem hc)) (hr c hc)))
   | (unfold AV.noH at hn
      cases h with
      | pure h => exact h
      | clo hl hr => exact .clo hl (fun c hc => ih _ _ (List.all_eq_true.1 hn _ (List.getElem_mem hc)) (hr c hc)))
   | (unfold AV.noH at hn
      cases h with
      | pure h => exact h
      | hbox hsp hc hS hr => exact .hbox hsp hc hS (ih _ _ hn hr))
   | (cases h with | pure h => exact h)
def Pay.flat : Pay → Bool
 | .ints _ _ | .bools _ | .strs _ => true
 | _ => false
theorem PV.flat {w w' : World} {S S' : CellSet} {p : Pay} (hp : p.flat = true) {j c : Nat} (h : c < (p.at j).length) {v : Value} (hv : PV w S ((p.at j)[c]) v) : PV w' S' ((p.at j)[c]) v := by
 cases p <;> simp only [Pay.flat, Bool.false_eq_true] at hp <;> simp only [Pay.at, List.length_singleton] at h <;> (obtain rfl : c = 0 := by omega) <;> simp only [Pay.at, List.getElem_cons_zero] at hv ⊢
 ·cases hv; exact .int _ _
 ·cases hv; exact .bool _
 ·cases hv; exact .str _
def AV.free : Nat → AV → Bool
 | d, av => match av with
  | .pay _ _ | .full _ | .fref _ | .aggp _ => false
  | .agg cs => match d with
   | 0 => false
   | d + 1 => cs.all (AV.free d)
  | .tup cs => match d with
   | 0 => false
   | d + 1 => cs.all (AV.free d)
  | .clo _ cs => match d with
   | 0 => false
   | d + 1 => cs.all (AV.free d)
  | .hbox _ => false
  | _ => true
theorem PV.free {w w' : World} {S S' : CellSet} : ∀ (d : Nat) (av : AV) (v : Value), av.free d = true → PV w S av v → PV w' S' av v := by
 intro d
 induction d with
 | zero =>
  intro av v hn h
  cases av <;> first
   | (simp only [AV.free, Bool.false_eq_true] at hn; done)
   | (cases h <;> constructor)
 | succ d ih =>
  intro av v hn h
  cases av <;> first
   | (simp only [AV.free, Bool.false_eq_true] at hn; done)
   | (unfold AV.free at hn
      cases h with
      | agg hl hr => exact .agg hl (fun c hc => ih _ _ (List.all_eq_true.1 hn _ (List.getElem_mem hc)) (hr c hc)))
   | (unfold AV.free at hn
      cases h with
      | tup hl hr => exact .tup hl (fun c hc => ih _ _ (List.all_eq_true.1 hn _ (List.getElem_mem hc)) (hr c hc)))
   | (unfold AV.free at hn
      cases h with
      | clo hl hr => exact .clo hl (fun c hc => ih _ _ (List.all_eq_true.1 hn _ (List.getElem_mem hc)) (hr c hc)))
   | (cases h <;> constructor)
def AObj.free : AObj → Bool
 | .arr p _ => p.flat
 | .box cells => cells.all (AV.free 3)
 | _ => true
def aliasFree (r : AV) (objs : List AObj) : Bool := r.free 3 && objs.all AObj.free
theorem free_of_isH {d : Nat} {av : AV} (h : av.isH = true) : av.free d = true := by
 rcases isH_cases h with ⟨_, rfl⟩ | ⟨_, _, rfl⟩ | ⟨_, _, _, rfl⟩ | ⟨_, rfl⟩ | ⟨_, _, rfl⟩ <;> unfold AV.free <;> rfl
theorem AV.free_mapH {f : AV → AV} (hf : ∀ av : AV, av.isH = true → (f av).isH = true) : ∀ (d : Nat) (av : AV), av.free d = true → (av.mapH f d).free d = true := by
 intro d
 induction d with
 | zero =>
  intro av h
  cases av <;> unfold AV.mapH <;> simp only [] <;> first
   | exact h
   | exact free_of_isH (hf _ rfl)
   | (unfold AV.free; rfl)
 | succ d ih =>
  intro av h
  cases av <;> unfold AV.mapH <;> simp only [] <;> first
   | exact h
   | exact free_of_isH (hf _ rfl)
   | (unfold AV.free at h ⊢
      simp only [List.all_map]
      exact List.all_eq_true.2 fun x hx => ih x (List.all_eq_true.1 h x hx))
def Conv (w : World) (S S' : CellSet) (fr : Bool) : Prop := fr = true ∨ ∀ b o v, w.cell? ⟨b, o, none⟩ = some v → ¬ S b o → ¬ S' b o
theorem PV.conv {w : World} {S S' : CellSet} {fr : Bool} (hc : Conv w S S' fr) {d : Nat} {av : AV} {v : Value} (hf : fr = true → av.free d = true) (h : PV w S av v) : PV w S' av v := by
 rcases hc with e | hs
 ·exact h.free d av v (hf e)
 ·exact h.keeps (Keeps.refl _ _) hs
def renL (f : Nat → Option Nat) : AV → AV
 | .own k => match f k with | some i => .own i | none => .junk
 | .ref k o => match f k with | some i => .ref i o | none => .junk
 | .eref k j c => match f k with | some i => .eref i j c | none => .junk
 | .mapr k => match f k with | some i => .mapr i | none => .junk
 | .mh k x => match f k with | some i => .mh i x | none => .junk
 | av => av
theorem TV.ren {w : World} {S S' : CellSet} {β β' : Nat → Nat → Option Nat} {objs objs' : List AObj} {f : Nat → Option Nat} {av : AV} {v : Value} (hh : av.isH = true) (h : TV w S β objs av v)
  (ho : ∀ (k i : Nat) (o : AObj), f k = some i → objs[k]? = some o → (∀ cs, o ≠ .box cs) → objs'[i]? = some o) (hβ : ∀ k i j, f k = some i → β' i j = β k j) : TV w S' β' objs' (renL f av) v := by
 rcases isH_cases hh with ⟨k, rfl⟩ | ⟨k, o, rfl⟩ | ⟨k, j, c, rfl⟩ | ⟨k, rfl⟩ | ⟨k, x, rfl⟩ <;> unfold renL <;> (cases hf : f k) <;> (try simp only [hf]) <;> first
  | exact .pure (.junk _)
  | skip
 ·cases h with
  | pure h => cases h
  | own h1 hlen hnz hn hb =>
   exact .own (ho _ _ _ hf h1 (by simp)) hlen hnz (fun e => hn (by rw [← hβ _ _ _ hf]; exact e)) (fun b e => hb b (by rw [← hβ _ _ _ hf]; exact e))
 ·cases h with
  | pure h => cases h
  | ref hb => exact .ref ((hβ _ _ _ hf).trans hb)
 ·cases h with
  | pure h => cases h
  | eref h1 hb hj => exact .eref (ho _ _ _ hf h1 (by simp)) ((hβ _ _ _ hf).trans hb) hj
 ·cases h with
  | pure h => cases h
  | mapr hb => exact .mapr ((hβ _ _ _ hf).trans hb)
 ·cases h with
  | pure h => cases h
  | @mh _ _ o _ h1 hm =>
   cases o with
   | nest rows hole gone ai e am => exact .mh (ho _ _ _ hf h1 (by simp)) (hm.step (fun j => hβ _ _ _ hf) (fun _ _ _ _ hx => hx))
   | arr p ai => exact .mh (ho _ _ _ hf h1 (by simp)) (hm.arr (fun b e => (hβ _ _ _ hf).trans e) rfl rfl)
   | trie m T => exact .mh (ho _ _ _ hf h1 (by simp)) hm.trie
   | _ => exact hm.elim
end Go.AM
namespace Go.AM
open Go
def shiftL (n : Nat) : AV → AV := renL (fun k => some (n + k))
def St.join (st : St) (d : Option Tmp) (r : AV) (objs : List AObj) : St :=
 ({ st with objs := st.objs ++ objs.map (AObj.mapH (shiftL st.objs.length)) } : St).put d (r.mapH (shiftL st.objs.length) 3)
def joinB (β β' : Nat → Nat → Option Nat) (n : Nat) : Nat → Nat → Option Nat := fun i j => if i < n then β i j else β' (i - n) j
theorem shiftL_isH (n : Nat) (av : AV) (h : av.isH = true) : (shiftL n av).isH = true := by
 rcases isH_cases h with ⟨_, rfl⟩ | ⟨_, _, rfl⟩ | ⟨_, _, _, rfl⟩ | ⟨_, rfl⟩ | ⟨_, _, rfl⟩ <;> rfl
theorem TV.mapHc {w : World} {S S' : CellSet} {β β' : Nat → Nat → Option Nat} {objs objs' : List AObj} {f : AV → AV} {fr : Bool} (hc : Conv w S S' fr)
  (hf : ∀ av v, av.isH = true → TV w S β objs av v → TV w S' β' objs' (f av) v) :
  ∀ (d : Nat) (av : AV) (v : Value), (fr = true → av.free d = true) → TV w S β objs av v → TV w S' β' objs' (av.mapH f d) v := by
 rcases hc with rfl | hs
 ·intro d
  induction d with
  | zero =>
   intro av v hfr h
   have hfr := hfr rfl
   cases av <;> first
    | (simp only [AV.free, Bool.false_eq_true] at hfr; done)
    | (unfold AV.mapH; exact hf _ _ rfl h)
    | (unfold AV.mapH; cases h with | pure h => exact .pure (h.free 0 _ _ rfl))
  | succ d ih =>
   intro av v hfr h
   have hfr := hfr rfl
   cases av <;> first
    | (simp only [AV.free, Bool.false_eq_true] at hfr; done)
    | (unfold AV.mapH; exact hf _ _ rfl h)
    | (unfold AV.free at hfr
       unfold AV.mapH
       simp only [] at hfr ⊢
       cases h with
       | pure h => cases h with
        | agg hl hr => exact .agg (by simpa using hl) (fun c hc => by simpa using ih _ _ (fun _ => List.all_eq_true.1 hfr _ (List.getElem_mem (by simpa using hc))) (.pure (hr c (by simpa using hc))))
       | agg hl hr => exact .agg (by simpa using hl) (fun c hc => by simpa using ih _ _ (fun _ => List.all_eq_true.1 hfr _ (List.getElem_mem (by simpa using hc))) (hr c (by simpa using hc))))
    | (unfold AV.free at hfr
       unfold AV.mapH
       simp only [] at hfr ⊢
       cases h with
       | pure h => cases h with
        | tup hl hr => exact .tup (by simpa using hl) (fun c hc => by simpa using ih _ _ (fun _ => List.all_eq_true.1 hfr _ (List.getElem_mem (by simpa using hc))) (.pure (hr c (by simpa using hc))))
       | tup hl hr => exact .tup (by simpa using hl) (fun c hc => by simpa using ih _ _ (fun _ => List.all_eq_true.1 hfr _ (List.getElem_mem (by simpa using hc))) (hr c (by simpa using hc))))
    | (unfold AV.free at hfr
       unfold AV.mapH
       simp only [] at hfr ⊢
       cases h with
       | pure h => cases h with
        | clo hl hr => exact .clo (by simpa using hl) (fun c hc => by simpa using ih _ _ (fun _ => List.all_eq_true.1 hfr _ (List.getElem_mem (by simpa using hc))) (.pure (hr c (by simpa using hc))))
       | clo hl hr => exact .clo (by simpa using hl) (fun c hc => by simpa using ih _ _ (fun _ => List.all_eq_true.1 hfr _ (List.getElem_mem (by simpa using hc))) (hr c (by simpa using hc))))
    | (unfold AV.mapH; cases h with | pure h => exact .pure (h.free (d + 1) _ _ hfr))
 ·intro d av v _ h
  exact TV.mapH hf (fun av v h => h.keeps (Keeps.refl _ _) hs) d av v h
end Go.AM
namespace Go.AM
open Go
theorem ObjOk.mapHc {w : World} {S S' : CellSet} {β β' : Nat → Nat → Option Nat} {objs objs' : List AObj} {f : AV → AV} {i i' : Nat} {o : AObj} {fr : Bool} (hc : Conv w S S' fr) (hfr : fr = true → o.free = true) (h : ObjOk w S β objs i o)
  (hf : ∀ av v, av.isH = true → TV w S β objs av v → TV w S' β' objs' (f av) v) (hβi : ∀ j, β' i' j = β i j) : ObjOk w S' β' objs' i' (o.mapH f) := by
 cases o with
 | dead => exact fun j => (hβi j).trans (h j)
 | arr p nz =>
  obtain ⟨h1, h2, h3, h4⟩ := h
  refine ⟨h1, fun e => h2 (by rw [← hβi]; exact e), fun j => (hβi _).trans (h3 j), fun b hb => ?_⟩
  rw [hβi] at hb
  obtain ⟨h6, h8⟩ := h4 b hb
  refine ⟨h6, fun j c hcl hj => ?_⟩
  obtain ⟨v, hv, hv'⟩ := h8 j c hcl hj
  refine ⟨v, hv, ?_⟩
  rcases hc with e | hs
  ·exact hv'.flat (hfr e) hcl
  ·exact hv'.keeps (Keeps.refl _ _) hs
 | box cells =>
  obtain ⟨h0, b, hb, h1, h2⟩ := h
  refine ⟨fun j => (hβi _).trans (h0 j), b, (hβi _).trans hb, h1, fun c hcl => ?_⟩
  have hc' : c < cells.length := by simpa using hcl
  obtain ⟨v, hv, hv'⟩ := h2 c hc'
  refine ⟨v, hv, ?_⟩
  have := TV.mapHc hc hf 3 _ _ (fun e => List.all_eq_true.1 (hfr e) _ (List.getElem_mem hc')) hv'
  simpa using this
 | mapB kk m =>
  obtain ⟨h0, b, es, cl, hb, h1, h2⟩ := h
  exact ⟨fun j => (hβi _).trans (h0 j), b, es, cl, (hβi _).trans hb, h1, h2⟩
 | mapI kk m =>
  obtain ⟨h0, b, es, cl, hb, h1, h2⟩ := h
  exact ⟨fun j => (hβi _).trans (h0 j), b, es, cl, (hβi _).trans hb, h1, h2⟩
 | nest rows hole gone ai e2 am => exact NestOk.step h hβi (fun _ _ _ => rfl)
 | trie m T => exact TrieOk.step h hβi (fun _ _ _ => rfl)
theorem joinB_lt {β β' : Nat → Nat → Option Nat} {n i : Nat} (h : i < n) (j : Nat) : joinB β β' n i j = β i j := by simp [joinB, h]
theorem joinB_ge {β β' : Nat → Nat → Option Nat} {n : Nat} (k j : Nat) : joinB β β' n (n + k) j = β' k j := by
 unfold joinB; rw [if_neg (by omega), Nat.add_sub_cancel_left]
theorem FR.join {cx β st tmps w w'} (h : FR cx β st tmps w) (hk : KeepL (fun _ => False) w w') {S1 : CellSet} {β' : Nat → Nat → Option Nat} {r : AV} {objs' : List AObj} {v : Value}
  (hr : FR ⟨w, S1, fun _ => False⟩ β' ⟨1, [(0, r)], objs'⟩ #[v] w') (hc : aliasFree r objs' = true ∨ (∀ b o, cx.S β st.objs b o → S1 b o)) (d : Option Tmp) (ds : List Deferred) :
  FR cx (joinB β β' st.objs.length) (st.join d r objs') (({ tmps, defers := ds } : Act).put d v).tmps w' := by
 have hlt : ∀ (i : Nat) (o : AObj), st.objs[i]? = some o → i < st.objs.length := fun i o ho => (List.getElem?_eq_some_iff.1 ho).1
 have hβn : ∀ i j b, β i j = some b → i < st.objs.length := fun i j b hb => by
  rcases Nat.lt_or_ge i st.objs.length with hl | hl
  ·exact hl
  ·rw [h.out i j (by rw [List.getElem?_eq_none_iff]; exact hl)] at hb; cases hb
 have hnew : ∀ i j b, β' i j = some b → w.heap.size ≤ b ∧ b < w'.heap.size := fun i j b hb => by
  have := hr.rng i j b hb
  exact ⟨Nat.le_of_not_lt fun hl => this.2 hl, this.1⟩
 -- the joined claims
 have hcl : ∀ b o, claim (joinB β β' st.objs.length) (st.objs ++ objs'.map (AObj.mapH (shiftL st.objs.length))) b o → claim β st.objs b o ∨ claim β' objs' b o := fun b o hcl => by
  obtain ⟨i, ob, h1, h2⟩ := hcl
  obtain ⟨h3, j4, h4⟩ := claims_block h2
  by_cases hi : i < st.objs.length
  ·rw [List.getElem?_append_left hi] at h1
   rw [joinB_lt hi] at h4
   exact .inl ⟨i, ob, h1, claims_mk o h3 h4⟩
  ·obtain ⟨k, rfl⟩ : ∃ k, i = st.objs.length + k := ⟨i - st.objs.length, by omega⟩
   rw [List.getElem?_append_right (by omega)] at h1
   rw [joinB_ge] at h4
   simp only [Nat.add_sub_cancel_left, List.getElem?_map, Option.map_eq_some_iff] at h1
   obtain ⟨o1, ho1, rfl⟩ := h1
   exact .inr ⟨k, o1, ho1, claims_mk o (fun e => h3 (mapH_dead.2 e)) h4⟩
 have hS : ∀ b o v, w.cell? ⟨b, o, none⟩ = some v → ¬ cx.S β st.objs b o → ¬ cx.S (joinB β β' st.objs.length) (st.objs ++ objs'.map (AObj.mapH (shiftL st.objs.length))) b o := fun b o v hce hn hs => by
  rcases hs with hs | hs
  ·exact hn (.inl hs)
  ·rcases hcl b o hs with h1 | ⟨i, ob, h1, h2⟩
   ·exact hn (.inr h1)
   ·have := (hnew i _ b (claims_block h2).2.choose_spec).1
    have := lt_of_cell? hce
    omega
 have hC : Conv w' ((⟨w, S1, fun _ => False⟩ : Cx).S β' objs') (cx.S (joinB β β' st.objs.length) (st.objs ++ objs'.map (AObj.mapH (shiftL st.objs.length)))) (aliasFree r objs') := by
  rcases hc with e | hs
  ·exact .inl e
  ·refine .inr fun b o v _ hn hs2 => ?_
   rcases hs2 with h1 | h1
   ·exact hn (.inl (hs b o (.inl h1)))
   ·rcases hcl b o h1 with h2 | h2
    ·exact hn (.inl (hs b o (.inr h2)))
    ·exact hn (.inr h2)
 have hk' : Keeps (cx.S β st.objs) w w' := hk.keeps fun _ _ _ => id
 have hsh : ∀ r x, w.shape? r = some x → w'.shape? r = some x := fun r x hx => by
  rw [shape?_of_heap (hk.block r (lt_of_shape? hx) id)]; exact hx
 have hown : ArrKeep st.objs (st.objs ++ objs'.map (AObj.mapH (shiftL st.objs.length))) := ArrKeep.of fun i o ho _ => by rw [List.getElem?_append_left (hlt _ _ ho)]; exact ho
 have hβ : ∀ i j b, β i j = some b → joinB β β' st.objs.length i j = some b := fun i j b hb => by rw [joinB_lt (hβn _ _ _ hb)]; exact hb
 have hβ0 : ∀ (i j : Nat) (o : AObj), st.objs[i]? = some o → β i j = none → joinB β β' st.objs.length i j = none := fun i j o ho hb => by
  rw [joinB_lt (hlt _ _ ho)]; exact hb
 have hf : ∀ av v, av.isH = true → TV w' ((⟨w, S1, fun _ => False⟩ : Cx).S β' objs') β' objs' av v →
   TV w' (cx.S (joinB β β' st.objs.length) (st.objs ++ objs'.map (AObj.mapH (shiftL st.objs.length)))) (joinB β β' st.objs.length) (st.objs ++ objs'.map (AObj.mapH (shiftL st.objs.length))) (shiftL st.objs.length av) v := fun av v hh ht => by
  refine TV.ren hh ht (fun k i o e ho hb => ?_) (fun k i j e => ?_)
  ·cases e
   rw [List.getElem?_append_right (by omega)]
   cases o <;> first | exact absurd rfl (hb _) | simp [ho, AObj.mapH]
  ·cases e
   exact joinB_ge k j
 have hbase : FR cx (joinB β β' st.objs.length) { st with objs := st.objs ++ objs'.map (AObj.mapH (shiftL st.objs.length)) } tmps w' := by
  refine ⟨h.keep.trans hk (fun _ _ _ => id), h.s0, fun i j i' j' b h1 h2 => ?_, fun i j b hb => ?_, fun i j ho => ?_, fun i o ho => ?_, h.size, fun t => ?_⟩
  ·by_cases hi : i < st.objs.length <;> by_cases hi' : i' < st.objs.length
   ·rw [joinB_lt hi] at h1; rw [joinB_lt hi'] at h2
    exact h.inj _ _ _ _ _ h1 h2
   ·obtain ⟨k, rfl⟩ : ∃ k, i' = st.objs.length + k := ⟨i' - st.objs.length, by omega⟩
    rw [joinB_lt hi] at h1; rw [joinB_ge] at h2
    have := (h.rng _ _ _ h1).1
    have := (hnew _ _ _ h2).1
    omega
   ·obtain ⟨k, rfl⟩ : ∃ k, i = st.objs.length + k := ⟨i - st.objs.length, by omega⟩
    rw [joinB_ge] at h1; rw [joinB_lt hi'] at h2
    have := (h.rng _ _ _ h2).1
    have := (hnew _ _ _ h1).1
    omega
   ·obtain ⟨k, rfl⟩ : ∃ k, i = st.objs.length + k := ⟨i - st.objs.length, by omega⟩
    obtain ⟨k', rfl⟩ : ∃ k, i' = st.objs.length + k := ⟨i' - st.objs.length, by omega⟩
    rw [joinB_ge] at h1 h2
    obtain ⟨rfl, rfl⟩ := hr.inj _ _ _ _ _ h1 h2
    exact ⟨rfl, rfl⟩
  ·by_cases hi : i < st.objs.length
   ·rw [joinB_lt hi] at hb
    exact ⟨Nat.lt_of_lt_of_le (h.rng i j b hb).1 hk.size, (h.rng i j b hb).2⟩
   ·obtain ⟨k, rfl⟩ : ∃ k, i = st.objs.length + k := ⟨i - st.objs.length, by omega⟩
    rw [joinB_ge] at hb
    have := hnew _ _ _ hb
    exact ⟨this.2, fun hl => by have := h.keep.size; omega⟩
  ·have hl : st.objs.length + objs'.length ≤ i := by
    rw [List.getElem?_eq_none_iff] at ho; simpa using ho
   obtain ⟨k, rfl⟩ : ∃ k, i = st.objs.length + k := ⟨i - st.objs.length, by omega⟩
   rw [joinB_ge]
   exact hr.out k j (by rw [List.getElem?_eq_none_iff]; simp only; omega)
  ·by_cases hi : i < st.objs.length
   ·simp only [List.getElem?_append_left hi] at ho
    exact (h.objs i o ho).step hk' hS hown hβ hβ0 hsh (fun j => joinB_lt hi j) (fun j b hb => hk.block b (h.rng i j b hb).1 id)
   ·obtain ⟨k, rfl⟩ : ∃ k, i = st.objs.length + k := ⟨i - st.objs.length, by omega⟩
    rw [List.getElem?_append_right (by omega)] at ho
    simp only [Nat.add_sub_cancel_left, List.getElem?_map, Option.map_eq_some_iff] at ho
    obtain ⟨o1, ho1, rfl⟩ := ho
    refine (hr.objs k o1 ho1).mapHc hC (fun e => ?_) hf (fun j => joinB_ge k j)
    simp only [aliasFree, Bool.and_eq_true] at e
    exact List.all_eq_true.1 e.2 _ (List.mem_of_getElem? ho1)
  ·exact (h.env t).step hk' hS hown hβ hβ0 hsh
 unfold St.join
 refine hbase.put ?_ d ds
 have hv := hr.env 0
 simp only [getE, Array.getD, List.size_toArray, List.length_cons, List.length_nil] at hv
 refine TV.mapHc hC hf 3 r v (fun e => ?_) (by simpa using hv)
 simp only [aliasFree, Bool.and_eq_true] at e
 exact e.1
end Go.AM
end

section
namespace Go.AM
open Go
def idxF (k : Nat) : List Nat → Option Nat
 | [] => none
 | a :: r => match Nat.beq a k with
  | true => some 0
  | false => match idxF k r with
   | some i => some (i + 1)
   | none => none
theorem idxF_some {k : Nat} : ∀ {l : List Nat} {i : Nat}, idxF k l = some i → l[i]? = some k := by
 intro l
 induction l with
 | nil => intro i h; cases h
 | cons a r ih =>
  intro i h
  unfold idxF at h
  rcases beq_cases a k with ⟨e, rfl⟩ | ⟨e, _⟩
  ·rw [e] at h; simp at h; subst h; rfl
  ·rw [e] at h
   simp only [] at h
   split at h
   ·rename_i m hm
    cases h
    simpa using ih hm
   ·cases h
def selB (β : Nat → Nat → Option Nat) (sel : List Nat) : Nat → Nat → Option Nat := fun k j => match sel[k]? with | some i => β i j | none => none
def selO (objs : List AObj) (sel : List Nat) : List AObj := sel.map fun i => (objs.getD i .dead).mapH (renL (idxF · sel))
def St.select (st : St) (sel : List Nat) : St := { st with env := mapE (AV.mapH (renL (idxF · sel)) 3) st.env, objs := selO st.objs sel }
theorem FR.select {cx β st tmps w} (h : FR cx β st tmps w) (sel : List Nat) (hnd : sel.Nodup) : FR cx (selB β sel) (st.select sel) tmps w := by
 have hobj : ∀ {k : Nat} {ob : AObj}, (selO st.objs sel)[k]? = some ob → ∃ i, sel[k]? = some i ∧ ob = (st.objs.getD i .dead).mapH (renL (idxF · sel)) := fun {k ob} ho => by
  simp only [selO, List.getElem?_map, Option.map_eq_some_iff] at ho
  obtain ⟨i, hi, rfl⟩ := ho
  exact ⟨i, hi, rfl⟩
 have hsel : ∀ {k i j : Nat}, sel[k]? = some i → selB β sel k j = β i j := fun {k i j} hk => by simp [selB, hk]
 have hS : ∀ b o, cx.S (selB β sel) (selO st.objs sel) b o → cx.S β st.objs b o := fun b o hs => by
  rcases hs with hs | ⟨k, ob, h1, h2⟩
  ·exact .inl hs
  ·obtain ⟨i, hi, rfl⟩ := hobj h1
   obtain ⟨h3, j4, h4⟩ := claims_block h2
   rw [hsel hi] at h4
   cases hg : st.objs[i]? with
   | none => rw [h.out i _ hg] at h4; cases h4
   | some o1 =>
    refine .inr ⟨i, o1, hg, claims_mk o (fun e => h3 ?_) h4⟩
    rw [List.getD_eq_getElem?_getD, hg, e]; rfl
 have hs' : ∀ b o v, w.cell? ⟨b, o, none⟩ = some v → ¬ cx.S β st.objs b o → ¬ cx.S (selB β sel) (selO st.objs sel) b o := fun b o _ _ hn hh => hn (hS b o hh)
 have hp : ∀ av v, PV w (cx.S β st.objs) av v → PV w (cx.S (selB β sel) (selO st.objs sel)) av v := fun av v hv => hv.keeps (Keeps.refl _ _) hs'
 have hf : ∀ av v, av.isH = true → TV w (cx.S β st.objs) β st.objs av v → TV w (cx.S (selB β sel) (selO st.objs sel)) (selB β sel) (selO st.objs sel) (renL (idxF · sel) av) v := fun av v hh ht => by
  refine TV.ren hh ht (fun k i o e ho hb => ?_) (fun k i j e => hsel (idxF_some e))
  have := idxF_some e
  simp only [selO, List.getElem?_map, this, Option.map_some, List.getD_eq_getElem?_getD, ho, Option.getD_some]
  cases o <;> first | exact absurd rfl (hb _) | rfl
 refine ⟨h.keep, h.s0, fun k j k' j' b h1 h2 => ?_, fun k j b hb => ?_, fun k j ho => ?_, fun k ob ho => ?_, h.size, fun t => ?_⟩
 ·cases hk : sel[k]? with
  | none => simp [selB, hk] at h1
  | some i =>
   cases hk' : sel[k']? with
   | none => simp [selB, hk'] at h2
   | some i' =>
    rw [hsel hk] at h1; rw [hsel hk'] at h2
    obtain ⟨rfl, rfl⟩ := h.inj _ _ _ _ _ h1 h2
    refine ⟨?_, rfl⟩
    obtain ⟨a1, a2⟩ := List.getElem?_eq_some_iff.1 hk
    obtain ⟨b1, b2⟩ := List.getElem?_eq_some_iff.1 hk'
    exact (List.getElem_inj hnd).1 (a2.trans b2.symm)
 ·cases hk : sel[k]? with
  | none => simp [selB, hk] at hb
  | some i => rw [hsel hk] at hb; exact h.rng _ _ _ hb
 ·simp only [St.select, selO, List.getElem?_eq_none_iff, List.length_map] at ho
  have : sel[k]? = none := List.getElem?_eq_none_iff.2 ho
  simp [selB, this]
 ·obtain ⟨i, hi, rfl⟩ := hobj ho
  cases hg : st.objs[i]? with
  | none =>
   rw [List.getD_eq_getElem?_getD, hg]
   exact fun j => by rw [hsel hi]; exact h.out i j hg
  | some o1 =>
   rw [List.getD_eq_getElem?_getD, hg]
   simp only [Option.getD_some]
   refine ObjOk.mapHc (fr := false) (.inr hs') (fun e => by cases e) (h.objs i o1 hg) hf (fun j => hsel hi)
 ·simp only [St.select]
  rw [getE_mapE (by rfl)]
  exact TV.mapH hf hp 3 _ _ (h.env t)
theorem FR.reenv {cx β st tmps w} (h : FR cx β st tmps w) {n : Nat} {env : List (Nat × AV)} {tmps' : Array Value} (hs : tmps'.size = n)
  (he : ∀ t, TV w (cx.S β st.objs) β st.objs (getE t env) (tmps'.getD t undef)) : FR cx β { n, env, objs := st.objs } tmps' w :=
 ⟨h.keep, h.s0, h.inj, h.rng, h.out, h.objs, hs, he⟩
def filtE (p : Nat → Bool) : List (Nat × AV) → List (Nat × AV)
 | [] => []
 | (t, x) :: r => match p t with
  | true => (t, x) :: filtE p r
  | false => filtE p r
theorem getE_filtE (p : Nat → Bool) (t : Nat) (e) : getE t (filtE p e) = getE t e ∨ getE t (filtE p e) = .junk := by
 induction e with
 | nil => exact .inr rfl
 | cons a r ih =>
  obtain ⟨u, x⟩ := a
  unfold filtE
  cases hp : p u with
  | true =>
   simp only []
   unfold getE
   cases h : Nat.beq u t with
   | true => exact .inl rfl
   | false => exact ih
  | false =>
   simp only []
   by_cases hu : u = t
   ·subst hu
    right
    clear ih
    induction r with
    | nil => rfl
    | cons b r ih2 =>
     obtain ⟨y, z⟩ := b
     unfold filtE
     cases hy : p y with
     | false => exact ih2
     | true =>
      simp only []
      unfold getE
      have : Nat.beq y u = false := by
       rcases beq_cases y u with ⟨_, rfl⟩ | ⟨e, _⟩
       ·rw [hp] at hy; cases hy
       ·exact e
      rw [this]
      exact ih2
   ·have : Nat.beq u t = false := by
     rcases beq_cases u t with ⟨_, e⟩ | ⟨e, _⟩
     ·exact absurd e hu
     ·exact e
    conv in getE t ((u, x) :: r) => unfold getE
    rw [this]
    exact ih
theorem FR.filt {cx β st tmps w} (h : FR cx β st tmps w) (p : Nat → Bool) : FR cx β { st with env := filtE p st.env } tmps w :=
 h.reenv (st := st) h.size fun t => by
  rcases getE_filtE p t st.env with e | e
  ·rw [e]; exact h.env t
  ·rw [e]; exact .pure (.junk _)
def AV.hs : Nat → AV → List Nat
 | d, av => match av with
  | .own i | .ref i _ | .eref i _ _ | .mapr i | .mh i _ => [i]
  | .agg cs | .tup cs | .clo _ cs => match d with
   | 0 => []
   | d + 1 => cs.flatMap (AV.hs d)
  | .hbox x => match d with
   | 0 => []
   | d + 1 => x.hs d
  | _ => []
def addNew (l : List Nat) (k : Nat) : List Nat := match l.elem k with | true => l | false => l ++ [k]
def dedup (l : List Nat) : List Nat := l.foldl addNew []
theorem addNew_nodup {l : List Nat} (h : l.Nodup) (k : Nat) : (addNew l k).Nodup := by
 unfold addNew
 cases he : l.elem k with
 | true => exact h
 | false =>
  have : k ∉ l := fun hm => by rw [List.elem_eq_true_of_mem hm] at he; cases he
  simp only []
  rw [List.nodup_append]
  exact ⟨h, by simp, fun a ha b hb => by simp at hb; subst hb; exact fun e => this (e ▸ ha)⟩
theorem dedup_nodup (l : List Nat) : (dedup l).Nodup := by
 unfold dedup
 have : ∀ (l a : List Nat), a.Nodup → (l.foldl addNew a).Nodup := by
  intro l
  induction l with
  | nil => intro a h; exact h
  | cons x l ih => intro a h; exact ih _ (addNew_nodup h x)
 exact this l [] List.nodup_nil
def St.freeze (st : St) (i : Nat) : St :=
 match st.objs[i]? with
 | some ob => st.remap (frzL i ob) i .dead
 | none => st
def St.freezeL (st : St) (l : List Nat) : St := l.foldl St.freeze st
theorem FR.freezeL {cx tmps w} : ∀ (l : List Nat) (st : St) (β : Nat → Nat → Option Nat), FR cx β st tmps w → ∃ β', FR cx β' (st.freezeL l) tmps w := by
 intro l
 induction l with
 | nil => intro st β h; exact ⟨β, h⟩
 | cons i l ih =>
  intro st β h
  have : ∃ β', FR cx β' (st.freeze i) tmps w := by
   unfold St.freeze
   split
   ·rename_i ob ho
    exact ⟨_, h.freeze ho⟩
   ·exact ⟨β, h⟩
  obtain ⟨β', h'⟩ := this
  exact ih _ β' h'
end Go.AM
end

section
namespace Go.AM
open Go
def intVals : List AV → Option (List Value)
 | [] => some []
 | .int k n :: r => match intVals r with
  | some l => some (.int k n :: l)
  | none => none
 | _ :: _ => none
theorem intVals_ok {w S β objs} : ∀ (l : List AV) (us vs : List Value), intVals l = some vs → l.length = us.length → (∀ c (h : c < l.length) (h' : c < us.length), TV w S β objs (l[c]) (us[c])) → us = vs
 | [], [], vs, h, _, _ => by cases h; rfl
 | a :: r, u :: us, vs, h, hl, ht => by
  cases a with
  | int k n =>
   unfold intVals at h
   cases hr : intVals r with
   | none => rw [hr] at h; cases h
   | some l =>
    rw [hr] at h
    cases h
    have h0 := ht 0 (by simp) (by simp)
    have : u = .int k n := by
     simp only [List.getElem_cons_zero] at h0
     cases h0 with | pure h0 => cases h0; rfl
    rw [this, intVals_ok r us l hr (by simpa using hl) (fun c h1 h2 => ht (c + 1) (by simpa using h1) (by simpa using h2))]
  | _ => cases h
def pureOp (T : Tys) (s : Bool) (st : St) (o : Oper) : PR :=
 match o.op with
 | .move x => .val (coerce T o.type (st.ev x))
 | .assign x => .val (coerce T o.type (st.ev x))
 | .pick c a b => pickA (st.ev c) (st.ev a) (st.ev b)
 | .binOp op t x y _ => match op with
  | .eql => match eqNil T st.objs t (st.ev x) (nilOp y (st.ev y)) with
   | .no => binA op (st.ev x) (st.ev y)
   | r => r
  | .neq => match eqNil T st.objs t (st.ev x) (nilOp y (st.ev y)) with
   | .no => binA op (st.ev x) (st.ev y)
   | .val (.bool b) => .val (.bool (!b))
   | .gval g (.bool b) => .gval g (.bool (!b))
   | _ => .no
  | _ => binA op (st.ev x) (st.ev y)
 | .unOp op _ x => unA op (st.ev x)
 | .fieldAddr t x f => fieldAddrA T t f (st.ev x)
 | .field t x f => fieldA T t f (st.ev x)
 | .indexAddr t x ix => indexAddrA T st.objs t (st.ev x) (st.ev ix)
 | .index t x ix => indexA T t (st.ev x) (st.ev ix)
 | .load t x => loadA T s st.objs t (st.ev x)
 | .extract x i => extractA (st.ev x) i
 | .nilCheck x => nilA (st.ev x)
 | .convert src dst x => convS T s st.objs src dst (st.ev x)
 | .makeFunc fn first cap => match fn, first.toList with
  | .func f, [] => .val (.clo f (cap.toList.map st.ev))
  | .func f, x :: l => match cap.toList, intVals ((x :: l).map st.ev) with
   | [], some vs => .val (.lit (.func (.func f) vs.toArray #[]))
   | _, _ => .no
  | _, _ => .no
 | .slice t x lo hi mx => sliceA T t (st.ev x) (lo.map st.ev) (hi.map st.ev) (mx.map st.ev)
 | .build t parts => buildA T t (parts.toList.map fun p => (p.1, st.ev p.2))
 | .lookup t x ix ok => lookupA T s st.objs t (st.ev x) (st.ev ix) ok
 | .call c => match c.callee, c.args.toList, c.argTypes.toList with
  | .builtin .len, [x], [t] => lenA T s st.objs t (st.ev x)
  | .builtin .min, [x, y], _ => minA false (st.ev x) (st.ev y)
  | .builtin .max, [x, y], _ => minA true (st.ev x) (st.ev y)
  | _, _, _ => .no
 | _ => .no
def PRokN (P : Program) (s : Bool) (S : CellSet) (β : Nat → Nat → Option Nat) (objs : List AObj) (w : World) (m : Sem Next) : PR → Prop
 | .no => True
 | .val v => ∃ cv, (∀ w', Cls s S w w' → m.run P w' = .ok (.value cv) w') ∧ TV w S β objs v cv
 | .gval g v => g → ∃ cv, (∀ w', Cls s S w w' → m.run P w' = .ok (.value cv) w') ∧ TV w S β objs v cv
theorem PRok.next {P s S β objs w} {m : Sem Value} {r : PR} (h : PRok P s S β objs w m r) : PRokN P s S β objs w (do pure (Next.value (← m))) r := by
 cases r with
 | no => trivial
 | val v =>
  obtain ⟨cv, h1, h2⟩ := h
  exact ⟨cv, fun w' hw' => by simp [h1 w' hw'], h2⟩
 | gval g v =>
  intro hg
  obtain ⟨cv, h1, h2⟩ := h hg
  exact ⟨cv, fun w' hw' => by simp [h1 w' hw'], h2⟩
theorem eqGuard_free {P : Program} {op : BinOp} {t : TypeId} {x y : Operand} {a b : Value} (h : (∀ cs, a ≠ .agg cs) ∧ a ≠ .nilIface) (w : World) : (eqGuard op t x y a b).run P w = .ok () w := by
 unfold eqGuard
 cases op <;> first
  | rfl
  | (cases a <;> first
    | rfl
    | exact absurd rfl (h.1 _)
    | exact absurd rfl h.2)
theorem binA_shape {w S β objs} {op : BinOp} {x y : AV} {vx : Value} (hx : TV w S β objs x vx) : binA op x y = .no ∨ ((∀ cs, vx ≠ .agg cs) ∧ vx ≠ .nilIface) := by
 cases x <;> first
  | exact .inl rfl
  | (cases hx with | pure hx => cases hx; exact .inr ⟨fun _ => by simp, by simp⟩)
theorem eqNil_bin {P : Program} {op : BinOp} {t : TypeId} {vx vy : Value} {b : Bool} {w : World} (hop : op = .eql ∨ op = .neq) (h : (Op.equal t vx vy).run P w = .ok b w) {x y : Operand} {av : AV} (hs : NilShape (nilOp y av) vx vy) :
  (do eqGuard op t x y vx vy; binOp op t vx vy).run P w = .ok (.bool (if op = .eql then b else !b)) w := by
 have hg : (eqGuard op t x y vx vy).run P w = .ok () w := by
  rcases hs with ⟨a, l, c, rfl, rfl⟩ | ⟨a, rfl, rfl⟩ | ⟨a, c, rfl, rfl⟩ | ⟨rfl | ⟨a, c, rfl⟩, rfl, hy⟩
  ·exact eqGuard_free ⟨fun _ => by simp, by simp⟩ w
  ·exact eqGuard_free ⟨fun _ => by simp, by simp⟩ w
  ·exact eqGuard_free ⟨fun _ => by simp, by simp⟩ w
  ·obtain ⟨v, rfl⟩ := nilOp_const hy
   rcases hop with rfl | rfl <;> simp [eqGuard]
  ·exact eqGuard_free ⟨fun _ => by simp, by simp⟩ w
 rw [Sem.run_bind, hg]
 simp only [Result.andThen]
 rcases hop with rfl | rfl <;> rcases hs with ⟨a, l, c, rfl, rfl⟩ | ⟨a, rfl, rfl⟩ | ⟨a, c, rfl, rfl⟩ | ⟨rfl | ⟨a, c, rfl⟩, rfl, hy⟩ <;> simp [binOp, h]
theorem binA_guard {P : Program} {s S β objs w} (op : BinOp) (t : TypeId) (ox oy : Operand) (x y : AV) (vx vy : Value) (hx : TV w S β objs x vx) (hy : TV w S β objs y vy) :
  PRok P s S β objs w (do eqGuard op t ox oy vx vy; binOp op t vx vy) (binA op x y) := by
 have key := binA_ok (P := P) (s := s) op t x y vx vy hx hy
 rcases binA_shape (op := op) (y := y) hx with e | hsh
 ·rw [e]; trivial
 ·have hg : ∀ w, (eqGuard op t ox oy vx vy).run P w = .ok () w := eqGuard_free hsh
  revert key
  generalize binA op x y = r
  cases r with
  | no => exact id
  | val v =>
   rintro ⟨cv, h1, h2⟩
   exact ⟨cv, fun w' hw' => by rw [Sem.run_bind, hg]; exact h1 w' hw', h2⟩
  | gval g v =>
   intro hh hgd
   obtain ⟨cv, h1, h2⟩ := hh hgd
   exact ⟨cv, fun w' hw' => by rw [Sem.run_bind, hg]; exact h1 w' hw', h2⟩
theorem optTV {cx β st tmps w} (h : FR cx β st tmps w) (ds : List Deferred) (x : Option Operand) : OptTV w (cx.S β st.objs) β st.objs (x.map st.ev) (x.map ({ tmps, defers := ds } : Act).eval) := by
 cases x with
 | none => trivial
 | some x => exact h.ev ds x
theorem pureOp_ok {P : Program} {T : Tys} (hT : TyOk P T) {s cx β st tmps w} (h : FR cx β st tmps w) (ds : List Deferred) (o : Oper) :
  PRokN P s (cx.S β st.objs) β st.objs w (execOp ({ tmps, defers := ds } : Act).eval o) (pureOp T s st o) := by
 have hev := h.ev ds
 have hz : ∀ i p nz, st.objs[i]? = some (AObj.arr p nz) → β i 0 = none → p.len = 0 := fun i p nz ho hb => (h.objs i _ ho).2.1 hb
 unfold pureOp
 split <;> rename_i ho <;> (try (unfold execOp; rw [ho])) <;> (try simp only [])
 ·exact ⟨_, fun _ _ => rfl, (hev _).coerce⟩
 ·exact ⟨_, fun _ _ => rfl, (hev _).coerce⟩
 ·rename_i c a b
  have := (pickA_ok (P := P) (s := s) _ _ _ _ _ _ (hev c) (hev a) (hev b)).next
  simpa using this
 ·rename_i op t x y u
  refine PRok.next ?_
  split
  ·have hb := binA_guard (P := P) (s := s) .eql t x y _ _ _ _ (hev x) (hev y)
   have he := eqNil_ok hT hz t _ _ _ _ (hev x) (nilOp_ok (y := y) (hev y))
   revert he
   generalize eqNil T st.objs t (st.ev x) (nilOp y (st.ev y)) = r
   cases r with
   | no => exact fun _ => hb
   | val v =>
    rintro ⟨b, rfl, hsh, hr⟩
    exact ⟨.bool b, fun w' _ => by simpa using eqNil_bin (.inl rfl) (hr w') hsh, .pure (.bool _)⟩
   | gval g v =>
    intro hh hg
    obtain ⟨b, rfl, hsh, hr⟩ := hh hg
    exact ⟨.bool b, fun w' _ => by simpa using eqNil_bin (.inl rfl) (hr w') hsh, .pure (.bool _)⟩
  ·have hb := binA_guard (P := P) (s := s) .neq t x y _ _ _ _ (hev x) (hev y)
   have he := eqNil_ok hT hz t _ _ _ _ (hev x) (nilOp_ok (y := y) (hev y))
   revert he
   generalize eqNil T st.objs t (st.ev x) (nilOp y (st.ev y)) = r
   cases r with
   | no => exact fun _ => hb
   | val v =>
    rintro ⟨b, rfl, hsh, hr⟩
    exact ⟨.bool (!b), fun w' _ => by simpa using eqNil_bin (.inr rfl) (hr w') hsh, .pure (.bool _)⟩
   | gval g v =>
    cases v <;> simp only [] <;> first
     | exact fun _ => trivial
     | (intro hh hg
        obtain ⟨b, e, hsh, hr⟩ := hh hg
        cases e
        exact ⟨.bool _, fun w' _ => by simpa using eqNil_bin (.inr rfl) (hr w') hsh, .pure (.bool _)⟩)
  ·exact binA_guard (P := P) (s := s) op t x y _ _ _ _ (hev x) (hev y)
 ·exact (unA_ok _ _ _ (hev _)).next
 ·exact (fieldAddrA_ok hT _ _ _ _ (hev _)).next
 ·exact (fieldA_ok hT _ _ _ _ (hev _)).next
 ·exact (indexAddrA_ok hT h _ _ _ _ _ (hev _) (hev _)).next
 ·exact (indexA_ok hT _ _ _ _ _ (hev _) (hev _)).next
 ·exact (loadA_ok hT h _ _ _ (hev _)).next
 ·exact (extractA_ok _ _ _ (hev _)).next
 ·rename_i x
  have hx := hev x
  revert hx
  generalize ({ tmps, defers := ds } : Act).eval x = v
  generalize st.ev x = av
  intro hx
  cases av with
  | fref c => cases hx with | pure hx => cases hx with | fref vs h1 h2 h3 h4 => exact ⟨_, fun _ _ => rfl, .pure (.fref vs h1 h2 h3 h4)⟩
  | ref i o => cases hx with
   | pure hx => cases hx
   | ref hb => exact ⟨_, fun _ _ => rfl, .ref hb⟩
  | eref i j c => cases hx with
   | pure hx => cases hx
   | eref h1 hb hj => exact ⟨_, fun _ _ => rfl, .eref h1 hb hj⟩
  | clo f c => cases hx with
   | pure hx => cases hx with | clo hl hr => exact ⟨_, fun _ _ => rfl, .pure (.clo hl hr)⟩
   | clo hl hr => exact ⟨_, fun _ _ => rfl, .clo hl hr⟩
  | mh i x => cases x with
   | tn o =>
    intro ho
    obtain ⟨b, rfl⟩ := Option.isSome_iff_exists.1 ho
    obtain ⟨m, T', h1, hm⟩ := hx.trieH (.inl ⟨_, rfl⟩)
    have hm : v = nodeV (some b) := hm
    subst hm
    exact ⟨_, fun _ _ => rfl, .mh h1 rfl⟩
   | _ => trivial
  | _ => trivial
 ·exact (convS_ok hT h _ _ _ _ (hev _)).next
 ·rename_i fn first cap
  split
  ·rename_i f hfirst
   have hf : first = #[] := by cases first; simp at hfirst; subst hfirst; rfl
   subst hf
   refine ⟨.func (.func f) #[] (cap.map ({ tmps, defers := ds } : Act).eval), fun w' _ => by simp [Instr.makeFunc], .clo (by simp) (fun c hc => ?_)⟩
   simp at hc
   have e : (cap.map ({ tmps, defers := ds } : Act).eval)[c]! = ({ tmps, defers := ds } : Act).eval cap[c] := by simp [hc]
   rw [e]
   simpa using hev cap[c]
  ·rename_i f x l hfirst
   split
   ·rename_i us hcap hus
    have hc : cap = #[] := by cases cap; simp at hcap; subst hcap; rfl
    subst hc
    have hv := intVals_ok (w := w) (S := cx.S β st.objs) (β := β) (objs := st.objs) _ (first.toList.map ({ tmps, defers := ds } : Act).eval) us hus (by rw [hfirst]; simp) (fun c h1 h2 => by
     simp at h2
     have h3 : c < (x :: l).length := by simpa using h1
     have := hev first[c]
     have e : (x :: l)[c] = first[c] := by
      have : (x :: l)[c]? = first[c]? := by rw [← hfirst]; simp
      rw [List.getElem?_eq_getElem h3, Array.getElem?_eq_getElem h2] at this
      exact Option.some.inj this
     simp only [List.getElem_map, e, Array.getElem_toList]
     exact this)
    refine ⟨.func (.func f) us.toArray #[], fun w' _ => ?_, .pure (.lit _)⟩
    have e : first.map ({ tmps, defers := ds } : Act).eval = us.toArray := by rw [← hv, ← Array.toList_map]
    simp [Instr.makeFunc, e]
   ·trivial
  ·trivial
 ·exact (sliceA_ok hT _ _ _ _ _ _ _ _ _ (hev _) (optTV h ds _) (optTV h ds _) (optTV h ds _)).next
 ·rename_i t parts
  refine (buildA_ok hT t (parts.toList.map fun p => (p.1, st.ev p.2)) (parts.map fun x => (x.1, ({ tmps, defers := ds } : Act).eval x.2)) (by simp) (fun k h1 h2 => ?_)).next
  simp at h1
  exact ⟨by simp, by simpa using hev (parts[k]).2⟩
 ·exact (lookupA_ok hT h _ _ _ _ _ _ (hev _) (hev _)).next
 ·rename_i c
  split
  ·rename_i x t hc ha ht
   have e1 : c.args = #[x] := by rw [← ha]
   have e2 : c.argTypes = #[t] := by rw [← ht]
   have := (lenA_ok hT (s := s) h t o.type _ _ (hev x)).next
   have e : (do let d ← resolve ({ tmps, defers := ds } : Act).eval c o.type; invoke d.target d.args) = (do pure (Next.value (← Builtin.len_ #[t] o.type #[({ tmps, defers := ds } : Act).eval x]))) := by
    simp [resolve, hc, e1, e2, invoke, builtin]
   rw [e]
   exact this
  ·rename_i _ _ x y hc ha
   have e1 : c.args = #[x, y] := by rw [← ha]
   have := (minA_ok (P := P) (s := s) _ _ _ _ c.argTypes o.type (hev x) (hev y)).1.next
   have e : (do let d ← resolve ({ tmps, defers := ds } : Act).eval c o.type; invoke d.target d.args) = (do pure (Next.value (← Builtin.min_ c.argTypes o.type #[({ tmps, defers := ds } : Act).eval x, ({ tmps, defers := ds } : Act).eval y]))) := by
    simp [resolve, hc, e1, invoke, builtin]
   rw [e]
   exact this
  ·rename_i _ _ x y hc ha
   have e1 : c.args = #[x, y] := by rw [← ha]
   have := (minA_ok (P := P) (s := s) _ _ _ _ c.argTypes o.type (hev x) (hev y)).2.next
   have e : (do let d ← resolve ({ tmps, defers := ds } : Act).eval c o.type; invoke d.target d.args) = (do pure (Next.value (← Builtin.max_ c.argTypes o.type #[({ tmps, defers := ds } : Act).eval x, ({ tmps, defers := ds } : Act).eval y]))) := by
    simp [resolve, hc, e1, invoke, builtin]
   rw [e]
   exact this
  ·trivial
 ·trivial
end Go.AM
end
