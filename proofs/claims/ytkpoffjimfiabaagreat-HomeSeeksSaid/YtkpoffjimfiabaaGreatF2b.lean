/-
  Groundwork of the abstract machine: effects as data, tries, parts of own arrays, and code as a whole, each with the conditions in its lemma.
-/
import Derived.Test.YtkpoffjimfiabaaGreatF2
import Derived.Lib.SliceRun
set_option linter.unusedVariables false
set_option linter.unusedSimpArgs false
set_option linter.unusedSectionVars false
set_option linter.unnecessarySimpa false

section
namespace Go.AM
open Go
inductive EffR where
 | fail
 | st (s : St)
 | ob (g : Prop) (s : St)
 | call (g : FuncId) (args : List AV) (s0 s : St)
 | new (g : Prop) (F : Nat → Prop) (s : Nat → St)
def EffR.holds (P : Program) (d : Option Tmp) (K : St → Prop) : EffR → Prop
 | .fail => False
 | .st s => K s
 | .ob g s => g ∧ K s
 | .call g args s0 s => ∃ Q, ACall P g args Q ∧ ∀ r objs, Q r objs → K (joinC s0 s d r objs)
 | .new g F s => g ∧ ∀ b, F b → K (s b)
def allocR (T : Tys) (cfg : Cfg) (st : St) (d : Option Tmp) (t : TypeId) : EffR :=
 match (match d with | some x => cfg.ab.elem x | none => false), T t with
 | true, some { k := .array n e, sz, zero := .agg z, .. } => match T e with
  | some ei => match Nat.beq z.length (n * ei.sz), ei.k.agg || Nat.beq ei.sz 1, Nat.beq sz (n * ei.sz), payOf T e n z with
   | true, true, true, some p => .st (({ st with objs := st.objs ++ [.arr p ⟨t, false⟩] } : St).put d (.ref st.objs.length 0))
   | _, _, _, _ => .fail
  | none => .fail
 | false, some { zero, .. } => match cellsA zero with
  | some xs => .st (({ st with objs := st.objs ++ [.box xs] } : St).put d (.ref st.objs.length 0))
  | none => .fail
 | _, _ => .fail
def boxFR (st : St) (d : Option Tmp) (x : AV) : EffR :=
 match cellsA x with
 | some xs => match xs.all (AV.noH 3) with
  | true => .st (st.put d (.fref xs))
  | false => match xs with
   | [x] => .st (st.put d (.hbox x))
   | _ => .fail
 | none => .fail
def boxMR (st : St) (d : Option Tmp) (x : AV) : EffR :=
 match cellsA x with
 | some xs => .st (({ st with objs := st.objs ++ [.box xs] } : St).put d (.ref st.objs.length 0))
 | none => .fail
def virtR (T : Tys) (st : St) (d : Option Tmp) (t : TypeId) : EffR :=
 match T t, emptyPay T t with
 | some { k := .slice e, .. }, some p => .st (st.addArr p ⟨e, true⟩ d)
 | _, _ => .fail
def buildSliceR (T : Tys) (st : St) (d : Option Tmp) (t : TypeId) (n : Nat) (parts : Array (Nat × Operand)) : EffR :=
 match T t with
 | some { k := .slice e, .. } => match T e with
  | some ei => match Nat.ble (n * ei.sz) 16777216, ei.k.agg || Nat.beq ei.sz 1, Nat.ble 1 ei.sz with
   | true, true, true =>
    match fillA (fun i => some (i * ei.sz, ei.sz)) (List.replicate (n * ei.sz) .junk) (parts.toList.map fun p => (p.1, (st.freezeL (hsOf st (parts.toList.map (·.2)))).ev p.2)) with
    | some out => match payOf T e n out with
     | some p => .st ((st.freezeL (hsOf st (parts.toList.map (·.2)))).addArr p ⟨e, false⟩ d)
     | none => .fail
    | none => .fail
   | _, _, _ => .fail
  | none => .fail
 | _ => .fail
def makeSliceR (T : Tys) (st : St) (d : Option Tmp) (t : TypeId) (l c : Operand) : EffR :=
 match T t, st.ev l with
 | some { k := .slice e, .. }, .int .i64 n => match T e with
  | some ei => match sameOp l c, ei.k.agg || Nat.beq ei.sz 1, Nat.ble 1 ei.sz, zeroPay T e n.toNat with
   | true, true, true, some p => .ob ((0 ≤ n ∧ n * (ei.bytes : Int) ≤ 70368744177664 ∧ n ≤ 70368744177664)) (st.addArr p ⟨e, false⟩ d)
   | _, _, _, _ => .fail
  | none => .fail
 | _, _ => .fail
def storeR (T : Tys) (st : St) (d : Option Tmp) (t : TypeId) (addr val : Operand) : EffR :=
 match st.ev addr with
 | .eref _ _ _ =>
  match (st.freezeL (hsOf st [val])).ev addr, T t with
  | .eref i j c, some ti => match (st.freezeL (hsOf st [val])).objs[i]?, cellsA ((st.freezeL (hsOf st [val])).ev val) with
   | some (.arr p ai), some xs => match Nat.beq xs.length ti.sz, xs.all AV.one, p.setAt j c xs with
    | true, true, some p' => .st (({ st.freezeL (hsOf st [val]) with objs := (st.freezeL (hsOf st [val])).objs.set i (.arr p' ai) } : St).put d .junk)
    | _, _, _ => .fail
   | _, _ => .fail
  | _, _ => .fail
 | .ref i off =>
  match st.objs[i]?, T t, cellsA (st.ev val) with
  | some (.box cells), some ti, some xs => match Nat.beq xs.length ti.sz, xs.all AV.one, Nat.ble (off + xs.length) cells.length with
   | true, true, true => .st (({ st with objs := st.objs.set i (.box (cells.take off ++ (xs ++ cells.drop (off + xs.length)))) } : St).put d .junk)
   | _, _, _ => .fail
  | some (.arr p ai), some { k := .array n e, sz, .. }, some xs => match T e with
   | some ei => match Nat.beq xs.length sz, Nat.beq sz (n * ei.sz), xs.all AV.one, ei.k.agg || Nat.beq ei.sz 1, payOf T e n xs with
    | true, true, true, true, some p' => match Nat.beq off 0, Nat.beq p'.len p.len, Nat.beq p'.sz p.sz with
     | true, true, true => .st (({ st with objs := st.objs.set i (.arr p' ai) } : St).put d .junk)
     | _, _, _ => .fail
    | _, _, _, _, _ => .fail
   | none => .fail
  | _, _, _ => .fail
 | _ => .fail
def appCoreR (T : Tys) (st : St) (i : Nat) (t tx : TypeId) (x : Operand) (d : Option Tmp) : EffR :=
 match st.objs[i]? with
 | some (.arr p ai) => match T t, T ai.e with
  | some { k := .slice e, .. }, some ei => match Nat.beq e ai.e, Nat.beq p.sz ei.sz, Nat.ble 1 ei.sz, Nat.ble 1 ei.bytes, cellsA ei.zero with
   | true, true, true, true, some zs => match Nat.beq zs.length ei.sz, srcA T st t tx x with
    | true, some q => match p.app q with
     | some r => .ob (q.onesOk ∧ (p.len + q.len) * ei.bytes ≤ 140737488355328) ((st.remap (killL i) i (.arr r ai)).put d (.own i))
     | none => .fail
    | _, _ => .fail
   | _, _, _, _, _ => .fail
  | _, _ => .fail
 | _ => .fail
def appendR (T : Tys) (st : St) (d : Option Tmp) (t tx : TypeId) (s x : Operand) : EffR :=
 match st.ev s with
 | .own i => appCoreR T st i t tx x d
 | .lit (.slice none 0 0) => match T t, emptyPay T t with
  | some { k := .slice e, .. }, some p => appCoreR T { st with objs := st.objs ++ [.arr p ⟨e, true⟩] } st.objs.length t tx x d
  | _, _ => .fail
 | _ => .fail
theorem allocR_ok {P : Program} {T : Tys} {cfg : Cfg} {st : St} {d : Option Tmp} {t : TypeId} {K : St → Prop} (h : (allocR T cfg st d t).holds P d K) : allocA T cfg st d t K := by
 unfold allocR at h; unfold allocA
 cases d <;> simp only [] at h ⊢
 all_goals repeat' split at h
 all_goals first | exact h.elim | exact absurd ‹false = true› (by simp) | (simp only [EffR.holds] at h; simp only [*, and_self]; done) | (simp only [EffR.holds] at h; simp only [*]; exact h)
theorem boxFR_ok {P : Program} {st : St} {d : Option Tmp} {x : AV} {K : St → Prop} (h : (boxFR st d x).holds P d K) : boxF st d x K := by
 unfold boxFR at h; unfold boxF
 repeat' split at h
 all_goals first | exact h.elim | (simp only [EffR.holds] at h; simp only [*, and_self]; done) | (simp only [EffR.holds] at h; simp only [*]; exact h)
theorem boxMR_ok {P : Program} {st : St} {d : Option Tmp} {x : AV} {K : St → Prop} (h : (boxMR st d x).holds P d K) : boxMA st d x K := by
 unfold boxMR at h; unfold boxMA
 repeat' split at h
 all_goals first | exact h.elim | (simp only [EffR.holds] at h; simp only [*, and_self]; done) | (simp only [EffR.holds] at h; simp only [*]; exact h)
theorem virtR_ok {P : Program} {T : Tys} {st : St} {d : Option Tmp} {t : TypeId} {K : St → Prop} (h : (virtR T st d t).holds P d K) : virtA T st d t K := by
 unfold virtR at h; unfold virtA
 repeat' split at h
 all_goals first | exact h.elim | (simp only [EffR.holds] at h; simp only [*, and_self]; done) | (simp only [EffR.holds] at h; simp only [*]; exact h)
theorem buildSliceR_ok {P : Program} {T : Tys} {st : St} {d : Option Tmp} {t : TypeId} {n : Nat} {parts : Array (Nat × Operand)} {K : St → Prop} (h : (buildSliceR T st d t n parts).holds P d K) : buildSliceA T st d t n parts K := by
 unfold buildSliceR at h; unfold buildSliceA
 repeat' split at h
 all_goals first | exact h.elim | (simp only [EffR.holds] at h; simp only [*, and_self]; done) | (simp only [EffR.holds] at h; simp only [*]; exact h)
theorem makeSliceR_ok {P : Program} {T : Tys} {st : St} {d : Option Tmp} {t : TypeId} {l c : Operand} {K : St → Prop} (h : (makeSliceR T st d t l c).holds P d K) : makeSliceA T st d t l c K := by
 unfold makeSliceR at h; unfold makeSliceA
 repeat' split at h
 all_goals first | exact h.elim | (simp only [EffR.holds] at h; simp only [*, and_self]; done) | (simp only [EffR.holds] at h; simp only [*]; exact h)
theorem storeR_ok {P : Program} {T : Tys} {st : St} {d : Option Tmp} {t : TypeId} {addr val : Operand} {K : St → Prop} (h : (storeR T st d t addr val).holds P d K) : storeA T st d t addr val K := by
 unfold storeR at h; unfold storeA
 repeat' split at h
 all_goals first | exact h.elim | (simp only [EffR.holds] at h; simp only [*, and_self]; done) | (simp only [EffR.holds] at h; simp only [*]; exact h)
theorem appCoreR_ok {P : Program} {T : Tys} {st : St} {i : Nat} {t tx : TypeId} {x : Operand} {d : Option Tmp} {K : St → Prop} (h : (appCoreR T st i t tx x d).holds P d K) : appCore T st i t tx x d K := by
 unfold appCoreR at h; unfold appCore
 repeat' split at h
 all_goals first | exact h.elim | (simp only [EffR.holds] at h; simp only [*, and_self]; done) | (simp only [EffR.holds] at h; simp only [*]; exact h)
theorem appendR_ok {P : Program} {T : Tys} {st : St} {d : Option Tmp} {t tx : TypeId} {s x : Operand} {K : St → Prop} (h : (appendR T st d t tx s x).holds P d K) : appendA T st d t tx s x K := by
 unfold appendR at h; unfold appendA
 split at h
 ·rename_i i hi
  simp only [hi]
  exact appCoreR_ok h
 ·rename_i hi
  split at h
  ·rename_i h1 h2
   simp only [hi, h1, h2]
   exact appCoreR_ok h
  ·exact h.elim
 ·exact h.elim
def makeMapE (T : Tys) (st : St) (d : Option Tmp) (t : TypeId) : EffR :=
 match T t with
 | some { k := .map kt et, .. } => match T kt, T et with
  | some { k := .int k, .. }, some { zero := .bool false, .. } => .st (({ st with objs := st.objs ++ [.mapB (.int k) []] } : St).put d (.mapr st.objs.length))
  | _, _ => .fail
 | _ => .fail
def updE (T : Tys) (st : St) (d : Option Tmp) (t : TypeId) (m key val : Operand) : EffR :=
 match st.ev m, st.ev key, T t with
 | .mapr i, .int k n, some { k := .map kt _, .. } => match st.objs[i]?, T kt with
  | some (.mapB (.int k1) mm), some { k := .int k2, .. } => match decide (k = k1), decide (k = k2), boolA (st.ev val) with
   | true, true, some b => .st (({ st with objs := st.objs.set i (.mapB (.int k) (mput n b mm)) } : St).put d .junk)
   | _, _, _ => .fail
  | _, _ => .fail
 | _, _, _ => .fail
theorem makeMapE_ok {P : Program} {T : Tys} {st : St} {d : Option Tmp} {t : TypeId} {K : St → Prop} (h : (makeMapE T st d t).holds P d K) : makeMapR T st d t K := by
 unfold makeMapE at h; unfold makeMapR
 repeat' split at h
 all_goals first | exact h.elim | (simp only [EffR.holds] at h; simp only [*, and_self]; done) | (simp only [EffR.holds] at h; simp only [*]; exact h)
theorem updE_ok {P : Program} {T : Tys} {st : St} {d : Option Tmp} {t : TypeId} {m key val : Operand} {K : St → Prop} (h : (updE T st d t m key val).holds P d K) : updR T st d t m key val K := by
 unfold updE at h; unfold updR
 repeat' split at h
 all_goals first | exact h.elim | (simp only [EffR.holds] at h; simp only [*, and_self]; done) | (simp only [EffR.holds] at h; simp only [*]; exact h)
end Go.AM
end

section
namespace Go.AM
open Go
def takeL (i j n : Nat) : AV → AV
 | .mh k x => match x with
  | .row c => match Nat.beq k i with
   | true => match Nat.beq c j with
    | true => .own n
    | false => .junk
   | false => .mh k (.row c)
  | x => .mh k x
 | av => av
def takeO (st : St) (i j : Nat) (ob' r : AObj) : St :=
 { st with env := mapE (AV.mapH (takeL i j st.objs.length) 3) st.env, objs := (st.objs.map (AObj.mapH (takeL i j st.objs.length))).set i ob' ++ [r] }
open Classical in
noncomputable def takeB (β : Nat → Nat → Option Nat) (i j n : Nat) (V : Nat → Prop) : Nat → Nat → Option Nat := fun a c =>
 if a = n then (match c with | 0 => β i (j + 1) | _ + 1 => none) else if a = i then (match c with | 0 => β i 0 | c + 1 => if V c then β i (c + 1) else none) else β a c
theorem FR.own_lt {cx β st tmps w} (h : FR cx β st tmps w) {i j b : Nat} (hb : β i j = some b) : i < st.objs.length := by
 rcases Nat.lt_or_ge i st.objs.length with hl | hl
 ·exact hl
 ·rw [h.out i j (by rw [List.getElem?_eq_none_iff]; exact hl)] at hb; cases hb
theorem FR.S_own {cx β st tmps w} (h : FR cx β st tmps w) {i j b : Nat} (hb : β i j = some b) (o : Nat) : cx.S β st.objs b o := by
 cases ho : st.objs[i]? with
 | none => rw [h.out i j ho] at hb; cases hb
 | some ob =>
  refine .inr (claim_of ho hb (fun e => ?_) o)
  subst e
  have := h.objs i _ ho
  rw [this j] at hb; cases hb
theorem nestV_lt {rows : List (List Int)} {hole : Option Nat} {gone j : Nat} (h : nestV rows hole gone j) : j < rows.length := h.2.1
theorem FR.take {cx β st tmps w} (h : FR cx β st tmps w) {i j : Nat} {rows : List (List Int)} {hole hole' : Option Nat} {gone gone' : Nat} {ai : AI} {e2 : TypeId} {am : Bool}
  (hi : st.objs[i]? = some (.nest rows hole gone ai e2 am)) (hj : nestV rows hole gone j) (hsub : ∀ c, nestV rows hole' gone' c → nestV rows hole gone c ∧ c ≠ j) :
  FR cx (takeB β i j st.objs.length (nestV rows hole' gone')) (takeO st i j (.nest rows hole' gone' ai e2 am) (.arr (.ints .i64 (rows.getD j [])) ⟨e2, false⟩)) tmps w := by
 have hin : i < st.objs.length := (List.getElem?_eq_some_iff.1 hi).1
 have hlt : ∀ (k : Nat) (o : AObj), st.objs[k]? = some o → k < st.objs.length := fun k o ho => (List.getElem?_eq_some_iff.1 ho).1
 obtain ⟨n1, n2, n3, n4⟩ : NestOk w (β i) rows hole gone ai e2 := h.objs i _ hi
 generalize hV : nestV rows hole' gone' = V at *
 generalize hB : takeB β i j st.objs.length V = B
 have Bn0 : B st.objs.length 0 = β i (j + 1) := by rw [← hB]; simp [takeB]
 have BnS : ∀ c, B st.objs.length (c + 1) = none := fun c => by rw [← hB]; simp [takeB]
 have Bi0 : B i 0 = β i 0 := by rw [← hB]; simp [takeB, Nat.ne_of_lt hin]
 have BiV : ∀ c, V c → B i (c + 1) = β i (c + 1) := fun c hc => by rw [← hB]; simp [takeB, Nat.ne_of_lt hin, hc]
 have BiN : ∀ c, ¬ V c → B i (c + 1) = none := fun c hc => by rw [← hB]; simp [takeB, Nat.ne_of_lt hin, hc]
 have Bo : ∀ k c, k ≠ i → k ≠ st.objs.length → B k c = β k c := fun k c h1 h2 => by rw [← hB]; simp [takeB, h1, h2]
 -- where a block comes from
 have hfrom : ∀ k c b, B k c = some b → ∃ k' c', β k' c' = some b ∧ ((k' = k ∧ c' = c ∧ k ≠ st.objs.length ∧ ¬ (k = i ∧ c = j + 1)) ∨ (k = st.objs.length ∧ c = 0 ∧ k' = i ∧ c' = j + 1)) := fun k c b hb => by
  by_cases hk : k = st.objs.length
  ·subst hk
   cases c with
   | zero => rw [Bn0] at hb; exact ⟨i, j + 1, hb, .inr ⟨rfl, rfl, rfl, rfl⟩⟩
   | succ c => rw [BnS] at hb; cases hb
  ·by_cases hk2 : k = i
   ·subst hk2
    cases c with
    | zero => rw [Bi0] at hb; exact ⟨k, 0, hb, .inl ⟨rfl, rfl, hk, by simp⟩⟩
    | succ c =>
     by_cases hc : V c
     ·rw [BiV c hc] at hb
      exact ⟨k, c + 1, hb, .inl ⟨rfl, rfl, hk, fun e => (hsub c hc).2 (by omega)⟩⟩
     ·rw [BiN c hc] at hb; cases hb
   ·rw [Bo k c hk2 hk] at hb
    exact ⟨k, c, hb, .inl ⟨rfl, rfl, hk, fun e => hk2 e.1⟩⟩
 generalize hf : takeL i j st.objs.length = f
 generalize hO : (st.objs.map (AObj.mapH f)).set i (AObj.nest rows hole' gone' ai e2 am) ++ [AObj.arr (.ints .i64 (rows.getD j [])) ⟨e2, false⟩] = O
 have hst : takeO st i j (.nest rows hole' gone' ai e2 am) (.arr (.ints .i64 (rows.getD j [])) ⟨e2, false⟩) = ⟨st.n, mapE (AV.mapH f 3) st.env, O⟩ := by rw [← hO, ← hf]; rfl
 rw [hst]
 have Oi : O[i]? = some (.nest rows hole' gone' ai e2 am) := by
  rw [← hO, List.getElem?_append_left (by simpa using hin)]; simp [hin]
 have On : O[st.objs.length]? = some (.arr (.ints .i64 (rows.getD j [])) ⟨e2, false⟩) := by
  rw [← hO, List.getElem?_append_right (by simp)]; simp
 have Oo : ∀ k, k ≠ i → k ≠ st.objs.length → O[k]? = (st.objs[k]?).map (AObj.mapH f) := fun k h1 h2 => by
  rw [← hO]
  rcases Nat.lt_or_ge k st.objs.length with hl | hl
  ·rw [List.getElem?_append_left (by simpa using hl), List.getElem?_set_ne (Ne.symm h1), List.getElem?_map]
  ·rw [List.getElem?_append_right (by simpa using hl), List.getElem?_eq_none (l := st.objs) hl]
   simp; omega
 have hS : ∀ b o, cx.S B O b o → cx.S β st.objs b o := fun b o hs => by
  rcases hs with hs | ⟨k, ob, h1, h2⟩
  ·exact .inl hs
  ·obtain ⟨_, c, hc⟩ := claims_block h2
   obtain ⟨k', c', hb, _⟩ := hfrom _ _ _ hc
   exact h.S_own hb o
 have hs' : ∀ b o v, w.cell? ⟨b, o, none⟩ = some v → ¬ cx.S β st.objs b o → ¬ cx.S B O b o := fun b o _ _ hn hh => hn (hS b o hh)
 have hp : ∀ av v, PV w (cx.S β st.objs) av v → PV w (cx.S B O) av v := fun av v hv => hv.keeps (Keeps.refl _ _) hs'
 have hk0 : ∀ k o, st.objs[k]? = some o → k ≠ i → k ≠ st.objs.length := fun k o ho _ => Nat.ne_of_lt (hlt _ _ ho)
 have hown : ∀ k (p : Pay) nz, st.objs[k]? = some (.arr p nz) → O[k]? = some (.arr p nz) ∧ ∀ c, B k c = β k c := fun k p nz ho => by
  have e : k ≠ i := fun e => by subst e; rw [hi] at ho; cases ho
  have e2 := hk0 _ _ ho e
  exact ⟨by rw [Oo k e e2, ho]; rfl, fun c => Bo k c e e2⟩
 have hB0 : ∀ k b, β k 0 = some b → B k 0 = some b := fun k b hb => by
  by_cases e : k = i
  ·subst e; rw [Bi0]; exact hb
  ·rw [Bo k 0 e (Nat.ne_of_lt (h.own_lt hb))]; exact hb
 have hb0 : ∃ b0, β i 0 = some b0 := by
  cases e : β i 0 with
  | none => have := n1 e; subst this; exact absurd hj.2.1 (by simp)
  | some b => exact ⟨b, rfl⟩
 have hT : ∀ av v, av.isH = true → TV w (cx.S β st.objs) β st.objs av v → TV w (cx.S B O) B O (f av) v := fun av v hh ht => by
  rw [← hf]
  rcases isH_cases hh with ⟨k, rfl⟩ | ⟨k, o, rfl⟩ | ⟨k, jj, c, rfl⟩ | ⟨k, rfl⟩ | ⟨k, x, rfl⟩
  ·cases ht with
   | pure h => cases h
   | own ho hlen hnz hn hb =>
    obtain ⟨e1, e2⟩ := hown _ _ _ ho
    exact .own e1 hlen hnz (fun e => hn (by rw [← e2]; exact e)) (fun b e => hb b (by rw [← e2]; exact e))
  ·cases ht with
   | pure h => cases h
   | ref hb => exact .ref (hB0 _ _ hb)
  ·cases ht with
   | pure h => cases h
   | eref ho hb hj => exact .eref (hown _ _ _ ho).1 (hB0 _ _ hb) hj
  ·cases ht with
   | pure h => cases h
   | mapr hb => exact .mapr (hB0 _ _ hb)
  ·cases ht with
   | pure h => cases h
   | @mh _ _ o _ ho hm =>
    by_cases e : k = i
    ·subst e
     rw [hi] at ho
     cases ho
     have hi2 : Nat.beq k k = true := Nat.beq_refl k
     cases x with
     | own =>
      obtain ⟨h0, a, cap, h1, h2, h3, h4⟩ := hm
      exact .mh Oi ⟨h0, a, cap, h1, h2, fun e => h3 (by rw [← Bi0]; exact e), fun b e => h4 b (by rw [← Bi0]; exact e)⟩
     | ref =>
      obtain ⟨h0, b, h1, h2⟩ := hm
      exact .mh Oi ⟨h0, b, by rw [Bi0]; exact h1, h2⟩
     | cell c =>
      obtain ⟨b, h1, h2, h3⟩ := hm
      exact .mh Oi ⟨b, by rw [Bi0]; exact h1, h2, h3⟩
     | agg =>
      obtain ⟨vs, h1, h2, h3⟩ := hm
      refine .mh Oi ⟨vs, h1, h2, fun c hc => ?_⟩
      rw [hV] at hc
      rw [BiV c hc]
      exact h3 c (hsub c hc).1
     | sub c => exact hm.elim
     | tn o => exact hm.elim
     | tw b => exact hm.elim
     | tx b => exact hm.elim
     | ts b x => exact hm.elim
     | tk l => exact hm.elim
     | row c =>
      simp only [takeL, hi2]
      rcases beq_cases c j with ⟨e, rfl⟩ | ⟨e, hne⟩
      ·rw [e]
       obtain ⟨_, a, cap, h1, h2, h3, h4⟩ := hm
       rw [h1]
       refine .own On rfl (fun e => by cases e) (fun e => h3 (by rw [← Bn0]; exact e)) (fun b e => ?_)
       rw [Bn0] at e
       obtain ⟨q1, q2, q3⟩ := h4 b e
       exact ⟨q1, h2, q2, by simpa [Pay.sz] using q3⟩
      ·rw [e]; exact .pure (.junk _)
    ·have e2 := hk0 _ _ ho e
     have e3 : takeL i j st.objs.length (.mh k x) = .mh k x := by
      cases x <;> simp only [takeL]
      rcases beq_cases k i with ⟨_, e4⟩ | ⟨e4, _⟩
      ·exact absurd e4 e
      ·rw [e4]
     rw [e3]
     have ho2 := ho
     cases o with
     | nest rows' hole'' gone'' ai' e2' am' => exact .mh (by rw [Oo k e e2, ho]; rfl) (hm.step (fun c => Bo k c e e2) (fun _ _ _ _ hx => hx))
     | arr p ai => exact .mh (by rw [Oo k e e2, ho]; rfl) (hm.arr (fun b e' => (Bo k 0 e e2).trans e') rfl rfl)
     | trie m T => exact .mh (by rw [Oo k e e2, ho]; rfl) hm.trie
     | _ => exact hm.elim
 refine ⟨h.keep, h.s0, fun k c k' c' b h1 h2 => ?_, fun k c b hb => ?_, fun k c ho => ?_, fun k o ho => ?_, h.size, fun t => ?_⟩
 ·obtain ⟨x1, y1, g1, s1⟩ := hfrom _ _ _ h1
  obtain ⟨x2, y2, g2, s2⟩ := hfrom _ _ _ h2
  obtain ⟨rfl, rfl⟩ := h.inj _ _ _ _ _ g1 g2
  rcases s1 with ⟨rfl, rfl, a3, a4⟩ | ⟨rfl, rfl, rfl, rfl⟩ <;> rcases s2 with ⟨rfl, rfl, b3, b4⟩ | ⟨rfl, rfl, b5, b6⟩
  ·exact ⟨rfl, rfl⟩
  ·exact absurd ⟨b5, b6⟩ a4
  ·exact absurd ⟨rfl, rfl⟩ b4
  ·exact ⟨rfl, rfl⟩
 ·obtain ⟨x1, y1, g1, _⟩ := hfrom _ _ _ hb
  exact h.rng _ _ _ g1
 ·have hk1 : k ≠ i := fun e => by subst e; rw [Oi] at ho; cases ho
  have hk2 : k ≠ st.objs.length := fun e => by subst e; rw [On] at ho; cases ho
  rw [Bo k c hk1 hk2]
  have ho : O[k]? = none := ho
  rw [Oo k hk1 hk2] at ho
  exact h.out k c (by simpa using ho)
 ·have ho : O[k]? = some o := ho
  by_cases hk1 : k = i
  ·subst hk1
   rw [Oi] at ho
   cases ho
   refine ⟨fun e => n1 (by rw [← Bi0]; exact e), fun c hc => ?_, fun b e => ?_, fun c b hc e => ?_⟩
   ·rw [hV] at hc; exact BiN c hc
   ·rw [Bi0] at e
    obtain ⟨cur, g1, g2, g3⟩ := n3 b e
    refine ⟨cur, g1, g2, fun c hc => ?_⟩
    rw [hV] at hc
    rw [BiV c hc]
    exact g3 c (hsub c hc).1
   ·rw [hV] at hc
    rw [BiV c hc] at e
    exact n4 c b (hsub c hc).1 e
  ·by_cases hk2 : k = st.objs.length
   ·subst hk2
    rw [On] at ho
    cases ho
    refine ⟨Pay.wf_ints _ _, fun e => ?_, fun c => BnS c, fun b e => ?_⟩
    ·rw [Bn0] at e
     obtain ⟨b0, hb0⟩ := hb0
     obtain ⟨cur, g1, g2, g3⟩ := n3 b0 hb0
     obtain ⟨a, cap, q1, q2, q3, q4⟩ := g3 j hj
     have := (q3 e).2
     simp only [Pay.len]; omega
    ·rw [Bn0] at e
     obtain ⟨cur, g1, g2, g3⟩ := n4 j b hj e
     refine ⟨⟨cur, g1, by simpa [Pay.len, Pay.sz] using g2⟩, fun jj c hc hjj => ?_⟩
     simp only [Pay.at, List.length_singleton] at hc
     obtain rfl : c = 0 := by omega
     simp only [Pay.len] at hjj
     refine ⟨_, by simp only [World.cell?, g1, Pay.sz, Nat.mul_one, Nat.add_zero]; exact g3 jj hjj, ?_⟩
     simp only [Pay.at, List.getElem_cons_zero]
     exact .int _ _
   ·rw [Oo k hk1 hk2] at ho
    obtain ⟨o1, ho1, rfl⟩ := Option.map_eq_some_iff.1 ho
    exact (h.objs k o1 ho1).mapH hT hp (fun c => Bo k c hk1 hk2) (fun _ _ _ => rfl)
 ·show TV _ _ _ _ (getE t (mapE _ _)) _
  rw [getE_mapE (by rfl)]
  exact TV.mapH hT hp 3 _ _ (h.env t)
end Go.AM
namespace Go.AM
open Go
def putL (k i j : Nat) : AV → AV
 | .own a => match Nat.beq a k with | true => .mh i (.row j) | false => .own a
 | .ref a o => match Nat.beq a k with | true => .junk | false => .ref a o
 | .eref a p c => match Nat.beq a k with | true => .junk | false => .eref a p c
 | .mapr a => match Nat.beq a k with | true => .junk | false => .mapr a
 | .mh a x => match Nat.beq a k, x with
  | true, _ => .junk
  | false, .row c => match Nat.beq a i with
   | true => .junk
   | false => .mh a (.row c)
  | false, .agg => match Nat.beq a i with
   | true => .junk
   | false => .mh a .agg
  | false, x => .mh a x
 | av => av
def putO (st : St) (k i j : Nat) (ob' : AObj) : St :=
 { st with env := mapE (AV.mapH (putL k i j) 3) st.env, objs := ((st.objs.map (AObj.mapH (putL k i j))).set i ob').set k .dead }
def putB (β : Nat → Nat → Option Nat) (k i j : Nat) : Nat → Nat → Option Nat := fun a c =>
 if a = k then none else if a = i ∧ c = j + 1 then β k 0 else β a c
theorem FR.putb {cx β st tmps w} (h : FR cx β st tmps w) {k i j b0 : Nat} {rows : List (List Int)} {hole : Option Nat} {gone : Nat} {ai aj : AI} {e2 : TypeId} {am : Bool} {r : List Int} {v : Value}
  (hi : st.objs[i]? = some (.nest rows hole gone ai e2 am)) (hk : st.objs[k]? = some (.arr (.ints .i64 r) aj)) (he : aj.e = e2) (hj : gone ≤ j ∧ j < rows.length) (hho : ∀ c, hole = some c → c = j)
  (hb0 : β i 0 = some b0) (hv : TV w (cx.S β st.objs) β st.objs (.own k) v) :
  FR cx (putB β k i j) (putO st k i j (.nest (rows.set j r) none gone ai e2 am)) tmps (w.setCells b0 j [v]) := by
 have hin : i < st.objs.length := (List.getElem?_eq_some_iff.1 hi).1
 have hkn : k < st.objs.length := (List.getElem?_eq_some_iff.1 hk).1
 have hik : i ≠ k := fun e => by subst e; rw [hi] at hk; cases hk
 have hlt : ∀ (k : Nat) (o : AObj), st.objs[k]? = some o → k < st.objs.length := fun k o ho => (List.getElem?_eq_some_iff.1 ho).1
 obtain ⟨n1, n2, n3, n4⟩ : NestOk w (β i) rows hole gone ai e2 := h.objs i _ hi
 obtain ⟨r1, r2, r3, r4⟩ := h.objs k _ hk
 obtain ⟨w1, w2, w3, w4, w5, w6, _⟩ := setCells_heap b0 [v] j w
 have wdr := setCells_dr b0 [v] j w
 obtain ⟨cur0, g1, g2, g3⟩ := n3 b0 hb0
 have hw0 : (w.setCells b0 j [v]).heap[b0]? = some (.cells (cur0.setIfInBounds j v) ai.e (0, 0)) := by
  simp [World.setCells, World.setCell, Array.getElem?_modify, g1]
 generalize w.setCells b0 j [v] = w' at *
 have hrow : RowV w e2 (β k 0) r v := by
  cases hv with
  | pure h => cases h
  | @own _ p nz a len cap ho hlen hnz hn hb =>
   rw [hk] at ho
   cases ho
   simp only [Pay.len] at hlen
   subst hlen
   refine ⟨a, cap, rfl, ?_, hn, fun b e => ?_⟩
   ·cases e : β k 0 with
    | none => have := r2 e; simp only [Pay.len] at this; omega
    | some b => exact (hb b e).2.1
   ·obtain ⟨q1, q2, q3, q4⟩ := hb b e
    exact ⟨q1, q3, by rw [← he]; simpa [Pay.sz] using q4⟩
 have hvV : ∀ c, nestV (rows.set j r) none gone c ↔ c = j ∨ (c ≠ j ∧ nestV rows hole gone c) := fun c => by
  unfold nestV
  simp only [List.length_set]
  constructor
  ·rintro ⟨a1, a2, a3⟩
   by_cases e : c = j
   ·exact .inl e
   ·exact .inr ⟨e, a1, a2, fun e2 => e (hho c e2)⟩
  ·rintro (rfl | ⟨_, a1, a2, a3⟩)
   ·exact ⟨hj.1, hj.2, by simp⟩
   ·exact ⟨a1, a2, by simp⟩
 generalize hB : putB β k i j = B
 have Bk : ∀ c, B k c = none := fun c => by rw [← hB]; simp [putB]
 have Bij : B i (j + 1) = β k 0 := by rw [← hB]; simp [putB, hik]
 have Bi : ∀ c, c ≠ j + 1 → B i c = β i c := fun c hc => by rw [← hB]; simp [putB, hik, hc]
 have Bi0 : B i 0 = β i 0 := Bi 0 (by omega)
 have Bo : ∀ a c, a ≠ i → a ≠ k → B a c = β a c := fun a c h1 h2 => by rw [← hB]; simp [putB, h1, h2]
 have hfrom : ∀ a c b, B a c = some b → a ≠ k ∧ ∃ a' c', β a' c' = some b ∧ ((a' = a ∧ c' = c ∧ ¬ (a = i ∧ c = j + 1)) ∨ (a = i ∧ c = j + 1 ∧ a' = k ∧ c' = 0)) := fun a c b hb => by
  by_cases hk : a = k
  ·subst hk; rw [Bk] at hb; cases hb
  ·refine ⟨hk, ?_⟩
   by_cases hk2 : a = i ∧ c = j + 1
   ·obtain ⟨rfl, rfl⟩ := hk2
    rw [Bij] at hb
    exact ⟨k, 0, hb, .inr ⟨rfl, rfl, rfl, rfl⟩⟩
   ·refine ⟨a, c, ?_, .inl ⟨rfl, rfl, hk2⟩⟩
    rw [← hB] at hb
    simpa [putB, hk, hk2] using hb
 generalize hf : putL k i j = f
 generalize hO : ((st.objs.map (AObj.mapH f)).set i (AObj.nest (rows.set j r) none gone ai e2 am)).set k AObj.dead = O
 have hst : putO st k i j (.nest (rows.set j r) none gone ai e2 am) = ⟨st.n, mapE (AV.mapH f 3) st.env, O⟩ := by rw [← hO, ← hf]; rfl
 rw [hst]
 have Ok : O[k]? = some .dead := by rw [← hO]; simp [hkn]
 have Oi : O[i]? = some (.nest (rows.set j r) none gone ai e2 am) := by
  rw [← hO, List.getElem?_set_ne (Ne.symm hik)]; simp [hin]
 have Oo : ∀ a, a ≠ i → a ≠ k → O[a]? = (st.objs[a]?).map (AObj.mapH f) := fun a h1 h2 => by
  rw [← hO, List.getElem?_set_ne (Ne.symm h2), List.getElem?_set_ne (Ne.symm h1), List.getElem?_map]
 have hS : ∀ b o, cx.S B O b o → cx.S β st.objs b o := fun b o hs => by
  rcases hs with hs | ⟨a, ob, h1, h2⟩
  ·exact .inl hs
  ·obtain ⟨_, c, hc⟩ := claims_block h2
   obtain ⟨_, k', c', hb, _⟩ := hfrom _ _ _ hc
   exact h.S_own hb o
 have hkS : Keeps (cx.S β st.objs) w w' := fun b o v hn hc => by
  rw [cell?_of_heap (w2 b (fun e => hn (by rw [e]; exact h.S_own hb0 o)))]; exact hc
 have hs' : ∀ b o v, w.cell? ⟨b, o, none⟩ = some v → ¬ cx.S β st.objs b o → ¬ cx.S B O b o := fun b o _ _ hn hh => hn (hS b o hh)
 have hp : ∀ av v, PV w (cx.S β st.objs) av v → PV w' (cx.S B O) av v := fun av v hv => hv.keeps hkS hs'
 have hshp : ∀ b x, w.shape? b = some x → w'.shape? b = some x := fun b x hx => by rw [w6 b]; exact hx
 have hblk : ∀ a c b, β a c = some b → ¬ (a = i ∧ c = 0) → w'.heap[b]? = w.heap[b]? := fun a c b hb hn => w2 b fun e => by
  subst e; exact hn (h.inj _ _ _ _ _ hb hb0)
 have hown : ∀ a (p : Pay) nz, a ≠ k → st.objs[a]? = some (.arr p nz) → O[a]? = some (.arr p nz) ∧ ∀ c, B a c = β a c := fun a p nz hak ho => by
  have e : a ≠ i := fun e => by subst e; rw [hi] at ho; cases ho
  exact ⟨by rw [Oo a e hak, ho]; rfl, fun c => Bo a c e hak⟩
 have hB0 : ∀ a, a ≠ k → B a 0 = β a 0 := fun a ha => by
  by_cases e : a = i
  ·subst e; exact Bi0
  ·exact Bo a 0 e ha
 have hT : ∀ av u, av.isH = true → TV w (cx.S β st.objs) β st.objs av u → TV w' (cx.S B O) B O (f av) u := fun av u hh ht => by
  rw [← hf]
  rcases isH_cases hh with ⟨a, rfl⟩ | ⟨a, o, rfl⟩ | ⟨a, jj, c, rfl⟩ | ⟨a, rfl⟩ | ⟨a, x, rfl⟩
  ·simp only [putL]
   rcases beq_cases a k with ⟨e, rfl⟩ | ⟨e, hne⟩ <;> rw [e]
   ·refine .mh Oi ⟨(hvV j).2 (.inl rfl), ?_⟩
    rw [Bij]
    have hu : u = v := by
     cases ht with
     | pure h => cases h
     | own ho hlen hnz hn hb =>
      cases hv with
      | pure h => cases h
      | own ho' hlen' hnz' hn' hb' =>
       rw [hk] at ho ho'
       cases ho
       cases ho'
       cases e0 : β a 0 with
       | none =>
        obtain ⟨rfl, rfl⟩ := hn e0
        obtain ⟨rfl, rfl⟩ := hn' e0
        rw [← hlen, ← hlen']
       | some b =>
        obtain ⟨rfl, _, _, q4⟩ := hb b e0
        obtain ⟨rfl, _, _, q4'⟩ := hb' b e0
        rw [q4] at q4'
        simp only [Option.some.injEq, Prod.mk.injEq, true_and, Pay.sz, Nat.mul_one] at q4'
        rw [← hlen, ← hlen', q4']
    rw [hu, show (rows.set j r).getD j [] = r by rw [getD_set _ _ _ _ _ hj.2]; simp]
    exact hrow.step fun b x _ hx => hshp b x hx
   ·cases ht with
    | pure h => cases h
    | own ho hlen hnz hn hb =>
     obtain ⟨e1, e2⟩ := hown _ _ _ hne ho
     exact .own e1 hlen hnz (fun e => hn (by rw [← e2]; exact e)) (fun b e => let ⟨q1, q2, q3, q4⟩ := hb b (by rw [← e2]; exact e); ⟨q1, q2, q3, hshp _ _ q4⟩)
  ·simp only [putL]
   rcases beq_cases a k with ⟨e, rfl⟩ | ⟨e, hne⟩ <;> rw [e]
   ·exact .pure (.junk _)
   ·cases ht with
    | pure h => cases h
    | ref hb => exact .ref (by rw [hB0 a hne]; exact hb)
  ·simp only [putL]
   rcases beq_cases a k with ⟨e, rfl⟩ | ⟨e, hne⟩ <;> rw [e]
   ·exact .pure (.junk _)
   ·cases ht with
    | pure h => cases h
    | eref ho hb hj => exact .eref (hown _ _ _ hne ho).1 (by rw [hB0 a hne]; exact hb) hj
  ·simp only [putL]
   rcases beq_cases a k with ⟨e, rfl⟩ | ⟨e, hne⟩ <;> rw [e]
   ·exact .pure (.junk _)
   ·cases ht with
    | pure h => cases h
    | mapr hb => exact .mapr (by rw [hB0 a hne]; exact hb)
  ·cases ht with
   | pure h => cases h
   | @mh _ _ o _ ho hm =>
    rcases beq_cases a k with ⟨hbk, _⟩ | ⟨hbk, hak⟩
    ·have e9 : putL k i j (.mh a x) = .junk := by cases x <;> simp only [putL, hbk]
     rw [e9]; exact .pure (.junk _)
    by_cases e : a = i
    ·subst e
     rw [hi] at ho
     cases ho
     have hii : Nat.beq a a = true := Nat.beq_refl a
     cases x with
     | own =>
      simp only [putL, hbk]
      obtain ⟨h0, ad, cap, h1, h2, h3, h4⟩ := hm
      exact .mh Oi ⟨h0, ad, cap, by rw [List.length_set]; exact h1, by rw [List.length_set]; exact h2, fun e => h3 (by rw [← Bi0]; exact e), fun b e => by
       obtain ⟨q1, q2, q3, q4⟩ := h4 b (by rw [← Bi0]; exact e)
       exact ⟨q1, by rw [List.length_set]; exact q2, q3, hshp _ _ q4⟩⟩
     | ref =>
      simp only [putL, hbk]
      obtain ⟨h0, b, h1, h2⟩ := hm
      exact .mh Oi ⟨h0, b, by rw [Bi0]; exact h1, h2⟩
     | cell c =>
      simp only [putL, hbk]
      obtain ⟨b, h1, h2, h3⟩ := hm
      exact .mh Oi ⟨b, by rw [Bi0]; exact h1, by rw [List.length_set]; exact h2, h3⟩
     | agg => simp only [putL, hbk, hii]; exact .pure (.junk _)
     | row c => simp only [putL, hbk, hii]; exact .pure (.junk _)
     | _ => exact hm.elim
    ·have e3 : putL k i j (.mh a x) = .mh a x := by
      have hbi : Nat.beq a i = false := by
       rcases beq_cases a i with ⟨_, e4⟩ | ⟨e4, _⟩
       ·exact absurd e4 e
       ·exact e4
      cases x <;> simp only [putL, hbk, hbi]
     rw [e3]
     have ho2 := ho
     cases o with
     | nest rows' hole'' gone'' ai' e2' am' => exact .mh (by rw [Oo a e hak, ho]; rfl) (hm.step (fun c => Bo a c e hak) (fun _ b x _ hx => hshp b x hx))
     | arr p ai => exact .mh (by rw [Oo a e hak, ho]; rfl) (hm.arr (fun b e' => (Bo a 0 e hak).trans e') rfl rfl)
     | trie m T => exact .mh (by rw [Oo a e hak, ho]; rfl) hm.trie
     | _ => exact hm.elim
 refine ⟨⟨w3.trans h.keep.os, w4.trans h.keep.tape, w5.trans h.keep.output, Nat.le_trans h.keep.drawn wdr, by rw [w1]; exact h.keep.size, fun b hb hL => ?_⟩, h.s0, fun a c a' c' b h1 h2 => ?_, fun a c b hb => ?_, fun a c ho => ?_, fun a o ho => ?_, h.size, fun t => ?_⟩
 ·rw [w2 b (fun e => hL (by subst e; exact (h.rng _ _ _ hb0).2 hb))]
  exact h.keep.block b hb hL
 ·obtain ⟨p1, x1, y1, g1, s1⟩ := hfrom _ _ _ h1
  obtain ⟨p2, x2, y2, g2, s2⟩ := hfrom _ _ _ h2
  obtain ⟨rfl, rfl⟩ := h.inj _ _ _ _ _ g1 g2
  rcases s1 with ⟨rfl, rfl, a3⟩ | ⟨rfl, rfl, rfl, rfl⟩ <;> rcases s2 with ⟨rfl, rfl, b3⟩ | ⟨rfl, rfl, b5, b6⟩
  ·exact ⟨rfl, rfl⟩
  ·exact absurd b5 p1
  ·exact absurd rfl p2
  ·exact ⟨rfl, rfl⟩
 ·obtain ⟨_, x1, y1, g1, _⟩ := hfrom _ _ _ hb
  obtain ⟨q1, q2⟩ := h.rng _ _ _ g1
  exact ⟨by rw [w1]; exact q1, q2⟩
 ·have hk1 : a ≠ i := fun e => by subst e; rw [Oi] at ho; cases ho
  have hk2 : a ≠ k := fun e => by subst e; rw [Ok] at ho; cases ho
  rw [Bo a c hk1 hk2]
  have ho : O[a]? = none := ho
  rw [Oo a hk1 hk2] at ho
  exact h.out a c (by simpa using ho)
 ·have ho : O[a]? = some o := ho
  by_cases hk2 : a = k
  ·subst hk2
   rw [Ok] at ho
   cases ho
   exact fun c => Bk c
  ·by_cases hk1 : a = i
   ·subst hk1
    rw [Oi] at ho
    cases ho
    have hgs : ∀ c, c ≠ j → (rows.set j r).getD c [] = rows.getD c [] := fun c hc => by rw [getD_set _ _ _ _ _ hj.2, if_neg hc]
    have hgj : (rows.set j r).getD j [] = r := by rw [getD_set _ _ _ _ _ hj.2]; simp
    refine ⟨fun e => ?_, fun c hc => ?_, fun b e => ?_, fun c b hc e => ?_⟩
    ·rw [Bi0, hb0] at e; cases e
    ·rw [hvV] at hc
     have hcj : c ≠ j := fun e => hc (.inl e)
     rw [Bi (c + 1) (by omega)]
     exact n2 c fun hv => hc (.inr ⟨hcj, hv⟩)
    ·rw [Bi0, hb0] at e
     cases e
     refine ⟨_, hw0, by simpa using g2, fun c hc => ?_⟩
     rcases (hvV c).1 hc with rfl | ⟨hcj, hc⟩
     ·rw [hgj, Bij]
      have : (cur0.setIfInBounds c v)[c]! = v := by simp [show c < cur0.size by omega]
      rw [this]
      exact hrow.step fun b x _ hx => hshp b x hx
     ·rw [hgs c hcj, Bi (c + 1) (by omega)]
      have : (cur0.setIfInBounds j v)[c]! = cur0[c]! := by
       simp only [getElem!_def]
       rw [Array.getElem?_setIfInBounds_ne (Ne.symm hcj)]
      rw [this]
      exact (g3 c hc).step fun b x _ hx => hshp b x hx
    ·rcases (hvV c).1 hc with rfl | ⟨hcj, hc⟩
     ·rw [Bij] at e
      obtain ⟨⟨cur, q1, q2⟩, q3⟩ := r4 b e
      have eb := hblk k 0 b e (fun e => hik e.1.symm)
      refine ⟨cur, by rw [eb, q1, he], by rw [hgj]; simpa [Pay.len, Pay.sz] using q2, fun x hx => ?_⟩
      rw [hgj] at hx ⊢
      obtain ⟨u, u1, u2⟩ := q3 x 0 (by simp [Pay.at]) hx
      simp only [World.cell?, q1, Pay.sz, Nat.mul_one, Nat.add_zero] at u1
      simp only [Pay.at, List.getElem_cons_zero] at u2
      have u1 : cur[x]? = some u := u1
      rw [u1]
      cases u2
      rfl
     ·rw [Bi (c + 1) (by omega)] at e
      obtain ⟨cur, q1, q2⟩ := n4 c b hc e
      have eb := hblk a (c + 1) b e (fun e => by omega)
      rw [hgs c hcj]
      exact ⟨cur, by rw [eb]; exact q1, q2⟩
   ·rw [Oo a hk1 hk2] at ho
    obtain ⟨o1, ho1, rfl⟩ := Option.map_eq_some_iff.1 ho
    exact (h.objs a o1 ho1).mapH hT hp (fun c => Bo a c hk1 hk2) (fun c b hb => hblk a c b hb (fun e => hk1 e.1))
 ·show TV _ _ _ _ (getE t (mapE _ _)) _
  rw [getE_mapE (by rfl)]
  exact TV.mapH hT hp 3 _ _ (h.env t)
end Go.AM
end

section
namespace Go.AM
open Go
theorem FR.newNest {cx β st tmps w} (h : FR cx β st tmps w) {n : Nat} {ai : AI} {e2 : TypeId} {am : Bool} {vs : Array Value} (hn : n ≤ vs.size) (hv : ∀ j, j < n → vs[j]! = .slice none 0 0) :
  FR cx (updB β st.objs.length (some w.heap.size)) { st with objs := st.objs ++ [.nest (List.replicate n []) none 0 ai e2 am] } tmps (w.alloc (.cells vs ai.e)) := by
 have hk := keepL_alloc w (.cells vs ai.e)
 refine h.newObj (.nest (List.replicate n []) none 0 ai e2 am) (some w.heap.size) hk (by simp) (fun b e => by cases e; exact ⟨Nat.le_refl _, by rw [size_alloc]; exact Nat.lt_succ_self _⟩) ?_
 refine ⟨fun e => (by rw [updB_same] at e; cases e), fun j _ => updB_succ, fun b e => ?_, fun j b _ e => (by rw [updB_succ] at e; cases e)⟩
 rw [updB_same] at e
 cases e
 refine ⟨vs, heap_new w _, by simpa using hn, fun j hj => ?_⟩
 have hj' : j < n := by simpa using hj.2.1
 rw [hv j hj', getD_replicate' _ _ _ _ hj']
 exact ⟨none, 0, rfl, Nat.le_refl _, fun _ => ⟨rfl, rfl⟩, fun b e => by rw [updB_succ] at e; cases e⟩
theorem run_makeSlice {P : Program} {T : Tys} (hT : TyOk P T) {t e : TypeId} {sz bytes : Nat} {z : AV} {ei : TyI} {n : Int} {w : World} (ht : T t = some { sz, bytes, k := .slice e, zero := z }) (he : T e = some ei)
  (hn0 : 0 ≤ n) (hnb : n * (ei.bytes : Int) ≤ 70368744177664) (hn1 : n ≤ 70368744177664) : ∃ zv, avOf zv = ei.zero ∧
  (Instr.makeSlice t (.int .i64 n) (.int .i64 n)).run P w = .ok (.slice (some ⟨w.heap.size, 0, none⟩) n.toNat n.toNat) (w.alloc (.cells ((Array.range (n.toNat * ei.sz)).map (zv.cells[· % zv.cells.size]!)) e)) := by
 obtain ⟨d, hk1, hu⟩ := hT.underlying ht
 cases d <;> simp only [TKok] at hk1
 rename_i elem
 subst hk1
 obtain ⟨zv, hz1, hz2⟩ := hT.zeroValue he
 have hzs := fun w => hT.sizeOf he w
 obtain ⟨inf, hi1, hi2, _, hi3⟩ := hT.typeInfo he
 have hwr : IntKind.i64.wrap n = n := by
  have e : IntKind.i64.wrap n = if n % (2 ^ 64 : Int) ≥ 2 ^ 63 then n % (2 ^ 64 : Int) - 2 ^ 64 else n % (2 ^ 64 : Int) := by
   simp [IntKind.wrap, IntKind.bits, IntKind.signed]
  rw [e]
  have : n % (2 ^ 64 : Int) = n := Int.emod_eq_of_lt hn0 (by omega)
  rw [this, if_neg (by omega)]
 refine ⟨zv, hz1, ?_⟩
 unfold Instr.makeSlice
 rw [Sem.run_bind, hu]
 simp only [Result.andThen, asInt, asIntOf, pure_bind, hwr]
 rw [Sem.run_bind, hi3]
 simp only [Result.andThen, hi2]
 have hc2 : ((n < 0 || decide ((ei.bytes : Int) * n > 2 ^ 48)) || decide (n < 0) || decide (n > n)) = false := by
  rw [Int.mul_comm]
  simp
  omega
 rw [if_neg (by rw [hc2]; simp)]
 have hask : ∀ (b : Nat) (w : World), (askRoom b).run P w = .ok () w := fun b w => by unfold askRoom; split <;> rfl
 rw [Sem.run_bind, hask]
 simp only [Result.andThen]
 rw [Sem.run_bind, hzs]
 simp only [Result.andThen]
 by_cases h0 : n.toNat * ei.sz = 0
 ·rw [if_pos h0, h0]
  have e0 : ∀ f : Nat → Value, (Array.range 0).map f = #[] := fun f => by simp
  simp only [e0]
  rfl
 ·rw [if_neg h0, Sem.run_bind, hz2]
  rfl
theorem avOf_nil {zv : Value} (h : avOf zv = .lit (.slice none 0 0)) : zv = .slice none 0 0 := by
 cases zv <;> simp [ofConst, leafC] at h
 obtain ⟨rfl, rfl, rfl⟩ := h
 rfl
def makeNestR (T : Tys) (st : St) (d : Option Tmp) (t : TypeId) (l c : Operand) : EffR :=
 match T t, st.ev l with
 | some { k := .slice e, .. }, .int .i64 n => match T e with
  | some { sz := 1, bytes, k := .slice e2, zero := .lit (.slice none 0 0) } => match sameOp l c with
   | true => .ob (0 ≤ n ∧ n * (bytes : Int) ≤ 70368744177664 ∧ n ≤ 70368744177664) (({ st with objs := st.objs ++ [.nest (List.replicate n.toNat []) none 0 ⟨e, false⟩ e2 false] } : St).put d (.mh st.objs.length .own))
   | false => .fail
  | _ => .fail
 | _, _ => .fail
theorem makeNestR_ok {P : Program} {T : Tys} (hT : TyOk P T) {o : Oper} {st : St} {t : TypeId} {l c : Operand} (ho : o.op = .makeSlice t l c) {K : St → Prop}
  (h : (makeNestR T st o.dst t l c).holds P o.dst K) : EffOk P true o st K := by
 intro cx β tmps w ds Q hfr
 unfold makeNestR at h
 split at h
 ·rename_i sz bytes e z n ht hl
  split at h
  ·rename_i bytes' e2 he
   split at h
   ·rename_i hsame
    obtain ⟨⟨hn0, hnb, hn1⟩, hK⟩ := h
    obtain ⟨zv, hz1, hrun⟩ := run_makeSlice (w := w) hT ht he hn0 hnb hn1
    obtain rfl := avOf_nil hz1
    have hev : ({ tmps, defers := ds } : Act).eval l = .int .i64 n := by
     have := hfr.ev ds l
     rw [hl] at this
     exact TV_int this
    have hev2 : ({ tmps, defers := ds } : Act).eval c = .int .i64 n := by rw [← sameOp_ev hsame]; exact hev
    have hna := hfr.newNest (n := n.toNat) (ai := ⟨e, false⟩) (e2 := e2) (am := false) (vs := (Array.range (n.toNat * 1)).map ((Value.slice none 0 0).cells[· % (Value.slice none 0 0).cells.size]!)) (by simp) (fun j hj => by
     simp [Value.cells, hj, Nat.mod_one])
    refine wp_of_run (v := .slice (some ⟨w.heap.size, 0, none⟩) n.toNat n.toNat) (w' := w.alloc (.cells ((Array.range (n.toNat * 1)).map ((Value.slice none 0 0).cells[· % (Value.slice none 0 0).cells.size]!)) e)) ?_ ?_
    ·unfold execOp
     rw [ho]
     simp only [Sem.run_bind, hev, hev2]
     rw [hrun]
     rfl
    ·have hm : MHok (w.alloc (.cells ((Array.range (n.toNat * 1)).map ((Value.slice none 0 0).cells[· % (Value.slice none 0 0).cells.size]!)) e)) (updB β st.objs.length (some w.heap.size) st.objs.length) (.nest (List.replicate n.toNat []) none 0 ⟨e, false⟩ e2 false) .own (.slice (some ⟨w.heap.size, 0, none⟩) n.toNat n.toNat) := by
      refine ⟨rfl, some ⟨w.heap.size, 0, none⟩, n.toNat, by rw [List.length_replicate], fun e => (by cases e), fun e => (by rw [updB_same] at e; cases e), fun b e => ?_⟩
      rw [updB_same] at e
      cases e
      refine ⟨rfl, by simp, ?_, ?_⟩
      ·simp only [maxLen]; omega
      ·simp only [World.shape?, heap_new]
       simp
     exact ⟨_, _, hK, hna.put (.mh (o := .nest (List.replicate n.toNat []) none 0 ⟨e, false⟩ e2 false) (by simp) hm) _ ds, put_defers _ _ _, (keepL_alloc w _).keeps fun _ _ _ => id, fun _ => keepL_alloc w _⟩
   ·exact h.elim
  ·exact h.elim
 ·exact h.elim
def nilsA : List AV → Bool
 | [] => true
 | .lit (.slice none 0 0) :: r => nilsA r
 | _ => false
theorem nilsA_all : ∀ {l : List AV}, nilsA l = true → ∀ c (h : c < l.length), l[c] = .lit (.slice none 0 0)
 | a :: r, hn, c, h => by
  unfold nilsA at hn
  split at hn
  ·rename_i h1; cases h1
  ·rename_i h1
   cases h1
   cases c with
   | zero => rfl
   | succ c => exact nilsA_all hn c (by simpa using h)
  ·cases hn
def allocNestR (T : Tys) (st : St) (d : Option Tmp) (t : TypeId) : EffR :=
 match T t with
 | some { k := .array n e, zero := .agg z, .. } => match T e with
  | some { sz := 1, k := .slice e2, .. } => match nilsA z, Nat.beq z.length n with
   | true, true => .st (({ st with objs := st.objs ++ [.nest (List.replicate n []) none 0 ⟨t, false⟩ e2 true] } : St).put d (.mh st.objs.length .ref))
   | _, _ => .fail
  | _ => .fail
 | _ => .fail
theorem allocNestR_ok {P : Program} {T : Tys} (hT : TyOk P T) {o : Oper} {st : St} {t : TypeId} (ho : o.op = .alloc t) {K : St → Prop} (h : (allocNestR T st o.dst t).holds P o.dst K) : EffOk P true o st K := by
 intro cx β tmps w ds Q hfr
 unfold allocNestR at h
 split at h
 ·rename_i sz by' n e z ht
  split at h
  ·rename_i by'' e2 zero he
   split at h
   ·rename_i hnil hlen
    have hlen := Nat.eq_of_beq_eq_true hlen
    obtain ⟨zv, hz1, hz2⟩ := run_alloc (P := P) hT ht
    simp only at hz1
    have hc : z.length = zv.cells.size ∧ ∀ c (hc : c < z.length), TV w (cx.S β st.objs) β st.objs (z[c]) (zv.cells[c]!) := cellsA_const (by show cellsA (avOf zv) = _; rw [hz1]; rfl)
    have hna := hfr.newNest (n := n) (ai := ⟨t, false⟩) (e2 := e2) (am := true) (vs := zv.cells) (by omega) (fun j hj => by
     have h1 := hc.2 j (by omega)
     rw [nilsA_all hnil j (by omega)] at h1
     exact TV_lit h1)
    refine wp_of_run (v := .pointer (some ⟨w.heap.size, 0, none⟩)) (w' := w.alloc (.cells zv.cells t)) ?_ ?_
    ·unfold execOp; rw [ho]; simp only [Sem.run_bind]; rw [hz2]; rfl
    ·have hm : MHok (w.alloc (.cells zv.cells t)) (updB β st.objs.length (some w.heap.size) st.objs.length) (.nest (List.replicate n []) none 0 ⟨t, false⟩ e2 true) .ref (.pointer (some ⟨w.heap.size, 0, none⟩)) := ⟨rfl, _, updB_same, rfl⟩
     exact ⟨_, _, h, hna.put (.mh (o := .nest (List.replicate n []) none 0 ⟨t, false⟩ e2 true) (by simp) hm) _ ds, put_defers _ _ _, (keepL_alloc w _).keeps fun _ _ _ => id, fun _ => keepL_alloc w _⟩
   ·exact h.elim
  ·exact h.elim
 ·exact h.elim
def takeS (st : St) (i j : Nat) : Option St :=
 match st.objs[i]? with
 | some (.nest rows none gone ai e2 am) => match gone with
  | 0 => some (takeO st i j (.nest rows (some j) 0 ai e2 am) (.arr (.ints .i64 (rows.getD j [])) ⟨e2, false⟩))
  | _ + 1 => none
 | _ => none
theorem takeS_ok {cx β st st' tmps w} (hfr : FR cx β st tmps w) {i j : Nat} {v : Value} (hv : TV w (cx.S β st.objs) β st.objs (.mh i (.row j)) v) (h : takeS st i j = some st') :
  ∃ β', FR cx β' st' tmps w ∧ TV w (cx.S β' st'.objs) β' st'.objs (.own st.objs.length) v ∧ ∀ b o, cx.S β' st'.objs b o → cx.S β st.objs b o := by
 unfold takeS at h
 split at h
 ·rename_i rows gone ai e2 am hi
  split at h
  ·cases h
   cases hv with
   | pure hv => cases hv
   | mh ho hm =>
    rw [hi] at ho
    cases ho
    obtain ⟨hj, a, cap, rfl, h2, h3, h4⟩ := hm
    have hsub : ∀ c, nestV rows (some j) 0 c → nestV rows none 0 c ∧ c ≠ j := fun c hc => ⟨⟨hc.1, hc.2.1, by simp⟩, fun e => hc.2.2 (by rw [e])⟩
    have hf := hfr.take (hole' := some j) (gone' := 0) hi hj hsub
    have hin : i < st.objs.length := (List.getElem?_eq_some_iff.1 hi).1
    have B0 : takeB β i j st.objs.length (nestV rows (some j) 0) st.objs.length 0 = β i (j + 1) := by simp [takeB]
    refine ⟨_, hf, ?_, fun b o hs => ?_⟩
    ·refine .own (p := .ints .i64 (rows.getD j [])) (nz := ⟨e2, false⟩) (by simp [takeO]) rfl (fun e => by cases e) (fun e => h3 (by rw [← B0]; exact e)) (fun b e => ?_)
     rw [B0] at e
     obtain ⟨q1, q2, q3⟩ := h4 b e
     exact ⟨q1, h2, q2, by simpa [Pay.sz] using q3⟩
    ·rcases hs with hs | ⟨k, ob, h1, h2⟩
     ·exact .inl hs
     ·obtain ⟨_, c, hc⟩ := claims_block h2
      unfold takeB at hc
      split at hc
      ·cases c with
       | zero => exact hfr.S_own hc o
       | succ c => cases hc
      ·split at hc
       ·cases c with
        | zero => exact hfr.S_own hc o
        | succ c =>
         simp only at hc
         split at hc
         ·exact hfr.S_own hc o
         ·cases hc
       ·exact hfr.S_own hc o
  ·cases h
 ·cases h
def appRowR (T : Tys) (st : St) (i j : Nat) (t tx : TypeId) (x : Operand) (d : Option Tmp) : EffR :=
 match takeS st i j with
 | some st' => appCoreR T st' st.objs.length t tx x d
 | none => .fail
theorem appRowR_ok {P : Program} {T : Tys} (hT : TyOk P T) {o : Oper} {st : St} {i j : Nat} {t tx : TypeId} {s x : Operand} (ho : o.op = .call { callee := .builtin .append, args := #[s, x], argTypes := #[t, tx] }) (hs : st.ev s = .mh i (.row j)) {K : St → Prop}
  (h : (appRowR T st i j t tx x o.dst).holds P o.dst K) : EffOk P false o st K := by
 intro cx β tmps w ds Q hfr
 unfold appRowR at h
 split at h
 ·rename_i st' ht
  have hv := hfr.ev ds s
  rw [hs] at hv
  obtain ⟨β1, hf1, hv1, hS1⟩ := takeS_ok hfr hv ht
  obtain ⟨v', w', hrun, hkeep, β', st', hk, hf'⟩ := appCore_ok (ty := o.type) hT hf1 hv1 (appCoreR_ok h) ds
  refine wp_of_run (v := v') (w' := w') ?_ ⟨β', st', hk, hf', put_defers _ _ _, fun b o v hn hc => hkeep b o v (fun hs => hn (hS1 b o hs)) hc, fun e => by cases e⟩
  unfold execOp
  simp only [ho, resolve, invoke, builtin, Sem.run_bind, Sem.run_pure, Result.andThen_ok, List.map_toArray, List.map_cons, List.map_nil, hrun]
 ·exact h.elim
def storeRowR (T : Tys) (st : St) (i j : Nat) (t : TypeId) (val : Operand) (d : Option Tmp) : EffR :=
 match st.objs[i]?, st.ev val, T t with
 | some (.nest rows hole gone ai e2 am), .own k, some { k := .slice _, sz := 1, .. } => match gone, st.objs[k]? with
  | 0, some (.arr (.ints .i64 r) aj) => match Nat.beq aj.e e2, hole with
   | true, none => .st ((putO st k i j (.nest (rows.set j r) none 0 ai e2 am)).put d .junk)
   | true, some c => match Nat.beq c j with
    | true => .st ((putO st k i j (.nest (rows.set j r) none 0 ai e2 am)).put d .junk)
    | false => .fail
   | _, _ => .fail
  | _, _ => .fail
 | _, _, _ => .fail
theorem storeRowR_ok {P : Program} {T : Tys} (hT : TyOk P T) {o : Oper} {st : St} {i j : Nat} {t : TypeId} {addr val : Operand} (ho : o.op = .store t addr val) (ha : st.ev addr = .mh i (.cell j)) {K : St → Prop}
  (h : (storeRowR T st i j t val o.dst).holds P o.dst K) : EffOk P false o st K := by
 intro cx β tmps w ds Q hfr
 unfold storeRowR at h
 split at h
 ·rename_i rows hole gone ai e2 am k by' e' zero hi hval hti
  split at h
  ·rename_i r aj hk
   have core : aj.e = e2 → (∀ c, hole = some c → c = j) → K ((putO st k i j (.nest (rows.set j r) none 0 ai e2 am)).put o.dst .junk) → o.wp P { tmps, defers := ds } w (EPost K cx (cx.S β st.objs) ds false w) Q := fun he hho hK => by
    have hav := hfr.ev ds addr
    rw [ha] at hav
    have hvv := hfr.ev ds val
    rw [hval] at hvv
    generalize hA : ({ tmps, defers := ds } : Act).eval addr = A at hav
    generalize hV : ({ tmps, defers := ds } : Act).eval val = V at hvv
    cases hav with
    | pure hx => cases hx
    | mh ho' hm =>
     rw [hi] at ho'
     cases ho'
     obtain ⟨b, hβ, hj, rfl⟩ := hm
     obtain ⟨_, _, n3, _⟩ := hfr.objs i _ hi
     obtain ⟨cur, q1, q2, q3⟩ := n3 b hβ
     have hf := hfr.putb hi hk he ⟨Nat.zero_le _, hj⟩ hho hβ hvv
     obtain ⟨w1, w2, w3, w4, w5, w6, w7⟩ := setCells_heap b [V] j w
     have hone : V.oneCell' = true := one_ok hvv rfl
     have hcells : V.cells = #[V] := by
      cases hvv with
      | pure h => cases h
      | own => rfl
     have hlt : j < cur.size := by omega
     have hrun := run_storeAt (P := P) hT hti b j V w (by rw [hcells]; rfl) (fun c hc => by
      rw [hcells] at hc
      simp only [List.size_toArray, List.length_cons, List.length_nil] at hc
      obtain rfl : c = 0 := by omega
      simp [World.cell?, q1, hlt]) (fun c _ => by simp [World.frozen?, q1]) (fun x hx => by rw [hcells] at hx; simp at hx; rw [hx]; exact hone)
     rw [hcells] at hrun
     refine wp_of_skip (w' := w.setCells b j [V]) ?_ ⟨_, _, hK, hf.put (.pure (.junk _)) _ ds, put_defers _ _ _, fun b' o' v hn hc => ?_, fun e => by cases e⟩
     ·unfold execOp
      rw [ho]
      simp only [Sem.run_bind, hA, hV]
      rw [hrun]
      rfl
     ·rw [cell?_of_heap (w2 b' (fun e => hn (by rw [e]; exact hfr.S_own hβ o')))]; exact hc
   split at h
   ·rename_i he
    exact core (Nat.eq_of_beq_eq_true he) (fun c e => by cases e) h
   ·rename_i he
    split at h
    ·rename_i hc
     exact core (Nat.eq_of_beq_eq_true he) (fun c e => by cases e; exact Nat.eq_of_beq_eq_true hc) h
    ·exact h.elim
   ·exact h.elim
  ·exact h.elim
 ·exact h.elim
end Go.AM
end

section
namespace Go.AM
open Go
def updZ (β : Nat → Nat → Option Nat) (i : Nat) (b : Option Nat) : Nat → Nat → Option Nat := fun a c => if a = i ∧ c = 0 then b else β a c
theorem updZ_ne {β : Nat → Nat → Option Nat} {n : Nat} {b : Option Nat} {i : Nat} (h : i ≠ n) (j : Nat) : updZ β n b i j = β i j := by simp [updZ, h]
theorem updZ_same {β : Nat → Nat → Option Nat} {n : Nat} {b : Option Nat} : updZ β n b n 0 = b := by simp [updZ]
theorem updZ_succ {β : Nat → Nat → Option Nat} {n : Nat} {b : Option Nat} {j : Nat} : updZ β n b n (j + 1) = β n (j + 1) := by simp [updZ]
theorem FR.rebaseN {cx β st tmps w w'} (h : FR cx β st tmps w) {i : Nat} {ob : AObj} (ob' : AObj) (b' : Nat) (hi : st.objs[i]? = some ob) (hd : ob ≠ .dead)
  (hold : β i 0 = some b' ∨ w.heap.size ≤ b') (hb' : b' < w'.heap.size)
  (hw : ∀ k, k < w.heap.size → β i 0 ≠ some k → w'.heap[k]? = w.heap[k]?) (hsize : w.heap.size ≤ w'.heap.size) (hos : w'.os = w.os) (htape : w'.tape = w.tape) (hout : w'.output = w.output) (hdr : w.drawn ≤ w'.drawn)
  (hsh : ∀ r x, w.shape? r = some x → w'.shape? r = some x)
  (hob : ObjOk w' (cx.S (updZ β i (some b')) (st.remap (killL i) i ob').objs) (updZ β i (some b')) (st.remap (killL i) i ob').objs i ob') :
  FR cx (updZ β i (some b')) (st.remap (killL i) i ob') tmps w' := by
 have hil : i < st.objs.length := (List.getElem?_eq_some_iff.1 hi).1
 have hfrom : ∀ k j b, updZ β i (some b') k j = some b → (β k j = some b ∧ ¬ (k = i ∧ j = 0)) ∨ (k = i ∧ j = 0 ∧ b = b') := fun k j b hb => by
  by_cases e : k = i ∧ j = 0
  ·obtain ⟨rfl, rfl⟩ := e
   rw [updZ_same] at hb; cases hb
   exact .inr ⟨rfl, rfl, rfl⟩
  ·simp only [updZ, if_neg e] at hb
   exact .inl ⟨hb, e⟩
 have hS : ∀ b o v, w.cell? ⟨b, o, none⟩ = some v → ¬ cx.S β st.objs b o → ¬ cx.S (updZ β i (some b')) (st.remap (killL i) i ob').objs b o := fun b o v hc hn hs => by
  rcases hs with hs | ⟨k, o1, h1, h2⟩
  ·exact hn (.inl hs)
  ·obtain ⟨_, j, hj⟩ := claims_block h2
   rcases hfrom _ _ _ hj with ⟨hb, _⟩ | ⟨rfl, rfl, rfl⟩
   ·exact hn (h.S_own hb o)
   ·rcases hold with hb | hb
    ·exact hn (h.S_own hb o)
    ·have := lt_of_cell? hc; omega
 have hkS : Keeps (cx.S β st.objs) w w' := fun b o v hn hc => by
  rw [cell?_of_heap (hw b (lt_of_cell? hc) (fun e => hn (h.S_own e o)))]; exact hc
 have hp : ∀ av v, PV w (cx.S β st.objs) av v → PV w' (cx.S (updZ β i (some b')) (st.remap (killL i) i ob').objs) av v := fun av v hv => hv.keeps hkS hS
 have hT : ∀ av v, av.isH = true → TV w (cx.S β st.objs) β st.objs av v → TV w' (cx.S (updZ β i (some b')) (st.remap (killL i) i ob').objs) (updZ β i (some b')) (st.remap (killL i) i ob').objs (killL i av) v := fun av v hh ht => by
  refine TV.stepH hh ht (fun k p nz hk ho => ⟨p, ?_, rfl, rfl⟩) (fun k rows hole gone ai e am hk ho => ?_) (fun k m T hk ho => ⟨T, ?_⟩) (fun k j hk => updZ_ne hk j) hsh
  all_goals
   simp only [St.remap, List.getElem?_set_ne (Ne.symm hk), List.getElem?_map, ho]
   rfl
 refine ⟨⟨hos.trans h.keep.os, htape.trans h.keep.tape, hout.trans h.keep.output, Nat.le_trans h.keep.drawn hdr, Nat.le_trans h.keep.size hsize, fun k hk hL => ?_⟩, h.s0, fun k j k' j' b h1 h2 => ?_, fun k j b hb => ?_, fun k j ho => ?_, fun k o ho => ?_, h.size, fun t => ?_⟩
 ·rw [hw k (Nat.lt_of_lt_of_le hk h.keep.size) (fun e => hL ((h.rng i 0 k e).2 hk))]
  exact h.keep.block k hk hL
 ·rcases hfrom _ _ _ h1 with ⟨g1, n1⟩ | ⟨e1, e2, e3⟩ <;> rcases hfrom _ _ _ h2 with ⟨g2, n2⟩ | ⟨e4, e5, e6⟩
  ·exact h.inj _ _ _ _ _ g1 g2
  ·subst e6
   rcases hold with hb | hb
   ·exact absurd (h.inj _ _ _ _ _ g1 hb) n1
   ·have := (h.rng _ _ _ g1).1; omega
  ·subst e3
   rcases hold with hb | hb
   ·exact absurd (h.inj _ _ _ _ _ g2 hb) n2
   ·have := (h.rng _ _ _ g2).1; omega
  ·exact ⟨e1.trans e4.symm, e2.trans e5.symm⟩
 ·rcases hfrom _ _ _ hb with ⟨g, _⟩ | ⟨rfl, rfl, rfl⟩
  ·exact ⟨Nat.lt_of_lt_of_le (h.rng _ _ _ g).1 hsize, (h.rng _ _ _ g).2⟩
  ·refine ⟨hb', fun hlt => ?_⟩
   rcases hold with hb | hb
   ·exact (h.rng _ _ _ hb).2 hlt
   ·have := h.keep.size; omega
 ·have hk : k ≠ i := fun e => by subst e; simp [St.remap, hil] at ho
  rw [updZ_ne hk]
  refine h.out k j ?_
  rw [List.getElem?_eq_none_iff] at ho ⊢
  simpa [St.remap] using ho
 ·by_cases hk : k = i
  ·subst hk
   simp [St.remap, hil] at ho
   subst ho
   exact hob
  ·simp only [St.remap, List.getElem?_set_ne (Ne.symm hk), List.getElem?_map, Option.map_eq_some_iff] at ho
   obtain ⟨o1, ho1, rfl⟩ := ho
   exact (h.objs k o1 ho1).mapH hT hp (fun j => updZ_ne hk j) (fun j b hb => hw b (h.rng k j b hb).1 (fun e => hk (h.inj _ _ _ _ _ hb e).1))
 ·simp only [St.remap]
  rw [getE_mapE (by rfl)]
  exact TV.mapH hT hp 3 _ _ (h.env t)
end Go.AM
namespace Go.AM
open Go
theorem nest_grown {w w' : World} {β : Nat → Option Nat} {rows : List (List Int)} {n : Nat} {ai : AI} {e2 : TypeId} {β' : Nat → Option Nat} {b' : Nat} {olds : List Value} {cur' : Array Value} (h : NestOk w β rows none 0 ai e2)
  (h0 : β' 0 = some b') (hs : ∀ j, β' (j + 1) = β (j + 1)) (hsame : ∀ j b, β (j + 1) = some b → w'.heap[b]? = w.heap[b]?)
  (hcur : w'.heap[b']? = some (.cells cur' ai.e (0, 0))) (hsz : rows.length + n ≤ cur'.size)
  (hold : ∀ j, j < rows.length → RowV w e2 (β (j + 1)) (rows.getD j []) (cur'[j]!)) (hnew : ∀ j, j < n → cur'[rows.length + j]! = .slice none 0 0) : NestOk w' β' (rows ++ List.replicate n []) none 0 ai e2 := by
 obtain ⟨n1, n2, n3, n4⟩ := h
 have hsh : ∀ j b x, β (j + 1) = some b → w.shape? b = some x → w'.shape? b = some x := fun j b x e hx => by rw [shape?_of_heap (hsame j b e)]; exact hx
 have hv : ∀ j, nestV (rows ++ List.replicate n []) none 0 j ↔ j < rows.length + n := fun j => by simp [nestV]
 have hvo : ∀ j, j < rows.length → nestV rows none 0 j := fun j hj => ⟨Nat.zero_le _, hj, by simp⟩
 have gO : ∀ j, j < rows.length → (rows ++ List.replicate n []).getD j [] = rows.getD j [] := fun j hj => by simp [List.getD, List.getElem?_append_left hj]
 have gN : ∀ j, ¬ j < rows.length → (rows ++ List.replicate n []).getD j [] = [] := fun j hj => by
  rw [List.getD_eq_getElem?_getD, List.getElem?_append_right (by omega), List.getElem?_replicate]
  split <;> rfl
 have hNone : ∀ j, ¬ j < rows.length → β (j + 1) = none := fun j hj => n2 j fun h => hj h.2.1
 refine ⟨fun e => (by rw [h0] at e; cases e), fun j hj => ?_, fun b e => ?_, fun j b hj e => ?_⟩
 ·rw [hs]
  exact hNone j fun hl => hj ((hv j).2 (by omega))
 ·rw [h0] at e
  cases e
  refine ⟨cur', hcur, by simpa using hsz, fun j hj => ?_⟩
  rw [hs]
  by_cases hl : j < rows.length
  ·rw [gO j hl]
   exact (hold j hl).step (hsh j)
  ·rw [gN j hl]
   have hj := (hv j).1 hj
   obtain ⟨m, rfl⟩ : ∃ m, j = rows.length + m := ⟨j - rows.length, by omega⟩
   rw [hnew m (by omega), hNone _ hl]
   exact ⟨none, 0, rfl, Nat.le_refl _, fun _ => ⟨rfl, rfl⟩, fun b e => by cases e⟩
 ·rw [hs] at e
  by_cases hl : j < rows.length
  ·rw [gO j hl]
   obtain ⟨cur, g1, g2⟩ := n4 j b (hvo j hl) e
   exact ⟨cur, by rw [hsame j b e]; exact g1, g2⟩
  ·rw [hNone j hl] at e; cases e
end Go.AM
end

section
namespace Go.AM
open Go
theorem toArr_getD {l : List Value} {zc : Array Value} {j : Nat} {v : Value} (h : l[j]? = some v) : (l.toArray ++ zc)[j]! = v := by
 obtain ⟨h1, h2⟩ := List.getElem?_eq_some_iff.1 h
 have : (l.toArray ++ zc)[j]? = some v := by
  rw [Array.getElem?_append_left (by simpa using h1)]
  simpa using h
 simp only [getElem!_def, this]
theorem FR.appNils {P : Program} {cx : Cx} {β : Nat → Nat → Option Nat} {st : St} {tmps : Array Value} {w : World} (hfr : FR cx β st tmps w) {i n : Nat} {rows : List (List Int)} {ai : AI} {e2 : TypeId} {v x : Value} {news : List Value}
  (hi : st.objs[i]? = some (.nest rows none 0 ai e2 false)) (hv : TV w (cx.S β st.objs) β st.objs (.mh i .own) v)
  {t tx ty : TypeId} {inf : TypeInfo} {z : Value} (hut : P.underlying t = some (.slice ai.e)) (hinf : P.info? ai.e = some inf) (hz1 : inf.zero = some z) (hzs : z.cells.size = inf.size) (hs1 : inf.size = 1)
  (hsrc : Src P inf.size tx x n news w) (hn : 1 ≤ n) (hnews : ∀ j, j < n → news[j]? = some (.slice none 0 0)) (hlen63 : rows.length + n ≤ maxLen) (hbd : (rows.length + n) * inf.bytes ≤ 140737488355328) :
  ∃ v' w', (Builtin.append_ #[t, tx] ty #[v, x]).run P w = .ok v' w' ∧ Keeps (cx.S β st.objs) w w' ∧
   ∃ β', FR cx β' (st.remap (killL i) i (.nest (rows ++ List.replicate n []) none 0 ai e2 false)) tmps w' ∧
    TV w' (cx.S β' (st.remap (killL i) i (.nest (rows ++ List.replicate n []) none 0 ai e2 false)).objs) β' (st.remap (killL i) i (.nest (rows ++ List.replicate n []) none 0 ai e2 false)).objs (.mh i .own) v' := by
 obtain hN : NestOk w (β i) rows none 0 ai e2 := hfr.objs i _ hi
 have hget := remap_get (f := killL i) (ob' := .nest (rows ++ List.replicate n []) none 0 ai e2 false) hi
 have hnl : news.length = n := by have := hsrc.newsLen; rw [hs1, Nat.mul_one] at this; exact this
 cases hv with
 | pure hv => cases hv
 | mh ho hm =>
  rw [hi] at ho
  cases ho
  obtain ⟨_, a, cap, rfl, hnz, hb0, hb⟩ := hm
  -- a new block
  have grow : ∀ (olds : List Value) (g : Nat) (zc : Array Value), olds.length = rows.length → (∀ j, j < rows.length → ∃ u, olds[j]? = some u ∧ RowV w e2 (β i (j + 1)) (rows.getD j []) u) → rows.length + n ≤ g → g ≤ maxLen → zc.size = g - (rows.length + n) →
    ∀ w', w' = w.drew.alloc (.cells ((olds ++ news).toArray ++ zc) ai.e) → Keeps (cx.S β st.objs) w w' ∧ ∃ β', FR cx β' (st.remap (killL i) i (.nest (rows ++ List.replicate n []) none 0 ai e2 false)) tmps w' ∧
     TV w' (cx.S β' (st.remap (killL i) i (.nest (rows ++ List.replicate n []) none 0 ai e2 false)).objs) β' (st.remap (killL i) i (.nest (rows ++ List.replicate n []) none 0 ai e2 false)).objs (.mh i .own) (.slice (some ⟨w.heap.size, 0, none⟩) (rows.length + n) g) := fun olds g zc hol ho hg hgm hzc w' hw' => by
   have hsize : w'.heap.size = w.heap.size + 1 := by rw [hw']; exact size_alloc w.drew _
   have hold : ∀ k, k < w.heap.size → w'.heap[k]? = w.heap[k]? := fun k hk => by rw [hw']; exact heap_alloc_old w.drew _ k hk
   have hnew : w'.heap[w.heap.size]? = some (.cells ((olds ++ news).toArray ++ zc) ai.e (0, 0)) := by rw [hw']; exact heap_alloc_new w.drew _
   have hkeep : Keeps (cx.S β st.objs) w w' := fun b o v _ hc => by rw [cell?_of_heap (hold b (lt_of_cell? hc))]; exact hc
   have hcs : ((olds ++ news).toArray ++ zc).size = g := by
    simp only [Array.size_append, List.size_toArray, List.length_append, hol, hnl, hzc]; omega
   have hNew : NestOk w' (updZ β i (some w.heap.size) i) (rows ++ List.replicate n []) none 0 ai e2 :=
    nest_grown (olds := olds) hN updZ_same (fun j => updZ_succ) (fun j b e => hold b (hfr.rng _ _ _ e).1) hnew (by rw [hcs]; exact hg) (fun j hj => by
     obtain ⟨u, hu, hr⟩ := ho j hj
     rw [toArr_getD (v := u) (by rw [List.getElem?_append_left (by omega)]; exact hu)]
     exact hr) (fun j hj => toArr_getD (by rw [List.getElem?_append_right (by omega), hol, Nat.add_sub_cancel_left]; exact hnews j hj))
   have hm : MHok w' (updZ β i (some w.heap.size) i) (.nest (rows ++ List.replicate n []) none 0 ai e2 false) .own (.slice (some ⟨w.heap.size, 0, none⟩) (rows.length + n) g) := by
    refine ⟨rfl, some ⟨w.heap.size, 0, none⟩, g, by simp, fun _ h => ?_, fun e => (by rw [updZ_same] at e; cases e), fun b e => ?_⟩
    ·simp at h; omega
    rw [updZ_same] at e
    cases e
    refine ⟨rfl, by simpa using hg, hgm, ?_⟩
    simp only [World.shape?, hnew, hcs]
   refine ⟨hkeep, updZ β i (some w.heap.size), ?_, .mh hget hm⟩
   ·exact hfr.rebaseN _ w.heap.size hi (by simp) (.inr (Nat.le_refl _)) (by omega) (fun k hk _ => hold k hk) (by omega) (by rw [hw']; rfl) (by rw [hw']; rfl) (by rw [hw']; rfl) (by rw [hw']; exact Nat.le_succ _) (fun k x hx => by rw [shape?_of_heap (hold k (lt_of_shape? hx))]; exact hx) hNew
  have hmul : ∀ k, k * inf.size = k := fun k => by rw [hs1, Nat.mul_one]
  cases hβ : β i 0 with
  | none =>
   obtain ⟨rfl, rfl⟩ := hb0 hβ
   obtain rfl := hN.1 hβ
   have hrun := run_append_grow_src (P := P) w t tx ty ai.e inf z hut hinf hz1 none 0 0 [] (run_firstCells_none w.drew inf.size 0 0 0) x n news hsrc (by omega) (by simp only [maxLen, List.length_nil] at hlen63; omega) (growslice_fits (by omega) (by simpa using hbd))
   have hge := grownCap_ge w (0 + n) 0 ai.e
   have hcm := grownCap_le_maxLen w (0 + n) 0 ai.e (by simpa using hlen63)
   have := grow [] (grownCap w (0 + n) 0 ai.e) (Builtin.zeroCells z.cells (grownCap w (0 + n) 0 ai.e - (0 + n))) rfl (fun j hj => by simp at hj) (by simpa using hge) hcm (by rw [size_zeroCells, hzs, hs1]; simp) _ rfl
   exact ⟨_, _, hrun, this⟩
  | some b =>
   obtain ⟨rfl, h2, h3, h4⟩ := hb b hβ
   obtain ⟨cur, q1, q2, q3⟩ := hN.2.2.1 b hβ
   have hvo : ∀ j, j < rows.length → nestV rows none 0 j := fun j hj => ⟨Nat.zero_le _, hj, by simp⟩
   have hcs : cur.size = cap := by
    simp only [World.shape?, q1, Option.some.injEq, Prod.mk.injEq] at h4
    exact h4.2
   have hcell : ∀ o, w.cell? ⟨b, o, none⟩ = cur[o]? := fun o => by simp [World.cell?, q1]
   by_cases hroom : rows.length + n ≤ cap
   ·have hrun := run_append_room_src (P := P) w t tx ty ai.e inf hut hinf b 0 rows.length cap x n news hsrc hroom (fun j hj => by
     rw [Nat.zero_add, hmul]
     have : rows.length + j < cur.size := by omega
     simp [hcell, this]) (fun j hj => by simp [World.frozen?, q1])
    rw [Nat.zero_add, hmul] at hrun
    obtain ⟨w1, w2, w3, w4, w5, w6, w7⟩ := setCells_heap b news rows.length w
    obtain ⟨cur', h8, h9⟩ := w7 _ _ _ q1
    have hkeep : Keeps (cx.S β st.objs) w (w.setCells b rows.length news) := fun b' o' v hn hc => by
     rw [cell?_of_heap (w2 b' (fun e => hn (by rw [e]; exact hfr.S_own hβ o')))]; exact hc
    have hcell' : ∀ o, (w.setCells b rows.length news).cell? ⟨b, o, none⟩ = cur'[o]? := fun o => by simp [World.cell?, h8]
    have hNew : NestOk (w.setCells b rows.length news) (updZ β i (some b) i) (rows ++ List.replicate n []) none 0 ai e2 :=
     nest_grown (olds := []) hN updZ_same (fun j => updZ_succ) (fun j b1 e => w2 b1 (fun e1 => by subst e1; have := (hfr.inj _ _ _ _ _ e hβ).2; omega)) h8 (by rw [h9, hcs]; exact hroom) (fun j hj => by
      have e1 : cur'[j]? = cur[j]? := by
       rw [← hcell', World.cell?_setCells_out b _ _ _ _ (fun _ _ => .inl hj), hcell]
      simp only [getElem!_def, e1]
      have := q3 j (hvo j hj)
      simpa only [getElem!_def] using this) (fun j hj => by
      have hin := World.cell?_setCells_in b news rows.length w (fun k hk => by
       have : rows.length + k < cur.size := by omega
       simp [hcell, this]) j (by omega)
      rw [hcell'] at hin
      have h10 := hnews j hj
      rw [List.getElem?_eq_getElem (by omega)] at h10
      simp only [getElem!_def, hin]
      exact Option.some.inj h10)
    have hm : MHok (w.setCells b rows.length news) (updZ β i (some b) i) (.nest (rows ++ List.replicate n []) none 0 ai e2 false) .own (.slice (some ⟨b, 0, none⟩) (rows.length + n) cap) := by
     refine ⟨rfl, some ⟨b, 0, none⟩, cap, by simp, fun _ h => ?_, fun e => (by rw [updZ_same] at e; cases e), fun b' e => ?_⟩
     ·simp at h; omega
     rw [updZ_same] at e
     cases e
     refine ⟨rfl, by simpa using hroom, h3, ?_⟩
     rw [w6]; exact h4
    refine ⟨_, _, hrun, hkeep, updZ β i (some b), ?_, .mh hget hm⟩
    ·exact hfr.rebaseN _ b hi (by simp) (.inl hβ) (by rw [w1]; exact (hfr.rng i 0 b hβ).1) (fun k _ hk => w2 k (fun e => hk (by rw [e]; exact hβ))) (by rw [w1]; exact Nat.le_refl _) w3 w4 w5 (setCells_dr _ _ _ _) (fun k x hx => by rw [w6]; exact hx) hNew
   ·have hrun := run_append_grow_src (P := P) w t tx ty ai.e inf z hut hinf hz1 (some ⟨b, 0, none⟩) rows.length cap (cur.toList.take rows.length)
     (run_firstCells_some w.drew inf.size rows.length ⟨b, 0, none⟩ rows.length cap _ (by rw [hmul]; simp [List.length_take]; omega) (fun j u hu => by
      rw [Addr.add_lit]
      show w.cell? _ = _
      have hj := (List.getElem?_eq_some_iff.1 hu).1
      simp only [List.length_take] at hj
      rw [List.getElem?_take_of_lt (by omega)] at hu
      rw [Nat.zero_add, hcell]; simpa using hu)) x n news hsrc (by omega) (by simp only [maxLen] at hlen63; omega) (growslice_fits (by omega) hbd)
    have hge := grownCap_ge w (rows.length + n) cap ai.e
    have hcm := grownCap_le_maxLen w (rows.length + n) cap ai.e hlen63
    have := grow (cur.toList.take rows.length) (grownCap w (rows.length + n) cap ai.e) (Builtin.zeroCells z.cells (grownCap w (rows.length + n) cap ai.e - (rows.length + n))) (by simp [List.length_take]; omega) (fun j hj => by
     have hjc : j < cur.size := by omega
     refine ⟨cur[j], by rw [List.getElem?_take_of_lt hj]; simp [hjc], ?_⟩
     have := q3 j (hvo j hj)
     rwa [getElem!_pos cur j hjc] at this) hge hcm (by rw [size_zeroCells, hzs, hs1, Nat.mul_one]) _ rfl
    exact ⟨_, _, hrun, this⟩
end Go.AM
end

section
namespace Go.AM
open Go
theorem fillA_len : ∀ {place : Nat → Option (Nat × Nat)} {parts : List (Nat × AV)} {cells out : List AV}, fillA place cells parts = some out → out.length = cells.length := by
 intro place parts
 induction parts with
 | nil => intro cells out h; simp [fillA] at h; subst h; rfl
 | cons a r ih =>
  intro cells out h
  obtain ⟨i, x⟩ := a
  unfold fillA at h
  split at h
  ·split at h
   ·rename_i h1 h2
    have h1 := Nat.eq_of_beq_eq_true h1
    have h2 := Nat.le_of_ble_eq_true h2
    rw [ih h]
    simp; omega
   ·cases h
  ·cases h
theorem run_buildSlice {P : Program} {T : Tys} (hT : TyOk P T) {cx : Cx} {β : Nat → Nat → Option Nat} {st : St} {tmps : Array Value} {w : World} (hfr : FR cx β st tmps w) (ds : List Deferred) {t e : TypeId} {sz bytes : Nat} {z : AV} {ei : TyI} {n : Nat} {parts : Array (Nat × Operand)} {out : List AV}
  (ht : T t = some { sz, bytes, k := .slice e, zero := z }) (he : T e = some ei) (hle : n * ei.sz ≤ 16777216)
  (hout : fillA (fun i => some (i * ei.sz, ei.sz)) (List.replicate (n * ei.sz) .junk) (parts.toList.map fun p => (p.1, st.ev p.2)) = some out) :
  ∃ vout : Array Value, (Instr.buildSlice t n (parts.map fun x => (x.1, ({ tmps, defers := ds } : Act).eval x.2))).run P w = .ok (.slice (some ⟨w.heap.size, 0, none⟩) n n) (w.alloc (.cells vout e)) ∧
   out.length = vout.size ∧ ∀ c (h : c < out.length), TV w (cx.S β st.objs) β st.objs (out[c]) (vout[c]!) := by
 obtain ⟨d, hk1, hu⟩ := hT.underlying ht
 cases d <;> simp only [TKok] at hk1
 subst hk1
 obtain ⟨zv, hz1, hz2⟩ := hT.zeroValue he
 have hzs := fun w => hT.sizeOf he w
 have hfill := fun (zero : Array Value) => fillA_ok (w := w) (S := cx.S β st.objs) (β := β) (objs := st.objs)
  (fun i => some (i * ei.sz, ei.sz)) (parts.toList.map fun p => (p.1, st.ev p.2)) (parts.map fun x => (x.1, ({ tmps, defers := ds } : Act).eval x.2)).toList
  (List.replicate (n * ei.sz) .junk) out ((Array.range (n * ei.sz)).map (zero[· % zero.size]!)) (by simp) (fun k h1 h2 => by simp at h1; exact ⟨by simp, by simpa using hfr.ev ds (parts[k]).2⟩)
  (by simp) (fun c hc => by simp only [List.getElem_replicate]; exact .pure (.junk _)) hout
 by_cases h0 : n * ei.sz = 0
 ·obtain ⟨vout, hv1, hv2, hv3⟩ := hfill #[]
  refine ⟨vout, ?_, hv2, hv3⟩
  unfold Instr.buildSlice
  rw [Sem.run_bind, hu]
  simp only [Result.andThen]
  rw [Sem.run_bind, hzs]
  simp only [Result.andThen]
  rw [if_neg (by simp; omega), if_pos h0]
  simp only [pure_bind]
  rw [hv1]
  rfl
 ·obtain ⟨vout, hv1, hv2, hv3⟩ := hfill zv.cells
  refine ⟨vout, ?_, hv2, hv3⟩
  unfold Instr.buildSlice
  rw [Sem.run_bind, hu]
  simp only [Result.andThen]
  rw [Sem.run_bind, hzs]
  simp only [Result.andThen]
  rw [if_neg (by simp; omega), if_neg h0]
  rw [Sem.run_bind, hz2]
  simp only [Result.andThen, pure_bind]
  rw [hv1]
  rfl
def nilParts (T : Tys) (st : St) (t : TypeId) (n : Nat) (parts : Array (Nat × Operand)) : Option (TypeId × TypeId) :=
 match T t with
 | some { k := .slice e, .. } => match T e with
  | some { sz := 1, k := .slice e2, .. } => match Nat.ble n 4096, fillA (fun i => some (i * 1, 1)) (List.replicate (n * 1) .junk) (parts.toList.map fun p => (p.1, st.ev p.2)) with
   | true, some out => match nilsA out with
    | true => some (e, e2)
    | false => none
   | _, _ => none
  | _ => none
 | _ => none
theorem nilParts_ok {P : Program} {T : Tys} (hT : TyOk P T) {cx : Cx} {β : Nat → Nat → Option Nat} {st : St} {tmps : Array Value} {w : World} (hfr : FR cx β st tmps w) (ds : List Deferred) {t e e2 : TypeId} {n : Nat} {parts : Array (Nat × Operand)}
  (h : nilParts T st t n parts = some (e, e2)) : n ≤ 4096 ∧ ∃ vout : Array Value, (Instr.buildSlice t n (parts.map fun x => (x.1, ({ tmps, defers := ds } : Act).eval x.2))).run P w = .ok (.slice (some ⟨w.heap.size, 0, none⟩) n n) (w.alloc (.cells vout e)) ∧
   vout.size = n ∧ ∀ j, j < n → vout[j]! = .slice none 0 0 := by
 unfold nilParts at h
 split at h
 ·rename_i sz by' e' z ht
  split at h
  ·rename_i by2 e2' z2 he
   split at h
   ·rename_i out hle hout
    have hle := Nat.le_of_ble_eq_true hle
    split at h
    ·rename_i hn
     cases h
     obtain ⟨vout, h1, h2, h3⟩ := run_buildSlice hT hfr ds ht he (by simp only; omega) hout
     have hl := fillA_len hout
     simp only [List.length_replicate, Nat.mul_one] at hl
     refine ⟨hle, vout, h1, by omega, fun j hj => ?_⟩
     have := h3 j (by omega)
     rw [nilsA_all hn j (by omega)] at this
     exact TV_lit this
    ·cases h
   ·cases h
  ·cases h
 ·cases h
def buildNestR (T : Tys) (st : St) (d : Option Tmp) (t : TypeId) (n : Nat) (parts : Array (Nat × Operand)) : EffR :=
 match nilParts T st t n parts with
 | some (e, e2) => .st (({ st with objs := st.objs ++ [.nest (List.replicate n []) none 0 ⟨e, false⟩ e2 false] } : St).put d (.mh st.objs.length .own))
 | none => .fail
theorem buildNestR_ok {P : Program} {T : Tys} (hT : TyOk P T) {o : Oper} {st : St} {t : TypeId} {n : Nat} {parts : Array (Nat × Operand)} (ho : o.op = .buildSlice t n parts) {K : St → Prop}
  (h : (buildNestR T st o.dst t n parts).holds P o.dst K) : EffOk P true o st K := by
 intro cx β tmps w ds Q hfr
 unfold buildNestR at h
 split at h
 ·rename_i e e2 hp
  obtain ⟨hle, vout, hr1, hr2, hr3⟩ := nilParts_ok hT hfr ds hp
  have hna := hfr.newNest (n := n) (ai := ⟨e, false⟩) (e2 := e2) (am := false) (vs := vout) (by omega) hr3
  refine wp_of_run (v := .slice (some ⟨w.heap.size, 0, none⟩) n n) (w' := w.alloc (.cells vout e)) ?_ ?_
  ·unfold execOp
   rw [ho]
   simp only [Sem.run_bind]
   rw [hr1]
   rfl
  ·have hm : MHok (w.alloc (.cells vout e)) (updB β st.objs.length (some w.heap.size) st.objs.length) (.nest (List.replicate n []) none 0 ⟨e, false⟩ e2 false) .own (.slice (some ⟨w.heap.size, 0, none⟩) n n) := by
    refine ⟨rfl, some ⟨w.heap.size, 0, none⟩, n, by rw [List.length_replicate], fun e => (by cases e), fun e => (by rw [updB_same] at e; cases e), fun b e => ?_⟩
    rw [updB_same] at e
    cases e
    refine ⟨rfl, by simp, ?_, ?_⟩
    ·simp only [maxLen]; omega
    ·simp only [World.shape?, heap_new]
     rw [hr2]
   exact ⟨_, _, h, hna.put (.mh (o := .nest (List.replicate n []) none 0 ⟨e, false⟩ e2 false) (by simp) hm) _ ds, put_defers _ _ _, (keepL_alloc w _).keeps fun _ _ _ => id, fun _ => keepL_alloc w _⟩
 ·exact h.elim
def buildNilsR (T : Tys) (st : St) (d : Option Tmp) (t : TypeId) (n : Nat) (parts : Array (Nat × Operand)) : EffR :=
 match nilParts T st t n parts with
 | some (e, _) => .st (st.addArr (.gen 1 (List.replicate n [.lit (.slice none 0 0)])) ⟨e, false⟩ d)
 | none => .fail
theorem buildNilsR_ok {P : Program} {T : Tys} (hT : TyOk P T) {o : Oper} {st : St} {t : TypeId} {n : Nat} {parts : Array (Nat × Operand)} (ho : o.op = .buildSlice t n parts) {K : St → Prop}
  (h : (buildNilsR T st o.dst t n parts).holds P o.dst K) : EffOk P true o st K := by
 intro cx β tmps w ds Q hfr
 unfold buildNilsR at h
 split at h
 ·rename_i e e2 hp
  obtain ⟨hle, vout, hr1, hr2, hr3⟩ := nilParts_ok hT hfr ds hp
  have hat : ∀ j, j < n → (Pay.gen 1 (List.replicate n [.lit (.slice none 0 0)])).at j = [.lit (.slice none 0 0)] := fun j hj => by simp [Pay.at, List.getD, hj]
  have hna := hfr.newArr (p := .gen 1 (List.replicate n [.lit (.slice none 0 0)])) (ai := ⟨e, false⟩) (vs := vout) (fun j hj => by rw [hat j (by simpa [Pay.len] using hj)]; rfl) (by simp [Pay.len, Pay.sz]; omega) (fun j c hc hj => by
   have hj' : j < n := by simpa [Pay.len] using hj
   have e1 := hat j hj'
   have hc0 : c = 0 := by rw [e1] at hc; simpa using hc
   subst hc0
   simp only [e1, Pay.sz, List.getElem_cons_zero, Nat.mul_one, Nat.add_zero, hr3 j hj']
   exact .lit _)
  refine wp_of_run (v := .slice (some ⟨w.heap.size, 0, none⟩) n n) (w' := w.alloc (.cells vout e)) ?_ ?_
  ·unfold execOp
   rw [ho]
   simp only [Sem.run_bind]
   rw [hr1]
   rfl
  ·refine ⟨_, _, h, hna.put (.own (p := .gen 1 (List.replicate n [.lit (.slice none 0 0)])) (nz := ⟨e, false⟩) (by simp) (by simp [Pay.len]) (fun e => by cases e) (fun e => by rw [updB_same] at e; cases e) (fun b e => ?_)) _ ds, put_defers _ _ _, (keepL_alloc w _).keeps fun _ _ _ => id, fun _ => keepL_alloc w _⟩
   rw [updB_same] at e
   cases e
   refine ⟨rfl, Nat.le_refl _, ?_, ?_⟩
   ·simp only [maxLen]; omega
   ·simp only [World.shape?, heap_new, Pay.sz]
    rw [hr2, Nat.mul_one]
 ·exact h.elim
def nilsP : List (List AV) → Bool
 | [] => true
 | [.lit (.slice none 0 0)] :: r => nilsP r
 | _ => false
theorem nilsP_all : ∀ {l : List (List AV)}, nilsP l = true → ∀ j, j < l.length → l.getD j [] = [.lit (.slice none 0 0)]
 | a :: r, hn, j, h => by
  unfold nilsP at hn
  split at hn
  ·rename_i h1; cases h1
  ·rename_i h1
   cases h1
   cases j with
   | zero => rfl
   | succ j => simpa using nilsP_all hn j (by simpa using h)
  ·cases hn
def appNilsR (T : Tys) (st : St) (i : Nat) (t tx : TypeId) (x : Operand) (d : Option Tmp) : EffR :=
 match st.objs[i]? with
 | some (.nest rows none 0 ai e2 false) => match T t, T ai.e with
  | some { k := .slice e, .. }, some ei => match Nat.beq e ai.e, Nat.beq ei.sz 1, Nat.ble 1 ei.bytes, cellsA ei.zero with
   | true, true, true, some zs => match Nat.beq zs.length ei.sz, srcA T st t tx x with
    | true, some (.gen 1 l) => match nilsP l, Nat.ble 1 l.length with
     | true, true => .ob ((rows.length + l.length) * ei.bytes ≤ 140737488355328) ((st.remap (killL i) i (.nest (rows ++ List.replicate l.length []) none 0 ai e2 false)).put d (.mh i .own))
     | _, _ => .fail
    | _, _ => .fail
   | _, _, _, _ => .fail
  | _, _ => .fail
 | _ => .fail
theorem appNilsR_ok {P : Program} {T : Tys} (hT : TyOk P T) {o : Oper} {st : St} {i : Nat} {t tx : TypeId} {s x : Operand} (ho : o.op = .call { callee := .builtin .append, args := #[s, x], argTypes := #[t, tx] }) (hs : st.ev s = .mh i .own) {K : St → Prop}
  (h : (appNilsR T st i t tx x o.dst).holds P o.dst K) : EffOk P false o st K := by
 intro cx β tmps w ds Q hfr
 unfold appNilsR at h
 split at h
 ·rename_i rows ai e2 hi
  split at h
  ·rename_i s1 s2 e s3 ei ht he
   split at h
   ·rename_i zs h1 h2 h3 hz
    have h1 := Nat.eq_of_beq_eq_true h1
    have h2 := Nat.eq_of_beq_eq_true h2
    have h3 := Nat.le_of_ble_eq_true h3
    subst h1
    split at h
    ·rename_i l h5 hq
     have h5 := Nat.eq_of_beq_eq_true h5
     split at h
     ·rename_i hn hl
      have hl := Nat.le_of_ble_eq_true hl
      obtain ⟨hbd, hk⟩ := h
      have hone : (Pay.gen 1 l).onesOk := fun r hr y hy => by
       obtain ⟨j, hj, rfl⟩ := List.mem_iff_getElem.1 hr
       have := nilsP_all hn j hj
       rw [List.getD_eq_getElem?_getD, List.getElem?_eq_getElem hj] at this
       simp only [Option.getD_some] at this
       rw [this] at hy
       simp at hy
       rw [hy]; rfl
      obtain ⟨inf, hinf, hisz, hiby, z, hz1, hz2⟩ := (hT _ _ he).info
      have hzs : z.cells.size = inf.size := by
       rw [← hz2] at hz
       have := (cellsA_const (w := w) (S := fun _ _ => False) (β := fun _ _ => none) (objs := []) hz).1
       omega
      obtain ⟨news, hs1, _, hrel⟩ := srcA_ok (sz := inf.size) hT hfr hq (show 1 = inf.size by omega) (by omega) hone ds
      have hv := hfr.ev ds s
      rw [hs] at hv
      have hnl : news.length = l.length := by have := hs1.newsLen; rw [hisz, h2, Nat.mul_one] at this; exact this
      obtain ⟨v', w', hrun, hkeep, β', hf', htv⟩ := hfr.appNils (t := t) (tx := tx) (ty := o.type) (n := l.length) hi hv (hT.kslice ht rfl) hinf hz1 hzs (by omega) hs1 hl (fun j hj => by
       obtain ⟨v, hv1, hv2⟩ := hrel j 0 (by simp only [Pay.at, nilsP_all hn j hj]; simp) hj
       rw [show inf.size = 1 by omega, Nat.mul_one, Nat.add_zero] at hv1
       rw [hv1]
       simp only [Pay.at, nilsP_all hn j hj, List.getElem_cons_zero] at hv2
       cases hv2
       rfl) (by
        have := Nat.le_mul_of_pos_right (rows.length + l.length) h3
        simp only [maxLen]; omega) (by rw [hiby]; exact hbd)
      refine wp_of_run (v := v') (w' := w') ?_ ⟨β', _, hk, hf'.put htv _ ds, put_defers _ _ _, hkeep, fun e => by cases e⟩
      unfold execOp
      simp only [ho, resolve, invoke, builtin, Sem.run_bind, Sem.run_pure, Result.andThen_ok, List.map_toArray, List.map_cons, List.map_nil, hrun]
     ·exact h.elim
    ·exact h.elim
   ·exact h.elim
  ·exact h.elim
 ·exact h.elim
end Go.AM
end

section
namespace Go.AM
open Go
theorem mfindK_spec {α : Type} {key : List Int} : ∀ {m : List (List Int × α)} {i0 i : Nat} {b : α}, mfindK key m i0 = some (i, b) → ∃ j, i = i0 + j ∧ ∃ h : j < m.length, key = (m[j]).1
 | [], _, _, _, h => by cases h
 | (l, c) :: r, i0, i, b, h => by
  unfold mfindK at h
  split at h
  ·rename_i hd
   cases h
   exact ⟨0, rfl, by simp, of_decide_eq_true hd⟩
  ·obtain ⟨j, h1, h2, h3⟩ := mfindK_spec h
   exact ⟨j + 1, by omega, by simpa using h2, by simpa using h3⟩
def mputK {α : Type} (key : List Int) (b : α) (m : List (List Int × α)) : List (List Int × α) := match mfindK key m 0 with
 | some (i, _) => m.modify i fun e => (e.1, b)
 | none => m ++ [(key, b)]
def makeMapKR (T : Tys) (st : St) (d : Option Tmp) (t : TypeId) : EffR :=
 match T t with
 | some { k := .map _ et, .. } => match T et with
  | some { zero := .bool false, .. } => .st (({ st with objs := st.objs ++ [.mapB .arr []] } : St).put d (.mapr st.objs.length))
  | some { zero := .int .i64 0, .. } => .st (({ st with objs := st.objs ++ [.mapI .arr []] } : St).put d (.mapr st.objs.length))
  | _ => .fail
 | _ => .fail
theorem makeMapKR_ok {P : Program} {T : Tys} {o : Oper} {st : St} {t : TypeId} (ho : o.op = .makeMap t none) {K : St → Prop} (h : (makeMapKR T st o.dst t).holds P o.dst K) : EffOk P true o st K := by
 intro cx β tmps w ds Q hfr
 have hk := keepL_alloc w (.map #[] 0)
 have hrun : (execOp ({ tmps, defers := ds } : Act).eval o).run P w = .ok (.value (.map (some w.heap.size))) (w.alloc (.map #[] 0)) := by
  unfold execOp
  rw [ho]
  rfl
 unfold makeMapKR at h
 split at h
 ·split at h
  ·have hn := hfr.newObj (.mapB .arr []) (some w.heap.size) hk (by simp) (fun b e => by cases e; exact ⟨Nat.le_refl _, by rw [size_alloc]; exact Nat.lt_succ_self _⟩)
    ⟨fun j => updB_succ, w.heap.size, #[], 0, updB_same, heap_new w _, rfl, fun j hj => by simp at hj⟩
   exact wp_of_run hrun ⟨_, _, h, hn.put (.mapr updB_same) _ ds, put_defers _ _ _, hk.keeps fun _ _ _ => id, fun _ => hk⟩
  ·have hn := hfr.newObj (.mapI .arr []) (some w.heap.size) hk (by simp) (fun b e => by cases e; exact ⟨Nat.le_refl _, by rw [size_alloc]; exact Nat.lt_succ_self _⟩)
    ⟨fun j => updB_succ, w.heap.size, #[], 0, updB_same, heap_new w _, rfl, fun j hj => by simp at hj⟩
   exact wp_of_run hrun ⟨_, _, h, hn.put (.mapr updB_same) _ ds, put_defers _ _ _, hk.keeps fun _ _ _ => id, fun _ => hk⟩
  ·exact h.elim
 ·exact h.elim
def isArrMap (T : Tys) (t : TypeId) : Bool :=
 match T t with
 | some { k := .map kt _, .. } => match T kt with
  | some { k := .array _ _, .. } => true
  | _ => false
 | _ => false
def intA : AV → Option Int
 | .int .i64 n => some n
 | _ => none
def updKR (T : Tys) (st : St) (d : Option Tmp) (t : TypeId) (m key val : Operand) : EffR :=
 match st.ev m, T t, keyA (st.ev key) with
 | .mapr i, some { k := .map kt _, .. }, some kk => match T kt with
  | some { k := .array n e, .. } => match T e with
   | some { k := .int .i64, sz := 1, .. } => match st.objs[i]? with
    | some (.mapB .arr mm) => match boolA (st.ev val) with
     | some b => .ob (kk.length = n ∧ keysLen n mm) (({ st with objs := st.objs.set i (.mapB .arr (mputK kk b mm)) } : St).put d .junk)
     | none => .fail
    | some (.mapI .arr mm) => match intA (st.ev val) with
     | some v => .ob (kk.length = n ∧ keysLen n mm) (({ st with objs := st.objs.set i (.mapI .arr (mputK kk v mm)) } : St).put d .junk)
     | none => .fail
    | _ => .fail
   | _ => .fail
  | _ => .fail
 | _, _, _ => .fail
def updObjK (es : Array MapEntry) (cl : Nat) (key : List Int) (v : Value) : Option (Nat × Value) → Obj
 | some (i, _) => .map (es.modify i fun e => { e with key := encArr key, val := v }) cl
 | none => .map (es.push { key := encArr key, val := v, born := cl }) (cl + 1)
theorem run_mapUpdate_arr {P : Program} {w : World} {t kt et e : TypeId} {n : Nat} {ti : TypeInfo} {key : List Int} {v : Value} {b : Nat} {es : Array MapEntry} {cl : Nat} {r : Option (Nat × Value)} (hm : ∀ w, (underlying t).run P w = .ok (.map kt et) w) (hk : P.underlying kt = some (.array n e))
  (he : P.underlying e = some (.int .i64)) (ce : P.cellsOf e = 1) (hi : P.info? e = some ti) (hl : key.length = n) (hb : w.heap[b]? = some (.map es cl)) (hf : (Instr.findAsking kt (encArr key) es.toList 0).run P w = .ok r w) (hkey : ∀ i u, r = some (i, u) → ∃ h : i < es.size, es[i].key = encArr key) :
  (Instr.mapUpdate t (.map (some b)) (encArr key) v).run P w = .ok () { w with heap := w.heap.setIfInBounds b (updObjK es cl key v r) } := by
 have hc : (Instr.checkKey false 10000 kt (encArr key)).run P w = .ok () w := checkKey_arr hk he ce hi hl false
 have hfk : (Instr.findKey kt (encArr key) es.toList).run P w = .ok r w := by rw [run_findKey_eq w (by rw [hk])]; exact hf
 unfold Instr.mapUpdate
 rw [Sem.run_bind, hm]
 simp only [Result.andThen, Sem.run_bind, MapKept.run_getObj_map hb, hc, hfk]
 cases r with
 | none => simp [MapKept.run_setObj_map _ hb, updObjK]
 | some p =>
  obtain ⟨i, u⟩ := p
  obtain ⟨hi, hk2⟩ := hkey i u rfl
  have e1 : ((es[i]?).map (·.key)).getD (encArr key) = encArr key := by simp [hi, hk2]
  simp only [Sem.run_bind, e1, keyThatStays_arr, Result.andThen, MapKept.run_setObj_map _ hb, updObjK]
theorem put_arr {α : Type} {enc : α → Value} {es : Array MapEntry} {cl : Nat} {m : List (List Int × α)} {key : List Int} {v : α} (h2 : es.size = m.length) (h3 : ∀ j (h : j < m.length), es[j]!.key = encArr (m[j]).1 ∧ es[j]!.val = enc (m[j]).2) :
  ∃ es' cl', updObjK es cl key (enc v) ((mfindK key m 0).map fun p => (p.1, enc p.2)) = .map es' cl' ∧ es'.size = (mputK key v m).length ∧ ∀ j (h : j < (mputK key v m).length), es'[j]!.key = encArr ((mputK key v m)[j]).1 ∧ es'[j]!.val = enc ((mputK key v m)[j]).2 := by
 unfold mputK
 cases hf : mfindK key m 0 with
 | none =>
  refine ⟨es.push { key := encArr key, val := enc v, born := cl }, cl + 1, rfl, by simp [h2], fun j hj => ?_⟩
  simp only [List.length_append, List.length_singleton] at hj
  by_cases hlt : j < m.length
  ·have hj2 : j < es.size := by omega
   have := h3 j hlt
   rw [getElem!_pos es j hj2] at this
   rw [getElem!_pos _ j (by simp; omega), Array.getElem_push_lt hj2]
   simp only [List.getElem_append_left hlt]
   exact this
  ·have hj2 : j = es.size := by omega
   subst hj2
   rw [getElem!_pos _ _ (by simp)]
   simp only [Array.getElem_push_eq]
   rw [List.getElem_append_right (by omega)]
   simp
 | some p =>
  obtain ⟨i', b'⟩ := p
  obtain ⟨j', q1, q2, q3⟩ := mfindK_spec hf
  have hij : i' = j' := by omega
  subst hij
  refine ⟨es.modify i' fun e => { e with key := encArr key, val := enc v }, cl, rfl, by simp [h2], fun j hj => ?_⟩
  simp only [List.length_modify] at hj
  have hj2 : j < es.size := by omega
  have := h3 j hj
  rw [getElem!_pos es j hj2] at this
  rw [getElem!_pos _ j (by simpa using hj2)]
  by_cases hji : i' = j
  ·subst hji
   simp only [Array.getElem_modify, List.getElem_modify, if_true, ← q3, and_self]
  ·simp [Array.getElem_modify, hji, this]
theorem updKR_ok {P : Program} {T : Tys} (hT : TyOk P T) {o : Oper} {st : St} {t : TypeId} {m key val : Operand} (ho : o.op = .mapUpdate t m key val ∨ o.op = .insert t m key val) {K : St → Prop} (h : (updKR T st o.dst t m key val).holds P o.dst K) : EffOk P false o st K := by
 intro cx β tmps w ds Q hfr
 unfold updKR at h
 split at h
 ·rename_i i a1 a2 kt et a3 kk hem ht hek
  split at h
  ·rename_i b1 b2 n e b3 hkt
   split at h
   ·rename_i c1 c2 he
    obtain ⟨u1, u2, u3, ti, u4⟩ := arr_key hT hkt he
    have hmv := hfr.ev ds m
    rw [hem] at hmv
    have hvi : ({ tmps, defers := ds } : Act).eval key = encArr kk := keyA_enc hek (hfr.ev ds key)
    obtain ⟨d, hd1, hd2⟩ := hT.underlying ht
    cases d <;> simp only [TKok] at hd1
    obtain ⟨hd3, hd4⟩ := hd1
    rw [hd3, hd4] at hd2
    have hexec : execOp ({ tmps, defers := ds } : Act).eval o = (do Instr.mapUpdate t (({ tmps, defers := ds } : Act).eval m) (({ tmps, defers := ds } : Act).eval key) (({ tmps, defers := ds } : Act).eval val); pure .skip) := by
     rcases ho with ho | ho <;> (unfold execOp; rw [ho])
    have core : ∀ {α : Type} (enc : α → Value) (mm : List (List Int × α)) (v : α) (ob ob' : AObj) (b : Nat) (es : Array MapEntry) (cl : Nat), st.objs[i]? = some ob → ob.single = true → ob ≠ .dead → ob' ≠ .dead → (∀ p nz, ob ≠ .arr p nz) → β i 0 = some b → w.heap[b]? = some (.map es cl) → es.size = mm.length →
      (∀ j (h : j < mm.length), es[j]!.key = encArr (mm[j]).1 ∧ es[j]!.val = enc (mm[j]).2) → kk.length = n → keysLen n mm → ({ tmps, defers := ds } : Act).eval val = enc v →
      (∀ es' cl' (w' : World), w'.heap[b]? = some (.map es' cl') → es'.size = (mputK kk v mm).length → (∀ j (h : j < (mputK kk v mm).length), es'[j]!.key = encArr ((mputK kk v mm)[j]).1 ∧ es'[j]!.val = enc ((mputK kk v mm)[j]).2) → ObjOk w' (cx.S β st.objs) β (st.objs.set i ob') i ob') →
      K (({ st with objs := st.objs.set i ob' } : St).put o.dst .junk) → o.wp P { tmps, defers := ds } w (EPost K cx (cx.S β st.objs) ds false w) Q := fun {α} enc mm v ob ob' b es cl hoi hsg hd hd' hna hb h1 h2 h3 hkl hks hval hOb hK => by
     have hvx : ({ tmps, defers := ds } : Act).eval m = .map (some b) := by
      generalize ({ tmps, defers := ds } : Act).eval m = u at hmv
      cases hmv with
      | pure h => cases h
      | mapr h => rw [hb] at h; cases h; rfl
     have hfn := findAsking_arr u1 u2 u3 u4 (w := w) enc hkl es.toList mm 0 (by simpa using h2) hks fun j hj hj' => by
      have hj2 : j < es.size := by simpa using hj'
      have := h3 j hj
      rw [getElem!_pos es j hj2] at this
      simpa using this
     have hrun := run_mapUpdate_arr (P := P) (w := w) (v := enc v) hd2 u1 u2 u3 u4 hkl h1 hfn (fun j u hr => by
      cases hf : mfindK kk mm 0 with
      | none => rw [hf] at hr; cases hr
      | some p =>
       obtain ⟨i', b'⟩ := p
       rw [hf] at hr
       cases hr
       obtain ⟨j', e1, e2, e3⟩ := mfindK_spec hf
       have : i' = j' := by omega
       subst this
       refine ⟨by omega, ?_⟩
       have := (h3 i' e2).1
       rw [getElem!_pos es i' (by omega)] at this
       rw [this, ← e3])
     have hbl : b < w.heap.size := (Array.getElem?_eq_some_iff.1 h1).1
     obtain ⟨es', cl', g1, g2, g3⟩ := put_arr (cl := cl) (key := kk) (v := v) (enc := enc) h2 h3
     refine wp_of_skip (w' := { w with heap := w.heap.setIfInBounds b (updObjK es cl kk (enc v) ((mfindK kk mm 0).map fun p => (p.1, enc p.2))) }) (by rw [hexec, Sem.run_bind, hvx, hvi, hval, hrun]; rfl) ⟨β, _, hK, FR.put ?_ (.pure (.junk _)) _ ds, put_defers _ _ _, ?_, fun e => by cases e⟩
     ·refine hfr.mut (hone := hsg) ob' hoi hb hd hd' (fun q hq => by simp [Ne.symm hq]) (by simp) rfl rfl rfl (Nat.le_refl _) (fun r x hx => ?_) (fun p nz e => absurd e (hna p nz)) ?_
      ·have : r ≠ b := fun e => by subst e; simp [World.shape?, h1] at hx
       refine (shape?_of_heap (w := w) ?_).trans hx
       simp [Ne.symm this]
      ·refine hOb es' cl' _ ?_ g2 g3
       simp [hbl, g1]
     ·intro b' o' v hn hc
      have : b' ≠ b := fun e => by subst e; simp [World.cell?, h1] at hc
      refine (cell?_of_heap (w := w) ?_).trans hc
      simp [Ne.symm this]
    split at h
    ·rename_i mm hoi
     split at h
     ·rename_i bb hval
      obtain ⟨⟨hkl, hks⟩, hK⟩ := h
      obtain ⟨h0, b, es, cl, hb, h1, h2, h3⟩ := hfr.objs i _ hoi
      have hvb : ({ tmps, defers := ds } : Act).eval val = .bool bb := by
       have hvv := hfr.ev ds val
       generalize ({ tmps, defers := ds } : Act).eval val = u at hvv
       revert hval hvv
       generalize st.ev val = av
       intro hval hvv
       unfold boolA at hval
       split at hval
       ·cases hval; cases hvv with | pure h => cases h; rfl
       ·cases hval; exact TV_lit hvv
       ·cases hval
      exact core Value.bool mm bb _ (.mapB .arr (mputK kk bb mm)) b es cl hoi rfl (by simp) (by simp) (by simp) hb h1 h2 h3 hkl hks hvb (fun es' cl' w' g1 g2 g3 => ⟨h0, b, es', cl', hb, g1, g2, g3⟩) hK
     ·exact h.elim
    ·rename_i mm hoi
     split at h
     ·rename_i bb hval
      obtain ⟨⟨hkl, hks⟩, hK⟩ := h
      obtain ⟨h0, b, es, cl, hb, h1, h2, h3⟩ := hfr.objs i _ hoi
      have hvb : ({ tmps, defers := ds } : Act).eval val = .int .i64 bb := by
       have hvv := hfr.ev ds val
       generalize ({ tmps, defers := ds } : Act).eval val = u at hvv
       revert hval hvv
       generalize st.ev val = av
       intro hval hvv
       unfold intA at hval
       split at hval
       ·cases hval; exact TV_int hvv
       ·cases hval
      exact core (Value.int .i64) mm bb _ (.mapI .arr (mputK kk bb mm)) b es cl hoi rfl (by simp) (by simp) (by simp) hb h1 h2 h3 hkl hks hvb (fun es' cl' w' g1 g2 g3 => ⟨h0, b, es', cl', hb, g1, g2, g3⟩) hK
     ·exact h.elim
    ·exact h.elim
   ·exact h.elim
  ·exact h.elim
 ·exact h.elim
end Go.AM
end

section
namespace Go.AM
open Go
def isStrMap (T : Tys) (t : TypeId) : Bool :=
 match T t with
 | some { k := .map kt _, .. } => match T kt with
  | some { k := .str, .. } => true
  | _ => false
 | _ => false
def makeMapSR (T : Tys) (st : St) (d : Option Tmp) (t : TypeId) : EffR :=
 match T t with
 | some { k := .map _ et, .. } => match T et with
  | some { zero := .bool false, .. } => .st (({ st with objs := st.objs ++ [.mapB .str []] } : St).put d (.mapr st.objs.length))
  | _ => .fail
 | _ => .fail
theorem makeMapSR_ok {P : Program} {T : Tys} {o : Oper} {st : St} {t : TypeId} (ho : o.op = .makeMap t none) {K : St → Prop} (h : (makeMapSR T st o.dst t).holds P o.dst K) : EffOk P true o st K := by
 intro cx β tmps w ds Q hfr
 have hk := keepL_alloc w (.map #[] 0)
 have hrun : (execOp ({ tmps, defers := ds } : Act).eval o).run P w = .ok (.value (.map (some w.heap.size))) (w.alloc (.map #[] 0)) := by
  unfold execOp
  rw [ho]
  rfl
 unfold makeMapSR at h
 split at h
 ·split at h
  ·have hn := hfr.newObj (.mapB .str []) (some w.heap.size) hk (by simp) (fun b e => by cases e; exact ⟨Nat.le_refl _, by rw [size_alloc]; exact Nat.lt_succ_self _⟩)
    ⟨fun j => updB_succ, w.heap.size, #[], 0, updB_same, heap_new w _, rfl, fun j hj => by simp at hj⟩
   exact wp_of_run hrun ⟨_, _, h, hn.put (.mapr updB_same) _ ds, put_defers _ _ _, hk.keeps fun _ _ _ => id, fun _ => hk⟩
  ·exact h.elim
 ·exact h.elim
def strA : AV → Option ByteArray
 | .str s => some s
 | .lit (.string s) => some s
 | _ => none
def updSR (T : Tys) (st : St) (d : Option Tmp) (t : TypeId) (m key val : Operand) : EffR :=
 match st.ev m, T t, strA (st.ev key) with
 | .mapr i, some { k := .map kt _, .. }, some s => match T kt, st.objs[i]?, boolA (st.ev val) with
  | some { k := .str, .. }, some (.mapB .str mm), some b => .ob (keysB mm) (({ st with objs := st.objs.set i (.mapB .str (mputK (strK s) b mm)) } : St).put d .junk)
  | _, _, _ => .fail
 | _, _, _ => .fail
def updObjS (es : Array MapEntry) (cl : Nat) (s : ByteArray) (v : Value) : Option (Nat × Value) → Obj
 | some (i, _) => .map (es.modify i fun e => { e with key := .string s, val := v }) cl
 | none => .map (es.push { key := .string s, val := v, born := cl }) (cl + 1)
theorem run_mapUpdate_str {P : Program} {w : World} {t kt et : TypeId} {s : ByteArray} {v : Value} {b : Nat} {es : Array MapEntry} {cl : Nat} {r : Option (Nat × Value)} (hm : ∀ w, (underlying t).run P w = .ok (.map kt et) w) (hk : P.underlying kt = some .string)
  (hb : w.heap[b]? = some (.map es cl)) (hf : Instr.findNow .string (.string s) es.toList 0 = some r) (hkey : ∀ i u, r = some (i, u) → ∃ h : i < es.size, es[i].key = .string s) :
  (Instr.mapUpdate t (.map (some b)) (.string s) v).run P w = .ok () { w with heap := w.heap.setIfInBounds b (updObjS es cl s v r) } := by
 have hc : (Instr.checkKey false 10000 kt (.string s)).run P w = .ok () w := MapKept.run_checkKey hk (by simp [MapKept.IsKey]) false 9999
 unfold Instr.mapUpdate
 rw [Sem.run_bind, hm]
 simp only [Result.andThen, Sem.run_bind, MapKept.run_getObj_map hb, hc, MapKept.run_findKey hk hf]
 cases r with
 | none => simp [MapKept.run_setObj_map _ hb, updObjS]
 | some p =>
  obtain ⟨i, u⟩ := p
  obtain ⟨hi, hk2⟩ := hkey i u rfl
  have hkk : (Instr.keyThatStays (.string s) (.string s)).run P w = .ok (.string s) w := MapKept.run_keyThatStays (d := .string) (by simp [MapKept.IsKey])
  have e1 : ((es[i]?).map (·.key)).getD (.string s) = .string s := by simp [hi, hk2]
  simp only [Sem.run_bind, e1, hkk, Result.andThen, MapKept.run_setObj_map _ hb, updObjS]
theorem put_str {es : Array MapEntry} {cl : Nat} {m : List (List Int × Bool)} {s : ByteArray} {v : Bool} (h2 : es.size = m.length) (h3 : ∀ j (h : j < m.length), es[j]!.key = encKey .str (m[j]).1 ∧ es[j]!.val = .bool (m[j]).2) :
  ∃ es' cl', updObjS es cl s (.bool v) ((mfindK (strK s) m 0).map fun p => (p.1, Value.bool p.2)) = .map es' cl' ∧ es'.size = (mputK (strK s) v m).length ∧ ∀ j (h : j < (mputK (strK s) v m).length), es'[j]!.key = encKey .str ((mputK (strK s) v m)[j]).1 ∧ es'[j]!.val = .bool ((mputK (strK s) v m)[j]).2 := by
 unfold mputK
 cases hf : mfindK (strK s) m 0 with
 | none =>
  refine ⟨es.push { key := .string s, val := .bool v, born := cl }, cl + 1, rfl, by simp [h2], fun j hj => ?_⟩
  simp only [List.length_append, List.length_singleton] at hj
  by_cases hlt : j < m.length
  ·have hj2 : j < es.size := by omega
   have := h3 j hlt
   rw [getElem!_pos es j hj2] at this
   rw [getElem!_pos _ j (by simp; omega), Array.getElem_push_lt hj2]
   simp only [List.getElem_append_left hlt]
   exact this
  ·have hj2 : j = es.size := by omega
   subst hj2
   rw [getElem!_pos _ _ (by simp)]
   simp only [Array.getElem_push_eq]
   have e : (m ++ [(strK s, v)])[es.size]'(by simp; omega) = (strK s, v) := by
    rw [List.getElem_append_right (by omega)]
    simp [h2]
   rw [e]
   exact ⟨(encKey_strK s).symm, rfl⟩
 | some p =>
  obtain ⟨i, b⟩ := p
  obtain ⟨j0, e1, e2, e3⟩ := mfindK_spec hf
  obtain rfl : i = j0 := by omega
  refine ⟨es.modify i fun e => { e with key := .string s, val := .bool v }, cl, rfl, by simp [h2], fun j hj => ?_⟩
  simp only [List.length_modify] at hj
  have hj2 : j < es.size := by omega
  have := h3 j hj
  rw [getElem!_pos es j hj2] at this
  rw [getElem!_pos _ j (by simp; omega), Array.getElem_modify]
  simp only [List.getElem_modify]
  by_cases e : i = j
  ·subst e
   simp only [if_true]
   exact ⟨by rw [← e3]; exact (encKey_strK s).symm, trivial⟩
  ·simp only [e, if_false]
   exact this
theorem updSR_ok {P : Program} {T : Tys} (hT : TyOk P T) {o : Oper} {st : St} {t : TypeId} {m key val : Operand} (ho : o.op = .mapUpdate t m key val ∨ o.op = .insert t m key val) {K : St → Prop} (h : (updSR T st o.dst t m key val).holds P o.dst K) : EffOk P false o st K := by
 intro cx β tmps w ds Q hfr
 unfold updSR at h
 split at h
 ·rename_i i a1 a2 kt et a3 s hem ht hek
  split at h
  ·rename_i b1 b2 b3 mm bb hkt hoi hval
   obtain ⟨hks, hK⟩ := h
   have hmv := hfr.ev ds m
   have hkv := hfr.ev ds key
   have hvv := hfr.ev ds val
   rw [hem] at hmv
   obtain ⟨h0, b, es, cl, hb, h1, h2, h3⟩ := hfr.objs i _ hoi
   have hvx : ({ tmps, defers := ds } : Act).eval m = .map (some b) := by
    generalize ({ tmps, defers := ds } : Act).eval m = u at hmv
    cases hmv with
    | pure h => cases h
    | mapr h => rw [hb] at h; cases h; rfl
   have hvi : ({ tmps, defers := ds } : Act).eval key = .string s := by
    generalize ({ tmps, defers := ds } : Act).eval key = u at hkv
    revert hek hkv
    generalize st.ev key = av
    intro hek hkv
    unfold strA at hek
    split at hek
    ·cases hek; cases hkv with | pure h => cases h; rfl
    ·cases hek; exact TV_lit hkv
    ·cases hek
   have hvb : ({ tmps, defers := ds } : Act).eval val = .bool bb := by
    generalize ({ tmps, defers := ds } : Act).eval val = u at hvv
    revert hval hvv
    generalize st.ev val = av
    intro hval hvv
    unfold boolA at hval
    split at hval
    ·cases hval; cases hvv with | pure h => cases h; rfl
    ·cases hval; exact TV_lit hvv
    ·cases hval
   obtain ⟨d, hd1, hd2⟩ := hT.underlying ht
   cases d <;> simp only [TKok] at hd1
   obtain ⟨hd3, hd4⟩ := hd1
   rw [hd3, hd4] at hd2
   have hkt' : P.underlying kt = some .string := by
    obtain ⟨d, hd, hk'⟩ := (hT _ _ hkt).und
    cases d <;> simp only [TKok] at hk'
    exact hd
   have hkeys : ∀ j (hj : j < mm.length) (hj' : j < es.toList.length), es.toList[j].key = encKey .str (mm[j]).1 ∧ es.toList[j].val = Value.bool (mm[j]).2 := fun j hj hj' => by
    have hj2 : j < es.size := by simpa using hj'
    have := h3 j hj
    rw [getElem!_pos es j hj2] at this
    simpa using this
   have hfn := findNow_str (s := s) Value.bool es.toList mm 0 (by simpa using h2) hks hkeys
   have hrun := run_mapUpdate_str (P := P) (w := w) (cl := cl) (v := .bool bb) hd2 hkt' h1 hfn (fun j u hr => by
    cases hf : mfindK (strK s) mm 0 with
    | none => rw [hf] at hr; cases hr
    | some p =>
     obtain ⟨i', b'⟩ := p
     rw [hf] at hr
     cases hr
     obtain ⟨j', e1, e2, e3⟩ := mfindK_spec hf
     have : i' = j' := by omega
     subst this
     refine ⟨by omega, ?_⟩
     have := (hkeys i' e2 (by simp; omega)).1
     rw [← e3, encKey_strK] at this
     simpa using this)
   have hbl : b < w.heap.size := (Array.getElem?_eq_some_iff.1 h1).1
   have hexec : execOp ({ tmps, defers := ds } : Act).eval o = (do Instr.mapUpdate t (({ tmps, defers := ds } : Act).eval m) (({ tmps, defers := ds } : Act).eval key) (({ tmps, defers := ds } : Act).eval val); pure .skip) := by
    rcases ho with ho | ho <;> (unfold execOp; rw [ho])
   obtain ⟨es', cl', g1, g2, g3⟩ := put_str (cl := cl) (s := s) (v := bb) h2 h3
   refine wp_of_skip (w' := { w with heap := w.heap.setIfInBounds b (updObjS es cl s (.bool bb) ((mfindK (strK s) mm 0).map fun p => (p.1, Value.bool p.2))) }) (by rw [hexec, Sem.run_bind, hvx, hvi, hvb, hrun]; rfl) ⟨β, _, hK, FR.put ?_ (.pure (.junk _)) _ ds, put_defers _ _ _, ?_, fun e => by cases e⟩
   ·refine hfr.mut (hone := rfl) (.mapB .str (mputK (strK s) bb mm)) hoi hb (by simp) (by simp) (fun q hq => by simp [Ne.symm hq]) (by simp) rfl rfl rfl (Nat.le_refl _) (fun r x hx => ?_) (fun p nz e => by cases e) ?_
    ·have : r ≠ b := fun e => by subst e; simp [World.shape?, h1] at hx
     refine (shape?_of_heap (w := w) ?_).trans hx
     simp [Ne.symm this]
    ·refine ⟨h0, b, es', cl', hb, ?_, g2, g3⟩
     simp [hbl, g1]
   ·intro b' o' v hn hc
    have : b' ≠ b := fun e => by subst e; simp [World.cell?, h1] at hc
    refine (cell?_of_heap (w := w) ?_).trans hc
    simp [Ne.symm this]
  ·exact h.elim
 ·exact h.elim
end Go.AM
end

section
namespace Go.AM
open Go
theorem lkT_append (T : List TN) (t : TN) (p : List Int) : lkT (T ++ [t]) p = match lkT T p with | some u => some u | none => if t.path = p then some t else none := by
 induction T with
 | nil => simp [lkT]
 | cons a r ih =>
  simp only [List.cons_append, lkT]
  split
  ·rfl
  ·exact ih
theorem lkT_some {T : List TN} {p : List Int} {t : TN} (h : lkT T p = some t) : t ∈ T ∧ t.path = p := by
 induction T with
 | nil => cases h
 | cons a r ih =>
  unfold lkT at h
  split at h
  ·cases h; exact ⟨by simp, by assumption⟩
  ·obtain ⟨h1, h2⟩ := ih h; exact ⟨by simp [h1], h2⟩
theorem lkT_none {T : List TN} {p : List Int} (h : lkT T p = none) : ∀ t ∈ T, t.path ≠ p := by
 induction T with
 | nil => exact fun t ht => by cases ht
 | cons a r ih =>
  unfold lkT at h
  split at h
  ·cases h
  ·rename_i hne
   intro t ht
   rcases List.mem_cons.1 ht with rfl | ht
   ·exact hne
   ·exact ih h t ht
theorem lkT_mem {T : List TN} (hn : (T.map (·.path)).Nodup) {t : TN} (h : t ∈ T) : lkT T t.path = some t := by
 induction T with
 | nil => cases h
 | cons a r ih =>
  rw [List.map_cons, List.nodup_cons] at hn
  unfold lkT
  rcases List.mem_cons.1 h with rfl | h
  ·simp
  ·have : a.path ≠ t.path := fun e => hn.1 (by rw [e]; exact List.mem_map_of_mem h)
   rw [if_neg this]
   exact ih hn.2 h
def setW (T : List TN) (b : Nat) (v : Bool) : List TN := T.map fun t => if t.blk = b then { t with word := v } else t
def addN (T : List TN) (b x bk : Nat) : List TN :=
 match ndT T b with
 | some nd => T ++ [⟨nd.path ++ [(x : Int)], bk, false⟩]
 | none => T
theorem setW_paths (T : List TN) (b : Nat) (v : Bool) : (setW T b v).map (·.path) = T.map (·.path) := by
 unfold setW
 rw [List.map_map]
 refine List.map_congr_left fun t _ => ?_
 simp only [Function.comp]
 split <;> rfl
theorem lkT_setW (T : List TN) (b : Nat) (v : Bool) (p : List Int) : lkT (setW T b v) p = (lkT T p).map fun t => if t.blk = b then { t with word := v } else t := by
 induction T with
 | nil => rfl
 | cons a r ih =>
  have e : setW (a :: r) b v = (if a.blk = b then { a with word := v } else a) :: setW r b v := rfl
  rw [e]
  unfold lkT
  have e2 : (if a.blk = b then { a with word := v } else a : TN).path = a.path := by split <;> rfl
  rw [e2]
  split
  ·rfl
  ·exact ih
theorem kidT_setW (T : List TN) (b : Nat) (v : Bool) (p : List Int) (x : Nat) : kidT (setW T b v) p x = kidT T p x := by
 unfold kidT
 rw [lkT_setW, Option.map_map]
 congr 1
 funext t
 simp only [Function.comp]
 split <;> rfl
theorem FR.mutT {cx β st tmps w w'} (h : FR cx β st tmps w) {i m j : Nat} {T : List TN} (T' : List TN) {b : Nat} (hi : st.objs[i]? = some (.trie m T)) (hb : β i j = some b)
  (hw : ∀ k, k ≠ b → w'.heap[k]? = w.heap[k]?) (hsz : w'.heap.size = w.heap.size) (hos : w'.os = w.os) (htape : w'.tape = w.tape) (hout : w'.output = w.output) (hdr : w.drawn ≤ w'.drawn)
  (hsh : ∀ r x, w.shape? r = some x → w'.shape? r = some x) (hob : TrieOk w' (β i) m T') :
  FR cx β { st with objs := st.objs.set i (.trie m T') } tmps w' := by
 have hil : i < st.objs.length := (List.getElem?_eq_some_iff.1 hi).1
 have hSiff : ∀ b o, cx.S β st.objs b o ↔ cx.S β (st.objs.set i (.trie m T')) b o := S_iff_of_claims fun k b o => by
  by_cases hk : k = i
  ·subst hk
   simp only [List.getElem?_set_self hil, hi, Option.some.injEq, exists_eq_left']
   exact Iff.rfl
  ·simp only [List.getElem?_set_ne (Ne.symm hk)]
 have hSeq : cx.S β (st.objs.set i (.trie m T')) = cx.S β st.objs := by funext b o; exact propext (hSiff b o).symm
 have hk' : Keeps (cx.S β st.objs) w w' := fun b' o v hn hc => by
  have : b' ≠ b := fun e => hn (.inr ⟨i, _, hi, by subst e; exact claims_mk o (by simp) hb⟩)
  rw [cell?_of_heap (hw b' this)]; exact hc
 have hownA : ArrKeep st.objs (st.objs.set i (.trie m T')) := ⟨fun k p nz ho => by
  have hk : k ≠ i := fun e => by subst e; rw [hi] at ho; cases ho
  exact ⟨p, by rw [List.getElem?_set_ne (Ne.symm hk)]; exact ho, rfl, rfl⟩, fun k rows hole gone ai e am ho => by
  have hk : k ≠ i := fun e => by subst e; rw [hi] at ho; cases ho
  rw [List.getElem?_set_ne (Ne.symm hk)]; exact ho, fun k m' T0 ho => by
  by_cases hk : k = i
  ·subst hk
   rw [hi] at ho
   cases ho
   exact ⟨T', by rw [List.getElem?_set_self hil]⟩
  ·exact ⟨T0, by rw [List.getElem?_set_ne (Ne.symm hk)]; exact ho⟩⟩
 refine ⟨⟨hos.trans h.keep.os, htape.trans h.keep.tape, hout.trans h.keep.output, Nat.le_trans h.keep.drawn hdr, by rw [hsz]; exact h.keep.size, fun k hk hL => ?_⟩, h.s0, h.inj, fun k j b' hb' => by rw [hsz]; exact h.rng k j b' hb', fun k j ho => ?_, fun k o ho => ?_, h.size, fun t => ?_⟩
 ·rw [hw k (fun e => hL (by subst e; exact (h.rng i j k hb).2 hk))]
  exact h.keep.block k hk hL
 ·refine h.out k j ?_
  rw [List.getElem?_eq_none_iff] at ho ⊢
  simpa using ho
 ·simp only [hSeq]
  by_cases hk : k = i
  ·subst hk
   simp only [List.getElem?_set_self hil, Option.some.injEq] at ho
   subst ho
   exact hob
  ·simp only [List.getElem?_set_ne (Ne.symm hk)] at ho
   exact (h.objs k o ho).step hk' (fun _ _ _ _ => id) hownA (fun _ _ _ => id) (fun _ _ _ _ => id) hsh (fun _ => rfl)
    (fun j' b' hb' => hw b' (fun e => hk (h.inj k j' i j b (by rw [← e]; exact hb') hb).1))
 ·simp only [hSeq]
  exact (h.env t).step hk' (fun _ _ _ _ => id) hownA (fun _ _ _ => id) (fun _ _ _ _ => id) hsh
theorem TrieOk.at {w : World} {β : Nat → Option Nat} {m : Nat} {T : List TN} (h : TrieOk w β m T) {t : TN} (ht : t ∈ T) : ∃ j, j < T.length ∧ β j = some t.blk ∧ T[j]? = some t := by
 obtain ⟨j, hj, e⟩ := List.getElem_of_mem ht
 have e2 : T[j]? = some t := by rw [List.getElem?_eq_getElem hj, e]
 exact ⟨j, hj, by rw [h.blk j, e2]; rfl, e2⟩
theorem FR.trieW {cx β st tmps w} (h : FR cx β st tmps w) {i m b : Nat} {T : List TN} (hi : st.objs[i]? = some (.trie m T)) (hin : inT T b) (v : Bool) :
  FR cx β { st with objs := st.objs.set i (.trie m (setW T b v)) } tmps (w.setCells b 0 [.bool v]) := by
 have hT : TrieOk w (β i) m T := h.objs i _ hi
 obtain ⟨nd, e1, e2, rfl⟩ := inT_nd hin
 obtain ⟨j, hj, hb, _⟩ := hT.at e2
 obtain ⟨w1, w2, w3, w4, w5, w6, _⟩ := setCells_heap nd.blk [.bool v] 0 w
 refine h.mutT (setW T nd.blk v) hi hb w2 w1 w3 w4 w5 (setCells_dr _ _ _ _) (fun r x hx => by rw [w6 r]; exact hx) ⟨?_, fun q z hq => ?_, fun k => ?_, fun t ht => ?_⟩
 ·rw [setW_paths]; exact hT.nd
 ·rw [lkT_setW, Option.isSome_map] at hq ⊢
  exact hT.pc q z hq
 ·rw [hT.blk k]
  unfold setW
  rw [List.getElem?_map, Option.map_map]
  congr 1
  funext t
  simp only [Function.comp]
  split <;> rfl
 ·unfold setW at ht
  obtain ⟨u, hu, rfl⟩ := List.mem_map.1 ht
  obtain ⟨q1, q2, q3⟩ := hT.cur u hu
  have ep : (if u.blk = nd.blk then { u with word := v } else u : TN).path = u.path := by split <;> rfl
  have eb : (if u.blk = nd.blk then { u with word := v } else u : TN).blk = u.blk := by split <;> rfl
  rw [ep, eb]
  refine ⟨fun o => by rw [World.frozen?_setCells]; exact q1 o, ?_, fun x hx => ?_⟩
  ·by_cases e : u.blk = nd.blk
   ·rw [if_pos e, e]
    have := World.cell?_setCells_in nd.blk [.bool v] 0 w (fun k hk => by
     obtain rfl : k = 0 := by simpa using hk
     rw [e] at q2
     simp [q2]) 0 (by simp)
    simpa using this
   ·rw [if_neg e, cell?_of_heap (w2 _ e)]; exact q2
  ·rw [kidT_setW]
   by_cases e : u.blk = nd.blk
   ·rw [World.cell?_setCells_out nd.blk _ _ _ _ (fun _ _ => .inr (by simp))]
    exact q3 x hx
   ·rw [cell?_of_heap (w2 _ e)]; exact q3 x hx
def absL (k i bk : Nat) : AV → AV
 | .own a => match Nat.beq a k with | true => .junk | false => .own a
 | .ref a o => match Nat.beq a k with
  | true => match o with
   | 0 => .mh i (.tn (some bk))
   | _ => .junk
  | false => .ref a o
 | .eref a p c => match Nat.beq a k with | true => .junk | false => .eref a p c
 | .mapr a => match Nat.beq a k with | true => .junk | false => .mapr a
 | .mh a x => match Nat.beq a k with | true => .junk | false => .mh a x
 | av => av
def absO (st : St) (k i bk : Nat) (ob' : AObj) : St :=
 { st with env := mapE (AV.mapH (absL k i bk) 3) st.env, objs := ((st.objs.map (AObj.mapH (absL k i bk))).set i ob').set k .dead }
def absB (β : Nat → Nat → Option Nat) (k i n : Nat) : Nat → Nat → Option Nat := fun a c =>
 if a = k then none else if a = i ∧ c = n then β k 0 else β a c
def nilPs : List AV → Bool
 | [] => true
 | .lit (.pointer none) :: r => nilPs r
 | _ => false
theorem nilPs_get : ∀ {l : List AV} (_ : nilPs l = true) {c : Nat} (h : c < l.length), l[c] = .lit (.pointer none)
 | a :: r, h, c, hc => by
  have e : a = .lit (.pointer none) ∧ nilPs r = true := by
   unfold nilPs at h
   split at h
   ·rename_i h0; cases h0
   ·rename_i h0; cases h0; exact ⟨rfl, h⟩
   ·cases h
  cases c with
  | zero => exact e.1
  | succ c => exact nilPs_get e.2 (by simpa using hc)
theorem FR.absorb {cx β st tmps w} (h : FR cx β st tmps w) {i k m b x bk : Nat} {T : List TN} {cs : List AV} (hi : st.objs[i]? = some (.trie m T)) (hk : st.objs[k]? = some (.box (.bool false :: cs))) (hcs : nilPs cs = true) (hcm : cs.length = m)
  (hbk : β k 0 = some bk) (hin : inT T b) (hx : x < m) (hch : chT T b x = none) :
  FR cx (absB β k i T.length) (absO st k i bk (.trie m (addN T b x bk))) tmps (w.setCells b (1 + x) [nodeV (some bk)]) := by
 have hinn : i < st.objs.length := (List.getElem?_eq_some_iff.1 hi).1
 have hkn : k < st.objs.length := (List.getElem?_eq_some_iff.1 hk).1
 have hik : i ≠ k := fun e => by subst e; rw [hi] at hk; cases hk
 have hTr : TrieOk w (β i) m T := h.objs i _ hi
 obtain ⟨hk1, bk', hbk', hkf, hkc⟩ := h.objs k _ hk
 rw [hbk] at hbk'; cases hbk'
 obtain ⟨nd, e1, e2, rfl⟩ := inT_nd hin
 obtain ⟨jn, hjn, hbn, _⟩ := hTr.at e2
 have hnone : lkT T (nd.path ++ [(x : Int)]) = none := by simpa [chT, kidT, e1] using hch
 have hadd : addN T nd.blk x bk = T ++ [⟨nd.path ++ [(x : Int)], bk, false⟩] := by simp [addN, e1]
 rw [hadd]
 generalize hT' : T ++ [⟨nd.path ++ [(x : Int)], bk, false⟩] = T'
 obtain ⟨w1, w2, w3, w4, w5, w6, _⟩ := setCells_heap nd.blk [nodeV (some bk)] (1 + x) w
 have wdr := setCells_dr nd.blk [nodeV (some bk)] (1 + x) w
 have hne : bk ≠ nd.blk := fun e => by
  rw [e] at hbk
  exact hik (h.inj _ _ _ _ _ hbn hbk).1
 -- the new list
 have hlk : ∀ p, lkT T' p = match lkT T p with | some u => some u | none => if nd.path ++ [(x : Int)] = p then some ⟨nd.path ++ [(x : Int)], bk, false⟩ else none := fun p => by rw [← hT', lkT_append]
 have hkid : ∀ p y, ¬ (p = nd.path ∧ y = x) → kidT T' p y = kidT T p y := fun p y hn => by
  unfold kidT
  rw [hlk]
  cases hl : lkT T (p ++ [(y : Int)]) with
  | some u => rfl
  | none =>
   have : ¬ nd.path ++ [(x : Int)] = p ++ [(y : Int)] := fun e => by
    have e3 := List.append_inj' e rfl
    have e4 : (x : Int) = y := by simpa using e3.2
    exact hn ⟨e3.1.symm, by omega⟩
   simp [this]
 have hkidx : kidT T' nd.path x = some bk := by
  unfold kidT
  rw [hlk, hnone]
  simp
 have hW : TrieOk (w.setCells nd.blk (1 + x) [nodeV (some bk)]) (absB β k i T.length i) m T' := by
  refine ⟨?_, fun q z hq => ?_, fun c => ?_, fun t ht => ?_⟩
  ·rw [← hT', List.map_append, List.nodup_append]
   refine ⟨hTr.nd, by simp, fun p hp p' hp' => ?_⟩
   obtain ⟨t, ht, rfl⟩ := List.mem_map.1 hp
   simp only [List.map_cons, List.map_nil, List.mem_singleton] at hp'
   rw [hp']
   exact lkT_none hnone t ht
  ·rw [hlk] at hq ⊢
   cases hl : lkT T (q ++ [z]) with
   | some u =>
    have := hTr.pc q z (by rw [hl]; rfl)
    obtain ⟨u', e⟩ := Option.isSome_iff_exists.1 this
    rw [e]; rfl
   | none =>
    rw [hl] at hq
    simp only at hq
    split at hq
    ·rename_i e
     have e3 := List.append_inj' e rfl
     rw [← e3.1, lkT_mem hTr.nd e2]; rfl
    ·cases hq
  ·unfold absB
   rw [if_neg hik]
   by_cases hc : c = T.length
   ·subst hc
    rw [if_pos ⟨rfl, rfl⟩, hbk, ← hT']
    simp
   ·rw [if_neg (fun e => hc e.2), hTr.blk c, ← hT']
    rcases Nat.lt_or_ge c T.length with hl | hl
    ·rw [List.getElem?_append_left hl]
    ·rw [List.getElem?_eq_none hl, List.getElem?_eq_none (by simp; omega)]
  ·rw [← hT'] at ht
   rcases List.mem_append.1 ht with ht | ht
   ·obtain ⟨q1, q2, q3⟩ := hTr.cur t ht
    refine ⟨fun o => by rw [World.frozen?_setCells]; exact q1 o, ?_, fun y hy => ?_⟩
    ·by_cases e : t.blk = nd.blk
     ·rw [World.cell?_setCells_out nd.blk _ _ _ _ (fun _ _ => .inl (by simp only; omega))]; exact q2
     ·rw [cell?_of_heap (w2 _ e)]; exact q2
    ·by_cases e : t.blk = nd.blk
     ·have et : t = nd := by
       obtain ⟨j', hj', hb', e'⟩ := hTr.at ht
       obtain ⟨j2, hj2, hb2, e2'⟩ := hTr.at e2
       rw [e] at hb'
       obtain ⟨_, rfl⟩ := h.inj _ _ _ _ _ hb' hb2
       exact Option.some.inj (e'.symm.trans e2')
      subst et
      by_cases hyx : y = x
      ·subst hyx
       rw [hkidx]
       have := World.cell?_setCells_in t.blk [nodeV (some bk)] (1 + y) w (fun c hc => by
        obtain rfl : c = 0 := by simpa using hc
        rw [Nat.add_zero, q3 y hy]; rfl) 0 (by simp)
       simpa using this
      ·rw [hkid _ _ (fun e => hyx e.2), World.cell?_setCells_out t.blk _ _ _ _ (fun _ _ => by simp only [List.length_singleton]; omega)]
       exact q3 y hy
     ·rw [cell?_of_heap (w2 _ e), hkid _ _ (fun e' => ?_)]
      ·exact q3 y hy
      ·have a1 := lkT_mem hTr.nd ht
       rw [e'.1, lkT_mem hTr.nd e2] at a1
       exact e (by rw [Option.some.inj a1])
   ·simp only [List.mem_singleton] at ht
    subst ht
    refine ⟨fun o => by rw [World.frozen?_setCells]; exact hkf o, ?_, fun y hy => ?_⟩
    ·rw [cell?_of_heap (w2 _ hne)]
     obtain ⟨v, g1, g2⟩ := hkc 0 (by simp)
     simp only [List.getElem_cons_zero] at g2
     rw [g1]
     cases g2 with | pure g2 => cases g2; rfl
    ·rw [cell?_of_heap (w2 _ hne)]
     obtain ⟨v, g1, g2⟩ := hkc (1 + y) (by simp; omega)
     have e9 : (AV.bool false :: cs)[1 + y]'(by simp; omega) = .lit (.pointer none) := by
      simp only [Nat.add_comm 1 y, List.getElem_cons_succ]
      exact nilPs_get hcs (by omega)
     rw [e9] at g2
     rw [g1]
     have : kidT T' (nd.path ++ [(x : Int)]) y = none := by
      rw [hkid _ _ (fun e => by have := congrArg List.length e.1; simp at this)]
      unfold kidT
      cases hl : lkT T (nd.path ++ [(x : Int)] ++ [(y : Int)]) with
      | none => rfl
      | some u =>
       have := hTr.pc _ _ (by rw [hl]; rfl)
       rw [hnone] at this; cases this
     rw [this]
     cases g2 with | pure g2 => cases g2; rfl
 generalize w.setCells nd.blk (1 + x) [nodeV (some bk)] = w' at *
 generalize hB : absB β k i T.length = B at *
 have Bk : ∀ c, B k c = none := fun c => by rw [← hB]; simp [absB]
 have Bin : B i T.length = β k 0 := by rw [← hB]; simp [absB, hik]
 have Bi : ∀ c, c ≠ T.length → B i c = β i c := fun c hc => by rw [← hB]; simp [absB, hik, hc]
 have Bo : ∀ a c, a ≠ i → a ≠ k → B a c = β a c := fun a c h1 h2 => by rw [← hB]; simp [absB, h1, h2]
 have hfrom : ∀ a c b, B a c = some b → a ≠ k ∧ ∃ a' c', β a' c' = some b ∧ ((a' = a ∧ c' = c ∧ ¬ (a = i ∧ c = T.length)) ∨ (a = i ∧ c = T.length ∧ a' = k ∧ c' = 0)) := fun a c b hb => by
  by_cases hk : a = k
  ·subst hk; rw [Bk] at hb; cases hb
  ·refine ⟨hk, ?_⟩
   by_cases hk2 : a = i ∧ c = T.length
   ·obtain ⟨rfl, rfl⟩ := hk2
    rw [Bin] at hb
    exact ⟨k, 0, hb, .inr ⟨rfl, rfl, rfl, rfl⟩⟩
   ·refine ⟨a, c, ?_, .inl ⟨rfl, rfl, hk2⟩⟩
    rw [← hB] at hb
    simpa [absB, hk, hk2] using hb
 generalize hf : absL k i bk = f
 generalize hO : ((st.objs.map (AObj.mapH f)).set i (AObj.trie m T')).set k AObj.dead = O
 have hst : absO st k i bk (.trie m T') = ⟨st.n, mapE (AV.mapH f 3) st.env, O⟩ := by rw [← hO, ← hf]; rfl
 rw [hst]
 have Ok : O[k]? = some .dead := by rw [← hO]; simp [hkn]
 have Oi : O[i]? = some (.trie m T') := by
  rw [← hO, List.getElem?_set_ne (Ne.symm hik)]; simp [hinn]
 have Oo : ∀ a, a ≠ i → a ≠ k → O[a]? = (st.objs[a]?).map (AObj.mapH f) := fun a h1 h2 => by
  rw [← hO, List.getElem?_set_ne (Ne.symm h2), List.getElem?_set_ne (Ne.symm h1), List.getElem?_map]
 have hS : ∀ b o, cx.S B O b o → cx.S β st.objs b o := fun b o hs => by
  rcases hs with hs | ⟨a, ob, h1, h2⟩
  ·exact .inl hs
  ·obtain ⟨_, c, hc⟩ := claims_block h2
   obtain ⟨_, k', c', hb, _⟩ := hfrom _ _ _ hc
   exact h.S_own hb o
 have hkS : Keeps (cx.S β st.objs) w w' := fun b o v hn hc => by
  rw [cell?_of_heap (w2 b (fun e => hn (by rw [e]; exact h.S_own hbn o)))]; exact hc
 have hs' : ∀ b o v, w.cell? ⟨b, o, none⟩ = some v → ¬ cx.S β st.objs b o → ¬ cx.S B O b o := fun b o _ _ hn hh => hn (hS b o hh)
 have hp : ∀ av v, PV w (cx.S β st.objs) av v → PV w' (cx.S B O) av v := fun av v hv => hv.keeps hkS hs'
 have hshp : ∀ b x, w.shape? b = some x → w'.shape? b = some x := fun b x hx => by rw [w6 b]; exact hx
 have hblk : ∀ a c b, β a c = some b → a ≠ i → w'.heap[b]? = w.heap[b]? := fun a c b hb hn => w2 b fun e => by
  subst e; exact hn (h.inj _ _ _ _ _ hb hbn).1
 have hown : ∀ a (p : Pay) nz, a ≠ k → st.objs[a]? = some (.arr p nz) → O[a]? = some (.arr p nz) ∧ ∀ c, B a c = β a c := fun a p nz hak ho => by
  have e : a ≠ i := fun e => by subst e; rw [hi] at ho; cases ho
  exact ⟨by rw [Oo a e hak, ho]; rfl, fun c => Bo a c e hak⟩
 have hBb : ∀ a b, a ≠ k → β a 0 = some b → B a 0 = some b := fun a b ha hb => by
  by_cases e : a = i
  ·subst e
   have : 0 < T.length := by omega
   rw [Bi 0 (by omega)]; exact hb
  ·rw [Bo a 0 e ha]; exact hb
 have hT : ∀ av u, av.isH = true → TV w (cx.S β st.objs) β st.objs av u → TV w' (cx.S B O) B O (f av) u := fun av u hh ht => by
  rw [← hf]
  rcases isH_cases hh with ⟨a, rfl⟩ | ⟨a, o, rfl⟩ | ⟨a, jj, c, rfl⟩ | ⟨a, rfl⟩ | ⟨a, x, rfl⟩
  ·simp only [absL]
   rcases beq_cases a k with ⟨e, rfl⟩ | ⟨e, hne⟩ <;> rw [e]
   ·exact .pure (.junk _)
   ·cases ht with
    | pure h => cases h
    | own ho hlen hnz hn hb =>
     obtain ⟨g1, g2⟩ := hown _ _ _ hne ho
     exact .own g1 hlen hnz (fun e => hn (by rw [← g2]; exact e)) (fun b e => let ⟨q1, q2, q3, q4⟩ := hb b (by rw [← g2]; exact e); ⟨q1, q2, q3, hshp _ _ q4⟩)
  ·simp only [absL]
   rcases beq_cases a k with ⟨e, rfl⟩ | ⟨e, hne⟩ <;> rw [e]
   ·cases o with
    | succ o => exact .pure (.junk _)
    | zero =>
     cases ht with
     | pure h => cases h
     | ref hb =>
      rw [hbk] at hb; cases hb
      exact .mh Oi rfl
   ·cases ht with
    | pure h => cases h
    | ref hb => exact .ref (hBb _ _ hne hb)
  ·simp only [absL]
   rcases beq_cases a k with ⟨e, rfl⟩ | ⟨e, hne⟩ <;> rw [e]
   ·exact .pure (.junk _)
   ·cases ht with
    | pure h => cases h
    | eref ho hb hj => exact .eref (hown _ _ _ hne ho).1 (hBb _ _ hne hb) hj
  ·simp only [absL]
   rcases beq_cases a k with ⟨e, rfl⟩ | ⟨e, hne⟩ <;> rw [e]
   ·exact .pure (.junk _)
   ·cases ht with
    | pure h => cases h
    | mapr hb => exact .mapr (hBb _ _ hne hb)
  ·simp only [absL]
   rcases beq_cases a k with ⟨e, rfl⟩ | ⟨e, hak⟩ <;> rw [e]
   ·exact .pure (.junk _)
   ·cases ht with
    | pure h => cases h
    | @mh _ _ o _ ho hm =>
     by_cases e : a = i
     ·subst e
      rw [hi] at ho
      cases ho
      exact .mh Oi hm.trie
     ·cases o with
      | nest rows' hole'' gone'' ai' e2' am' => exact .mh (by rw [Oo a e hak, ho]; rfl) (hm.step (fun c => Bo a c e hak) (fun _ b x _ hx => hshp b x hx))
      | arr p ai => exact .mh (by rw [Oo a e hak, ho]; rfl) (hm.arr (fun b e' => (Bo a 0 e hak).trans e') rfl rfl)
      | trie m T => exact .mh (by rw [Oo a e hak, ho]; rfl) hm.trie
      | _ => exact hm.elim
 refine ⟨⟨w3.trans h.keep.os, w4.trans h.keep.tape, w5.trans h.keep.output, Nat.le_trans h.keep.drawn wdr, by rw [w1]; exact h.keep.size, fun b hb hL => ?_⟩, h.s0, fun a c a' c' b h1 h2 => ?_, fun a c b hb => ?_, fun a c ho => ?_, fun a o ho => ?_, h.size, fun t => ?_⟩
 ·rw [w2 b (fun e => hL (by subst e; exact (h.rng _ _ _ hbn).2 hb))]
  exact h.keep.block b hb hL
 ·obtain ⟨p1, x1, y1, g1, s1⟩ := hfrom _ _ _ h1
  obtain ⟨p2, x2, y2, g2, s2⟩ := hfrom _ _ _ h2
  obtain ⟨rfl, rfl⟩ := h.inj _ _ _ _ _ g1 g2
  rcases s1 with ⟨rfl, rfl, a3⟩ | ⟨rfl, rfl, rfl, rfl⟩ <;> rcases s2 with ⟨rfl, rfl, b3⟩ | ⟨rfl, rfl, b5, b6⟩
  ·exact ⟨rfl, rfl⟩
  ·exact absurd b5 p1
  ·exact absurd rfl p2
  ·exact ⟨rfl, rfl⟩
 ·obtain ⟨_, x1, y1, g1, _⟩ := hfrom _ _ _ hb
  obtain ⟨q1, q2⟩ := h.rng _ _ _ g1
  exact ⟨by rw [w1]; exact q1, q2⟩
 ·have hk1 : a ≠ i := fun e => by subst e; rw [Oi] at ho; cases ho
  have hk2 : a ≠ k := fun e => by subst e; rw [Ok] at ho; cases ho
  rw [Bo a c hk1 hk2]
  have ho : O[a]? = none := ho
  rw [Oo a hk1 hk2] at ho
  exact h.out a c (by simpa using ho)
 ·have ho : O[a]? = some o := ho
  by_cases hk2 : a = k
  ·subst hk2
   rw [Ok] at ho
   cases ho
   exact fun c => Bk c
  ·by_cases hk1 : a = i
   ·subst hk1
    rw [Oi] at ho
    cases ho
    exact hW
   ·rw [Oo a hk1 hk2] at ho
    obtain ⟨o1, ho1, rfl⟩ := Option.map_eq_some_iff.1 ho
    exact (h.objs a o1 ho1).mapH hT hp (fun c => Bo a c hk1 hk2) (fun c b hb => hblk a c b hb hk1)
 ·show TV _ _ _ _ (getE t (mapE _ _)) _
  rw [getE_mapE (by rfl)]
  exact TV.mapH hT hp 3 _ _ (h.env t)
end Go.AM
end

section
namespace Go.AM
open Go
def storeTrieR (T : Tys) (st : St) (i : Nat) (x : MH) (t : TypeId) (val : Operand) (d : Option Tmp) : EffR :=
 match st.objs[i]?, x with
 | some (.trie m Tr), .tw b => match T t, boolA (st.ev val) with
  | some { k := .bool, sz := 1, .. }, some v => .ob (inT Tr b) (({ st with objs := st.objs.set i (.trie m (setW Tr b v)) } : St).put d .junk)
  | _, _ => .fail
 | some (.trie m Tr), .ts b y => match T t, st.ev val with
  | some { k := .ptr _, sz := 1, .. }, .ref k 0 => match st.objs[k]? with
   | some (.box (.bool false :: cs)) => match nilPs cs, Nat.beq cs.length m with
    | true, true => .new (inT Tr b ∧ y < m ∧ chT Tr b y = none) (fun bk => ndT Tr bk = none) (fun bk => (absO st k i bk (.trie m (addN Tr b y bk))).put d .junk)
    | _, _ => .fail
   | _ => .fail
  | _, _ => .fail
 | _, _ => .fail
theorem storeTrieR_ok {P : Program} {T : Tys} (hT : TyOk P T) {o : Oper} {st : St} {i : Nat} {x : MH} {t : TypeId} {addr val : Operand} (ho : o.op = .store t addr val) (ha : st.ev addr = .mh i x) {K : St → Prop}
  (h : (storeTrieR T st i x t val o.dst).holds P o.dst K) : EffOk P false o st K := by
 intro cx β tmps w ds Q hfr
 have hav := hfr.ev ds addr
 rw [ha] at hav
 have hvv := hfr.ev ds val
 generalize hA : ({ tmps, defers := ds } : Act).eval addr = A at hav
 generalize hV : ({ tmps, defers := ds } : Act).eval val = V at hvv
 unfold storeTrieR at h
 split at h
 ·rename_i m Tr b hi
  split at h
  ·rename_i by' zero v hti hb
   obtain ⟨hin, hK⟩ := h
   obtain ⟨m', T', ho', hm⟩ := hav.trieH (.inr (.inl ⟨_, rfl⟩))
   have hm : A = .pointer (some ⟨b, 0, none⟩) := hm
   subst hm
   have hTr : TrieOk w (β i) m Tr := hfr.objs i _ hi
   obtain ⟨nd, e1, e2, rfl⟩ := inT_nd hin
   obtain ⟨q1, q2, q3⟩ := hTr.cur nd e2
   obtain ⟨j, hj, hbj, _⟩ := hTr.at e2
   have hv : V = .bool v := by
    revert hvv hb
    generalize st.ev val = av
    intro hvv hb
    unfold boolA at hb
    split at hb
    ·cases hb; cases hvv with | pure h => cases h; rfl
    ·cases hb; cases hvv with | pure h => cases h; rfl
    ·cases hb
   subst hv
   obtain ⟨w1, w2, w3, w4, w5, w6, w7⟩ := setCells_heap nd.blk [.bool v] 0 w
   have hrun := run_storeAt (P := P) hT hti nd.blk 0 (.bool v) w rfl (fun c hc => by
    obtain rfl : c = 0 := by simpa [Value.cells] using hc
    simp [q2]) (fun c _ => q1 _) (fun x hx => by simp [Value.cells] at hx; rw [hx]; rfl)
   refine wp_of_skip (w' := w.setCells nd.blk 0 [.bool v]) ?_ ⟨_, _, hK, (hfr.trieW hi hin v).put (.pure (.junk _)) _ ds, put_defers _ _ _, fun b' o' v hn hc => ?_, fun e => by cases e⟩
   ·unfold execOp
    rw [ho]
    simp only [Sem.run_bind, hA, hV]
    rw [hrun]
    rfl
   ·rw [cell?_of_heap (w2 b' (fun e => hn (by rw [e]; exact hfr.S_own hbj o')))]; exact hc
  ·exact h.elim
 ·rename_i m Tr b y hi
  split at h
  ·rename_i e0 by' zero k hti hval
   split at h
   ·rename_i cs hk
    split at h
    ·rename_i hcs hcm
     have hcm := Nat.eq_of_beq_eq_true hcm
     obtain ⟨⟨hin, hy, hch⟩, hK⟩ := h
     rw [hval] at hvv
     obtain ⟨bk, hbk, hvb⟩ : ∃ bk, β k 0 = some bk ∧ V = nodeV (some bk) := by
      cases hvv with
      | pure h => cases h
      | ref hb => exact ⟨_, hb, rfl⟩
     subst hvb
     obtain ⟨m', T', ho', hm⟩ := hav.trieH (.inr (.inr (.inr (.inl ⟨_, _, rfl⟩))))
     have hm : A = .pointer (some ⟨b, 1 + y, none⟩) := hm
     subst hm
     have hTr : TrieOk w (β i) m Tr := hfr.objs i _ hi
     have hnb : ndT Tr bk = none := by
      cases e : ndT Tr bk with
      | none => rfl
      | some u =>
       obtain ⟨e1, e2⟩ := ndT_mem e
       obtain ⟨j, _, hbj, _⟩ := hTr.at e1
       rw [e2] at hbj
       have := (hfr.inj _ _ _ _ _ hbj hbk).1
       subst this
       rw [hi] at hk; cases hk
     have hf := hfr.absorb hi hk hcs hcm hbk hin hy hch
     obtain ⟨nd, e1, e2, rfl⟩ := inT_nd hin
     obtain ⟨q1, q2, q3⟩ := hTr.cur nd e2
     obtain ⟨j, hj, hbj, _⟩ := hTr.at e2
     obtain ⟨w1, w2, w3, w4, w5, w6, w7⟩ := setCells_heap nd.blk [nodeV (some bk)] (1 + y) w
     have hrun := run_storeAt (P := P) hT hti nd.blk (1 + y) (nodeV (some bk)) w rfl (fun c hc => by
      obtain rfl : c = 0 := by simpa [Value.cells, nodeV] using hc
      rw [Nat.add_zero, q3 y hy]; rfl) (fun c _ => q1 _) (fun x hx => by simp [Value.cells, nodeV] at hx; rw [hx]; rfl)
     refine wp_of_skip (w' := w.setCells nd.blk (1 + y) [nodeV (some bk)]) ?_ ⟨_, _, hK bk hnb, hf.put (.pure (.junk _)) _ ds, put_defers _ _ _, fun b' o' v hn hc => ?_, fun e => by cases e⟩
     ·unfold execOp
      rw [ho]
      simp only [Sem.run_bind, hA, hV]
      rw [hrun]
      rfl
     ·rw [cell?_of_heap (w2 b' (fun e => hn (by rw [e]; exact hfr.S_own hbj o')))]; exact hc
    ·exact h.elim
   ·exact h.elim
  ·exact h.elim
 ·exact h.elim
def subR (T : Tys) (st : St) (d : Option Tmp) (t : TypeId) (x lo : Operand) : EffR :=
 match T t, st.ev x, st.ev lo with
 | some { k := .slice e, .. }, .own i, .int _ n => match st.objs[i]?, T e with
  | some (.arr p _), some ei => match Nat.beq ei.sz p.sz, Nat.beq p.sz 1 with
   | true, true => .ob (0 ≤ n ∧ n < (p.len : Int)) (st.put d (.mh i (.sub n.toNat)))
   | _, _ => .fail
  | _, _ => .fail
 | _, _, _ => .fail
theorem subR_ok {P : Program} {T : Tys} (hT : TyOk P T) {o : Oper} {st : St} {t : TypeId} {x lo : Operand} (ho : o.op = .slice t x (some lo) none none) {K : St → Prop}
  (h : (subR T st o.dst t x lo).holds P o.dst K) : EffOk P true o st K := by
 intro cx β tmps w ds Q hfr
 have hx := hfr.ev ds x
 have hl := hfr.ev ds lo
 generalize hX : ({ tmps, defers := ds } : Act).eval x = X at hx
 generalize hL : ({ tmps, defers := ds } : Act).eval lo = L at hl
 unfold subR at h
 split at h
 ·rename_i sz bytes e zero i k n ht hex hel
  rw [hex] at hx
  rw [hel] at hl
  split at h
  ·rename_i p ai ei hi he
   split at h
   ·rename_i h1 h2
    have h1 := Nat.eq_of_beq_eq_true h1
    have h2 := Nat.eq_of_beq_eq_true h2
    obtain ⟨⟨g1, g2⟩, hK⟩ := h
    cases hl with | pure hl => cases hl with | int =>
    cases hx with | pure hx => cases hx | @own _ p' nz' a len cap ho' hlen hnz hn hb =>
    rw [hi] at ho'; cases ho'
    obtain ⟨_, hp0, _, _⟩ := hfr.objs i _ hi
    cases hβ : β i 0 with
    | none => have := hp0 hβ; omega
    | some b =>
     obtain ⟨rfl, hlc, hcm, _⟩ := hb b hβ
     obtain ⟨d, k1, k2⟩ := hT.underlying ht
     cases d <;> simp only [TKok] at k1
     subst k1
     have hz := fun w => hT.sizeOf he w
     have hbnd := run_sliceBounds (P := P) true len cap (some (.int k n)) none n (len : Int) (.inr ⟨_, rfl⟩) (.inl ⟨rfl, rfl⟩) g1 (by omega) (by omega)
     have hrun : (Instr.sliceAt t (.slice (some ⟨b, 0, none⟩) len cap) (some (.int k n)) none none).run P w = .ok (.slice (some ⟨b, n.toNat, none⟩) (p.len - n.toNat) (cap - n.toNat)) w := by
      unfold Instr.sliceAt Instr.slice
      have : ¬ cap = n.toNat := by omega
      simp [k2, hbnd, hz, this, h1, h2, hlen, Addr.add]
      omega
     refine wp_of_run (v := .slice (some ⟨b, n.toNat, none⟩) (p.len - n.toNat) (cap - n.toNat)) (w' := w) ?_ ⟨β, _, hK, hfr.put (.mh hi (show MHok w (β i) (.arr p ai) (.sub n.toNat) _ from ⟨h2, by omega, b, cap, hβ, by omega, rfl⟩)) _ ds, put_defers _ _ _, Keeps.refl _ _, fun _ => KeepL.refl _ _⟩
     unfold execOp
     rw [ho]
     simp only [Option.map_some, Option.map_none, Sem.run_bind, hX, hL]
     rw [hrun]
     rfl
   ·exact h.elim
  ·exact h.elim
 ·exact h.elim
def clearR (T : Tys) (st : St) (d : Option Tmp) (t : TypeId) (x : Operand) : EffR :=
 match T t, st.ev x with
 | some { k := .slice e, .. }, .mh i (.sub k) => match st.objs[i]?, T e with
  | some (.arr (.rows L) ai), some { zero := .lit (.slice none 0 0), .. } => .st (({ st with objs := st.objs.set i (.arr (.rows (L.take k ++ List.replicate (L.length - k) [])) ai) } : St).put d .junk)
  | _, _ => .fail
 | _, _ => .fail
theorem clearR_ok {P : Program} {T : Tys} (hT : TyOk P T) {o : Oper} {st : St} {t : TypeId} {x : Operand} (ho : o.op = .call { callee := .builtin .clear, args := #[x], argTypes := #[t] }) {K : St → Prop}
  (h : (clearR T st o.dst t x).holds P o.dst K) : EffOk P false o st K := by
 intro cx β tmps w ds Q hfr
 have hx := hfr.ev ds x
 generalize hX : ({ tmps, defers := ds } : Act).eval x = X at hx
 unfold clearR at h
 split at h
 ·rename_i sz bytes e zero i k ht hex
  rw [hex] at hx
  split at h
  ·rename_i L ai sz2 by2 k2 hi he
   cases hx with | pure hx => cases hx | mh ho' hm =>
   rw [hi] at ho'; cases ho'
   obtain ⟨_, hkl, b, cap, hβ, hlc, rfl⟩ := hm
   simp only [Pay.len] at hkl hlc hX
   obtain ⟨d, k1, hu⟩ := hT.underlying ht
   cases d <;> simp only [TKok] at k1
   subst k1
   obtain ⟨zv, hz1, hz2⟩ := hT.zeroValue he
   have hzv : zv = .slice none 0 0 := avOf_nil hz1
   subst hzv
   have hut := hT.kslice ht rfl
   obtain ⟨hpw, _, hβs, hob⟩ := hfr.objs i _ hi
   obtain ⟨⟨cur, hcur, hcs⟩, hcells⟩ := hob b hβ
   simp only [Pay.len, Pay.sz, Nat.mul_one] at hcs
   have hset := hfr.setArr (s := k) (p' := .rows (L.take k ++ List.replicate (L.length - k) [])) (vs := List.replicate (L.length - k) (.slice none 0 0)) hi hβ (by simp [Pay.len]; omega) rfl (Pay.wf_rows _) (by simp [Pay.len, Pay.sz]; omega) (fun j c hc hj v hv => by
    simp only [Pay.at, List.length_singleton] at hc
    obtain rfl : c = 0 := by omega
    simp only [Pay.len, List.length_append, List.length_take, List.length_replicate] at hj
    simp only [Pay.sz, Nat.mul_one, Nat.add_zero, List.length_replicate] at hv
    simp only [Pay.at, List.getElem_cons_zero]
    by_cases hkj : k ≤ j
    ·rw [if_pos (by omega)] at hv
     rw [List.getElem?_replicate] at hv
     rw [if_pos (by omega)] at hv
     cases hv
     have : (L.take k ++ List.replicate (L.length - k) []).getD j [] = [] := by
      rw [List.getD_eq_getElem?_getD, List.getElem?_append_right (by simp; omega), List.getElem?_replicate]
      split <;> rfl
     rw [this]
     exact PV.empty (p := .ints .i64 []) rfl false
    ·rw [if_neg (by omega)] at hv
     have := hv (by simp [Pay.at])
     simp only [Pay.at, List.getElem_cons_zero] at this
     have e : (L.take k ++ List.replicate (L.length - k) []).getD j [] = L.getD j [] := by
      rw [List.getD_eq_getElem?_getD, List.getElem?_append_left (by simp; omega), List.getElem?_take_of_lt (by omega), List.getD_eq_getElem?_getD]
     rw [e]
     exact this)
   obtain ⟨s1, s2, s3, s4⟩ := hset
   simp only [List.length_replicate] at s1 s2
   have hrun := Lib.run_clear_slice (P := P) w t _ o.type (.slice none 0 0) hut hz2 rfl rfl b k (L.length - k) (cap - k) (by omega) s1 s2
   refine wp_of_run (v := .tuple #[]) (w' := w.setCells b k (List.replicate (L.length - k) (.slice none 0 0))) ?_ ⟨β, _, h, s3.put (.pure (.junk _)) _ ds, put_defers _ _ _, s4, fun e => by cases e⟩
   unfold execOp
   simp only [ho, resolve, invoke, builtin, Sem.run_bind, Sem.run_pure, Result.andThen_ok, List.map_toArray, List.map_cons, List.map_nil, hX, hrun]
  ·exact h.elim
 ·exact h.elim
def appFullR (T : Tys) (st : St) (d : Option Tmp) (p : Pay) (t tx : TypeId) (x : Operand) : EffR :=
 match T t with
 | some { k := .slice e, .. } => match T e with
  | some ei => match Nat.beq p.sz 1, Nat.beq ei.sz 1, Nat.ble 1 ei.bytes, cellsA ei.zero with
   | true, true, true, some zs => match Nat.beq zs.length ei.sz, srcA T st t tx x with
    | true, some q => match p.app q with
     | some r => .ob (q.onesOk ∧ 1 ≤ q.len ∧ (p.len + q.len) * ei.bytes ≤ 140737488355328) (({ st with objs := st.objs ++ [.arr r ⟨e, false⟩] } : St).put d (.own st.objs.length))
     | none => .fail
    | _, _ => .fail
   | _, _, _, _ => .fail
  | none => .fail
 | _ => .fail
theorem appFullR_ok {P : Program} {T : Tys} (hT : TyOk P T) {o : Oper} {st : St} {t tx : TypeId} {p : Pay} {s x : Operand} (ho : o.op = .call { callee := .builtin .append, args := #[s, x], argTypes := #[t, tx] }) (hs : st.ev s = .full p) {K : St → Prop}
  (h : (appFullR T st o.dst p t tx x).holds P o.dst K) : EffOk P false o st K := by
 intro cx β tmps w ds Q hfr
 have hv := hfr.ev ds s
 rw [hs] at hv
 generalize hS0 : ({ tmps, defers := ds } : Act).eval s = V at hv
 unfold appFullR at h
 split at h
 ·rename_i sz bytes e zero ht
  split at h
  ·rename_i ei he
   split at h
   ·rename_i zs h1 h2 h3 hz
    have h1 := Nat.eq_of_beq_eq_true h1
    have h2 := Nat.eq_of_beq_eq_true h2
    have h3 := Nat.le_of_ble_eq_true h3
    split at h
    ·rename_i q h5 hq
     have h5 := Nat.eq_of_beq_eq_true h5
     split at h
     ·rename_i r hr
      obtain ⟨⟨hone, hq1, hbd⟩, hK⟩ := h
      have happ := app_is hr
      obtain ⟨news, hsr⟩ := srcA_ok (sz := ei.sz) hT hfr hq (happ.size'.trans (h1.trans h2.symm)) (by omega) hone ds
      have hut := hT.kslice ht rfl
      obtain ⟨inf, hinf, hisz, hiby, z, hz1, hz2⟩ := (hT _ _ he).info
      have hzs : z.cells.size = inf.size := by
       rw [← hz2] at hz
       have := (cellsA_const (w := w) (S := fun _ _ => False) (β := fun _ _ => none) (objs := []) hz).1
       omega
      have hlen63 : p.len + q.len ≤ maxLen := by
       have := Nat.le_mul_of_pos_right (p.len + q.len) h3
       simp only [maxLen]; omega
      have hnl := hsr.src.newsLen
      rw [← hisz] at hsr hnl
      rw [← hiby] at hbd
      have his1 : inf.size = 1 := by omega
      cases hv with | pure hv => cases hv with | @full _ a len hv =>
      cases hv with | @pay _ _ _ _ _ ad vs hlen hcap hwf hnz had hsp hc hS hr0 =>
      subst hlen
      have hol : ((List.range p.len).map fun j => vs j 0).length = p.len * inf.size := by simp [his1]
      have hrun := run_append_grow_src (P := P) w t tx o.type e inf z hut hinf hz1 a p.len p.len ((List.range p.len).map fun j => vs j 0) (by
       cases a with
       | none =>
        have h0 : p.len = 0 := by
         rcases Nat.eq_zero_or_pos p.len with h | h
         ·exact h
         ·have := had (by omega); cases this
        rw [h0]
        exact run_firstCells_none _ _ _ _ _
       | some a' =>
        refine run_firstCells_some w.drew inf.size p.len a' p.len p.len _ hol (fun j u hu => ?_)
        have hj : j < p.len := by have := (List.getElem?_eq_some_iff.1 hu).1; simpa using this
        obtain rfl : a' = ad := Option.some.inj (had (by omega))
        have hu' : u = vs j 0 := by simpa [hj] using hu.symm
        have e1 := hc j 0 (by omega) (by omega)
        rw [h1, Nat.mul_one, Nat.add_zero] at e1
        show w.cell? (a'.add j) = _
        rw [hu', ← e1]
        congr 1
        rw [addr_eq hsp]
        exact addr_add _ _ _) _ q.len news hsr.src (by omega) (by simp only [maxLen] at hlen63; omega) (growslice_fits (by omega) hbd)
      have hge := grownCap_ge w (p.len + q.len) p.len e
      have hcm := grownCap_le_maxLen w (p.len + q.len) p.len e hlen63
      generalize hw' : w.drew.alloc (.cells ((((List.range p.len).map fun j => vs j 0) ++ news).toArray ++ Builtin.zeroCells z.cells (grownCap w (p.len + q.len) p.len e - (p.len + q.len))) e) = w' at hrun
      have hsize : w'.heap.size = w.heap.size + 1 := by rw [← hw']; exact size_alloc w.drew _
      have hold : ∀ k, k < w.heap.size → w'.heap[k]? = w.heap[k]? := fun k hk => by rw [← hw']; exact heap_alloc_old w.drew _ k hk
      have hnew : w'.heap[w.heap.size]? = some (.cells ((((List.range p.len).map fun j => vs j 0) ++ news).toArray ++ Builtin.zeroCells z.cells (grownCap w (p.len + q.len) p.len e - (p.len + q.len))) e (0, 0)) := by rw [← hw']; exact heap_alloc_new w.drew _
      have hk : KeepL (fun _ => False) w w' := ⟨by rw [← hw']; rfl, by rw [← hw']; rfl, by rw [← hw']; rfl, by rw [← hw']; exact Nat.le_succ _, by omega, fun k hk _ => hold k hk⟩
      have hkeep : Keeps (cx.S β st.objs) w w' := hk.keeps fun _ _ _ => id
      have hcs : ((((List.range p.len).map fun j => vs j 0) ++ news).toArray ++ Builtin.zeroCells z.cells (grownCap w (p.len + q.len) p.len e - (p.len + q.len))).size = grownCap w (p.len + q.len) p.len e := by
       simp only [Array.size_append, List.size_toArray, List.length_append, hol, hnl, his1, size_zeroCells, hzs, Nat.mul_one]
       omega
      have hS' : ∀ b o v, w.cell? ⟨b, o, none⟩ = some v → ¬ cx.S β st.objs b o → ¬ cx.S (updB β st.objs.length (some w.heap.size)) (st.objs ++ [.arr r ⟨e, false⟩]) b o := fun b o v hc hn hs => by
       rcases hs with hs | ⟨i, ob1, k1, k2⟩
       ·exact hn (.inl hs)
       ·obtain ⟨k3, j4, k4⟩ := claims_block k2
        by_cases hi : i = st.objs.length
        ·subst hi
         cases j4 with
         | succ j4 => rw [updB_succ] at k4; cases k4
         | zero =>
          rw [updB_same] at k4
          cases k4
          have := lt_of_cell? hc
          omega
        ·rw [updB_ne hi] at k4
         have hil : i < st.objs.length := by
          have := (List.getElem?_eq_some_iff.1 k1).1
          simp at this; omega
         rw [List.getElem?_append_left hil] at k1
         exact hn (.inr ⟨i, ob1, k1, claims_mk o k3 k4⟩)
      have hrsz : r.sz = 1 := happ.size.trans h1
      have hn := hfr.newObj (.arr r ⟨e, false⟩) (some w.heap.size) hk (by simp) (fun b e => by cases e; exact ⟨Nat.le_refl _, by omega⟩) ⟨happ.wf hwf hsr.wf, fun e => (by rw [updB_same] at e; cases e), fun j => updB_succ, fun b eb => by
       rw [updB_same] at eb
       cases eb
       refine ⟨⟨_, hnew, by rw [hcs, hrsz, happ.len, Nat.mul_one]; exact hge⟩, fun j c hcj hj => ?_⟩
       obtain ⟨v, hv, hv'⟩ := app_rel (w := w) (S := cx.S β st.objs) (olds := (List.range p.len).map fun j => vs j 0) (news := news) happ hwf (by simp [h1]) (fun j c hcj hj => by
        have hcs := hwf j hj
        have hc0 : c = 0 := by omega
        subst hc0
        refine ⟨vs j 0, ?_, hr0 j 0 hcj (by omega)⟩
        rw [h1, Nat.mul_one, Nat.add_zero]
        simp [hj]) (fun j c hcj hj => by
        obtain ⟨v, g1, g2⟩ := hsr.rel j c hcj hj
        exact ⟨v, by rw [h1, ← his1]; exact g1, g2⟩) j c hcj hj
       refine ⟨v, ?_, hv'.keeps hkeep hS'⟩
       rw [h1] at hv
       simp only [World.cell?, hnew, hrsz]
       have hlt : j * 1 + c < (((List.range p.len).map fun j => vs j 0) ++ news).length := (List.getElem?_eq_some_iff.1 hv).1
       rw [Array.getElem?_append_left (by simpa using hlt)]
       simpa using hv⟩
      refine wp_of_run (v := .slice (some ⟨w.heap.size, 0, none⟩) (p.len + q.len) (grownCap w (p.len + q.len) p.len e)) (w' := w') ?_ ⟨_, _, hK, hn.put (.own (p := r) (nz := ⟨e, false⟩) (by simp) (by rw [happ.len]) (fun h _ => by cases h) (fun eb => by rw [updB_same] at eb; cases eb) (fun b eb => ?_)) _ ds, put_defers _ _ _, hkeep, fun e => by cases e⟩
      ·unfold execOp
       simp only [ho, resolve, invoke, builtin, Sem.run_bind, Sem.run_pure, Result.andThen_ok, List.map_toArray, List.map_cons, List.map_nil, hS0, hrun]
      ·rw [updB_same] at eb
       cases eb
       exact ⟨rfl, hge, hcm, by simp only [World.shape?, hnew, hcs, hrsz, Nat.mul_one]⟩
     ·exact h.elim
    ·exact h.elim
   ·exact h.elim
  ·exact h.elim
 ·exact h.elim
def eqlR (T : Tys) (st : St) (d : Option Tmp) (t : TypeId) (x y : Operand) : EffR :=
 match T t, st.ev x, st.ev y with
 | some { k := .slice _, .. }, .pay p _, .lit (.slice none 0 0) => .new True (fun b => b = 0 → p.len = 0) (fun b => st.put d (.bool (Nat.beq b 0)))
 | _, _, _ => .fail
theorem eqlR_ok {P : Program} {T : Tys} (hT : TyOk P T) {o : Oper} {st : St} {t yt : TypeId} {x y : Operand} (ho : o.op = .binOp .eql t x y yt) {K : St → Prop}
  (h : (eqlR T st o.dst t x y).holds P o.dst K) : EffOk P true o st K := by
 intro cx β tmps w ds Q hfr
 have hx := hfr.ev ds x
 have hy := hfr.ev ds y
 generalize hX : ({ tmps, defers := ds } : Act).eval x = X at hx
 generalize hY : ({ tmps, defers := ds } : Act).eval y = Y at hy
 unfold eqlR at h
 split at h
 ·rename_i sz bytes e zero p nz ht hex hey
  obtain ⟨_, hK⟩ := h
  rw [hex] at hx
  rw [hey] at hy
  cases hy with | pure hy => cases hy with | lit =>
  cases hx with | pure hx => cases hx with | @pay _ _ a len cap ad vs hlen hcap hwf hnz had hsp hc hS hr =>
  obtain ⟨d, k1, hu⟩ := hT.underlying ht
  cases d <;> simp only [TKok] at k1
  have key : ∀ a len cap w', (Op.equal t (.slice a len cap) (.slice none 0 0)).run P w' = .ok a.isNone w' := fun a len cap w' => by
   refine equal_of fun d => ?_
   cases a <;> simp [Op.equalIn, hu]
  have hrun := eqNil_bin (P := P) (op := .eql) (t := t) (x := x) (y := y) (av := .junk) (.inl rfl) (key a len cap w) (.inl ⟨_, _, _, rfl, rfl⟩)
  simp only [if_true] at hrun
  have hk1 : K (st.put o.dst (.bool a.isNone)) := by
   cases a with
   | none => exact hK 0 (fun _ => by
     rcases Nat.eq_zero_or_pos len with h0 | h0
     ·rw [hlen]; exact h0
     ·have := had (by omega); cases this)
   | some a => exact hK 1 (fun h => by cases h)
  refine wp_of_run (v := .bool a.isNone) (w' := w) ?_ ⟨β, _, hk1, hfr.put (.pure (.bool _)) _ ds, put_defers _ _ _, Keeps.refl _ _, fun _ => KeepL.refl _ _⟩
  unfold execOp
  rw [ho]
  have e : (do pure (Next.value (← (do eqGuard .eql t x y (.slice a len cap) (.slice none 0 0); binOp .eql t (.slice a len cap) (.slice none 0 0)))) : Sem Next).run P w = .ok (.value (.bool a.isNone)) w := by rw [Sem.run_bind, hrun]; rfl
  simpa [hX, hY] using e
 ·exact h.elim
end Go.AM
end

section
namespace Go.AM
open Go
theorem EffOk.sharp {P : Program} {q : Bool} {o : Oper} {st : St} {K : St → Prop} (h : EffOk P q o st K) {cx : Cx} {β : Nat → Nat → Option Nat} {tmps : Array Value} {w : World} {ds : List Deferred} {Q : Exit → Act → World → Prop} (hfr : FR cx β st tmps w) :
  o.wp P { tmps, defers := ds } w (fun a' w' => ∃ β' st', K st' ∧ FR cx β' st' a'.tmps w' ∧ a'.defers = ds ∧ Ext (cx.S β st.objs) w (cx.S β' st'.objs) w' ∧ (q = true → KeepL (fun _ => False) w w')) Q := by
 let cx' : Cx := ⟨w, cx.S0, fun b => ∃ i j, β i j = some b⟩
 have hfr' : FR cx' β st tmps w := ⟨KeepL.refl _ _, fun b o hs => ⟨Nat.lt_of_lt_of_le (hfr.s0 b o hs).1 hfr.keep.size, fun ⟨i, j, hb⟩ => hfr.notS0 hb o hs⟩, hfr.inj,
  fun i j b hb => ⟨(hfr.rng i j b hb).1, fun _ => ⟨i, j, hb⟩⟩, hfr.out, hfr.objs, hfr.size, hfr.env⟩
 refine Oper.wp_mono (fun a' w' hp => ?_) (h cx' β tmps w ds Q hfr')
 obtain ⟨β', st', hk, hf, hd, hkeep, hq⟩ := hp
 refine ⟨β', st', hk, ⟨hfr.keep.trans hf.keep (fun b hb hL ⟨i, j, e⟩ => hL ((hfr.rng i j b e).2 hb)), hfr.s0, hf.inj, fun i j b hb => ⟨(hf.rng i j b hb).1, fun hlt => ?_⟩, hf.out, hf.objs, hf.size, hf.env⟩, hd, ⟨hkeep, fun b o v hc hn hs => ?_⟩, hq⟩
 ·obtain ⟨i', j', e⟩ := (hf.rng i j b hb).2 (Nat.lt_of_lt_of_le hlt hfr.keep.size)
  exact (hfr.rng i' j' b e).2 hlt
 ·rcases hs with hs | ⟨i, ob, h1, h2⟩
  ·exact hn (.inl hs)
  ·obtain ⟨h3, j4, h4⟩ := claims_block h2
   obtain ⟨i', j', e⟩ := (hf.rng i _ b h4).2 (lt_of_cell? hc)
   cases ho : st.objs[i']? with
   | none => rw [hfr.out i' j' ho] at e; cases e
   | some ob1 =>
    refine hn (.inr ⟨i', ob1, ho, claims_mk o (fun e0 => ?_) e⟩)
    subst e0
    have hob : ∀ j, β i' j = none := hfr.objs i' _ ho
    rw [hob j'] at e; cases e
def elemN (x : Nat) : List Nat → Bool
 | [] => false
 | a :: r => match Nat.beq a x with
  | true => true
  | false => elemN x r
def inO (d : Option Tmp) (l : List Nat) : Bool :=
 match d with
 | some x => elemN x l
 | none => false
def callR (st : St) (c : Operand) (args : List Operand) : EffR :=
 match (st.freezeL (hsOf st (c :: args))).ev c with
 | .clo g caps => match (args.map (st.freezeL (hsOf st (c :: args))).ev ++ caps).all (AV.noH 3) with
  | true => .call g (args.map (st.freezeL (hsOf st (c :: args))).ev ++ caps) st (st.freezeL (hsOf st (c :: args)))
  | false => .fail
 | _ => .fail
def prE (st : St) (d : Option Tmp) : PR → EffR
 | .no => .fail
 | .val v => .st (st.put d v)
 | .gval g v => .ob g (st.put d v)
def effR (T : Tys) (cfg : Cfg) (st : St) (o : Oper) : EffR :=
 match o.op with
 | .alloc t => match inO o.dst cfg.mb with
  | true => allocNestR T st o.dst t
  | false => allocR T cfg st o.dst t
 | .box _ x => match inO o.dst cfg.mb with
  | true => boxMR st o.dst (st.ev x)
  | false => boxFR st o.dst (st.ev x)
 | .buildSlice t n parts => match inO o.dst cfg.mb with
  | true => buildNestR T st o.dst t n parts
  | false => match inO o.dst cfg.ab with
   | true => buildNilsR T st o.dst t n parts
   | false => buildSliceR T st o.dst t n parts
 | .makeSlice t l c => match inO o.dst cfg.mb with
  | true => makeNestR T st o.dst t l c
  | false => makeSliceR T st o.dst t l c
 | .store t a x => match st.ev a with
  | .mh i (.cell j) => storeRowR T st i j t x o.dst
  | .mh i y => storeTrieR T st i y t x o.dst
  | _ => storeR T st o.dst t a x
 | .assign (.const (.slice none 0 0)) => virtR T st o.dst o.type
 | .makeMap t none => match isArrMap T t with
  | true => makeMapKR T st o.dst t
  | false => match isStrMap T t with
   | true => makeMapSR T st o.dst t
   | false => makeMapE T st o.dst t
 | .mapUpdate t m k x => match isArrMap T t with
  | true => updKR T st o.dst t m k x
  | false => match isStrMap T t with
   | true => updSR T st o.dst t m k x
   | false => updE T st o.dst t m k x
 | .insert t m k x => match isArrMap T t with
  | true => updKR T st o.dst t m k x
  | false => match isStrMap T t with
   | true => updSR T st o.dst t m k x
   | false => updE T st o.dst t m k x
 | .call { callee := .builtin .append, args, argTypes } => match args.toList, argTypes.toList with
  | [s, x], [t, tx] => match st.ev s with
   | .mh i (.row j) => appRowR T st i j t tx x o.dst
   | .mh i .own => appNilsR T st i t tx x o.dst
   | .full p => appFullR T st o.dst p t tx x
   | _ => appendR T st o.dst t tx s x
  | _, _ => .fail
 | .call { callee := .builtin .clear, args, argTypes } => match args.toList, argTypes.toList with
  | [x], [t] => clearR T st o.dst t x
  | _, _ => .fail
 | .call { callee := .value c, args, .. } => callR st c args.toList
 | .load t x => prE st o.dst (loadA T false st.objs t (st.ev x))
 | .lookup t x ix ok => prE st o.dst (lookupA T false st.objs t (st.ev x) (st.ev ix) ok)
 | .move x => .st (st.put o.dst (coerce T o.type (st.ev x)))
 | .binOp .eql t x y _ => eqlR T st o.dst t x y
 | .slice t x lo hi mx => match inO o.dst cfg.ab, lo, hi, mx with
  | true, some l, none, none => subR T st o.dst t x l
  | _, _, _, _ => match st.ev x with
  | .own i => prE (st.freezeL [i]) o.dst (pureOp T false (st.freezeL [i]) o)
  | _ => prE st o.dst (pureOp T false st o)
 | _ => .fail
theorem prE_ok {P : Program} {st : St} {o : Oper} {r : PR} {K : St → Prop} (hp : ∀ cx β tmps w ds, FR cx β st tmps w → PRokN P false (cx.S β st.objs) β st.objs w (execOp ({ tmps, defers := ds } : Act).eval o) r) (h : (prE st o.dst r).holds P o.dst K) : EffOk P true o st K := by
 intro cx β tmps w ds Q hfr
 have hp := hp cx β tmps w ds hfr
 have done : ∀ v, (∃ cv, (∀ w', Cls false (cx.S β st.objs) w w' → (execOp ({ tmps, defers := ds } : Act).eval o).run P w' = .ok (.value cv) w') ∧ TV w (cx.S β st.objs) β st.objs v cv) → K (st.put o.dst v) → o.wp P { tmps, defers := ds } w (EPost K cx (cx.S β st.objs) ds true w) Q := fun v ⟨cv, h1, h2⟩ hk =>
  wp_of_run (h1 w (Cls.refl _ _ _)) ⟨β, _, hk, hfr.put h2 o.dst ds, put_defers _ _ _, Keeps.refl _ _, fun _ => KeepL.refl _ _⟩
 cases r with
 | no => exact h.elim
 | val v => exact done v hp h
 | gval g v => exact done v (hp h.1) h.2
theorem prE_frz {P : Program} {st : St} {o : Oper} {r : PR} (l : List Nat) {K : St → Prop} (hp : ∀ cx β tmps w ds, FR cx β (st.freezeL l) tmps w → PRokN P false (cx.S β (st.freezeL l).objs) β (st.freezeL l).objs w (execOp ({ tmps, defers := ds } : Act).eval o) r)
  (h : (prE (st.freezeL l) o.dst r).holds P o.dst K) : EffOk P true o st K := by
 intro cx β0 tmps w ds Q hfr0
 obtain ⟨β, hfr⟩ := FR.freezeL l st β0 hfr0
 have hp := hp cx β tmps w ds hfr
 have done : ∀ v, (∃ cv, (∀ w', Cls false (cx.S β (st.freezeL l).objs) w w' → (execOp ({ tmps, defers := ds } : Act).eval o).run P w' = .ok (.value cv) w') ∧ TV w (cx.S β (st.freezeL l).objs) β (st.freezeL l).objs v cv) → K ((st.freezeL l).put o.dst v) → o.wp P { tmps, defers := ds } w (EPost K cx (cx.S β0 st.objs) ds true w) Q := fun v ⟨cv, h1, h2⟩ hk =>
  wp_of_run (h1 w (Cls.refl _ _ _)) ⟨β, _, hk, hfr.put h2 o.dst ds, put_defers _ _ _, Keeps.refl _ _, fun _ => KeepL.refl _ _⟩
 cases r with
 | no => exact h.elim
 | val v => exact done v hp h
 | gval g v => exact done v (hp h.1) h.2
theorem effR_ok {P : Program} {T : Tys} (hT : TyOk P T) {cfg : Cfg} {st : St} {o : Oper} {K : St → Prop} (h : (effR T cfg st o).holds P o.dst K) : ∃ q, (Oper.loud o = false → q = true) ∧ EffOk P q o st K := by
 unfold effR at h
 split at h
 ·rename_i t ho
  split at h
  ·exact ⟨true, fun _ => rfl, allocNestR_ok hT ho h⟩
  ·exact ⟨true, fun _ => rfl, allocA_ok hT ho (allocR_ok h)⟩
 ·rename_i e x ho
  split at h
  ·exact ⟨true, fun _ => rfl, boxMA_ok ho (boxMR_ok h)⟩
  ·exact ⟨true, fun _ => rfl, boxF_ok ho (boxFR_ok h)⟩
 ·rename_i t n parts ho
  split at h
  ·exact ⟨true, fun _ => rfl, buildNestR_ok hT ho h⟩
  ·split at h
   ·exact ⟨true, fun _ => rfl, buildNilsR_ok hT ho h⟩
   ·exact ⟨true, fun _ => rfl, buildSliceA_ok hT ho (buildSliceR_ok h)⟩
 ·rename_i t l c ho
  split at h
  ·exact ⟨true, fun _ => rfl, makeNestR_ok hT ho h⟩
  ·exact ⟨true, fun _ => rfl, makeSliceA_ok hT ho (makeSliceR_ok h)⟩
 ·rename_i t a x ho
  split at h
  ·rename_i i j ha; exact ⟨false, fun hl => by simp [Oper.loud, ho] at hl, storeRowR_ok hT ho ha h⟩
  ·rename_i i y _ ha; exact ⟨false, fun hl => by simp [Oper.loud, ho] at hl, storeTrieR_ok hT ho ha h⟩
  ·exact ⟨false, fun hl => by simp [Oper.loud, ho] at hl, storeA_ok hT ho (storeR_ok h)⟩
 ·rename_i ho; exact ⟨true, fun _ => rfl, virtA_ok ho (virtR_ok h)⟩
 ·rename_i t ho
  split at h
  ·exact ⟨true, fun _ => rfl, makeMapKR_ok ho h⟩
  ·split at h
   ·exact ⟨true, fun _ => rfl, makeMapSR_ok ho h⟩
   ·exact ⟨true, fun _ => rfl, makeMap_ok ho (makeMapE_ok h)⟩
 ·rename_i t m k x ho
  split at h
  ·exact ⟨false, fun hl => by simp [Oper.loud, ho] at hl, updKR_ok hT (.inl ho) h⟩
  ·split at h
   ·exact ⟨false, fun hl => by simp [Oper.loud, ho] at hl, updSR_ok hT (.inl ho) h⟩
   ·exact ⟨false, fun hl => by simp [Oper.loud, ho] at hl, upd_ok hT (.inl ho) (updE_ok h)⟩
 ·rename_i t m k x ho
  split at h
  ·exact ⟨false, fun hl => by simp [Oper.loud, ho] at hl, updKR_ok hT (.inr ho) h⟩
  ·split at h
   ·exact ⟨false, fun hl => by simp [Oper.loud, ho] at hl, updSR_ok hT (.inr ho) h⟩
   ·exact ⟨false, fun hl => by simp [Oper.loud, ho] at hl, upd_ok hT (.inr ho) (updE_ok h)⟩
 ·rename_i args argTypes ho
  split at h
  ·rename_i s x t tx ha ht
   have e1 : args = #[s, x] := by rw [← ha]
   have e2 : argTypes = #[t, tx] := by rw [← ht]
   subst e1 e2
   split at h
   ·rename_i i j ha; exact ⟨false, fun hl => by simp [Oper.loud, ho] at hl, appRowR_ok hT ho ha h⟩
   ·rename_i i ha; exact ⟨false, fun hl => by simp [Oper.loud, ho] at hl, appNilsR_ok hT ho ha h⟩
   ·rename_i p ha; exact ⟨false, fun hl => by simp [Oper.loud, ho] at hl, appFullR_ok hT ho ha h⟩
   ·exact ⟨false, fun hl => by simp [Oper.loud, ho] at hl, appendA_ok hT ho (appendR_ok h)⟩
  ·exact h.elim
 ·rename_i args argTypes ho
  split at h
  ·rename_i x t ha ht
   have e1 : args = #[x] := by rw [← ha]
   have e2 : argTypes = #[t] := by rw [← ht]
   subst e1 e2
   exact ⟨false, fun hl => by simp [Oper.loud, ho] at hl, clearR_ok hT ho h⟩
  ·exact h.elim
 ·rename_i c args ts ho
  refine ⟨true, fun _ => rfl, callA_ok ho ?_⟩
  unfold callR at h
  unfold callA
  split at h
  ·rename_i g caps hev
   simp only [hev]
   split at h
   ·rename_i hn
    simp only [hn]
    exact h
   ·exact h.elim
  ·exact h.elim
 ·rename_i t x ho
  refine ⟨true, fun _ => rfl, prE_ok (r := loadA T false st.objs t (st.ev x)) (fun cx β tmps w ds hfr => ?_) h⟩
  have := pureOp_ok (P := P) hT (s := false) hfr ds o
  unfold pureOp at this
  rw [ho] at this
  exact this
 ·rename_i t x ix ok ho
  refine ⟨true, fun _ => rfl, prE_ok (r := lookupA T false st.objs t (st.ev x) (st.ev ix) ok) (fun cx β tmps w ds hfr => ?_) h⟩
  have := pureOp_ok (P := P) hT (s := false) hfr ds o
  unfold pureOp at this
  rw [ho] at this
  exact this
 ·rename_i x ho
  refine ⟨true, fun _ => rfl, prE_ok (r := .val (coerce T o.type (st.ev x))) (fun cx β tmps w ds hfr => ?_) h⟩
  have := pureOp_ok (P := P) hT (s := false) hfr ds o
  unfold pureOp at this
  rw [ho] at this
  exact this
 ·rename_i t x y yt ho
  exact ⟨true, fun _ => rfl, eqlR_ok hT ho h⟩
 ·rename_i t x lo hi mx ho
  refine ⟨true, fun _ => rfl, ?_⟩
  split at h
  ·exact subR_ok hT ho h
  split at h
  ·rename_i i hev
   exact prE_frz [i] (fun cx β tmps w ds hfr => pureOp_ok (P := P) hT (s := false) hfr ds o) h
  ·exact prE_ok (fun cx β tmps w ds hfr => pureOp_ok (P := P) hT (s := false) hfr ds o) h
 ·exact h.elim
end Go.AM
end
