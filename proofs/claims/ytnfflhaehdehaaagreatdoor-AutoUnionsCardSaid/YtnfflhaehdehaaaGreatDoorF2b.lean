/-
  Groundwork of the abstract machine: effects as data, and code as a whole, each with the conditions in its lemma.
-/
import Derived.Test.YtnfflhaehdehaaaGreatDoorF2
set_option linter.unusedVariables false
set_option linter.unusedSimpArgs false
set_option linter.unusedSectionVars false

/-! text AmR -/
section
namespace Go.AM
open Go

inductive EffR where
  | fail
  | st (s : St)
  | ob (g : Prop) (s : St)
  | call (g : FuncId) (args : List AV) (s0 s : St)
def EffR.holds (P : Program) (d : Option Tmp) (K : St → Prop) : EffR → Prop
  | .fail => False
  | .st s => K s
  | .ob g s => g ∧ K s
  | .call g args s0 s => ∃ Q, ACall P g args Q ∧ ∀ r objs, Q r objs → K (joinC s0 s d r objs)

def allocR (T : Tys) (cfg : Cfg) (st : St) (d : Option Tmp) (t : TypeId) : EffR :=
  match (match d with | some x => cfg.ab.elem x | none => false), T t with
  | true, some { k := .array n e, sz, zero := .agg z, .. } => match T e with
    | some ei => match Nat.beq z.length (n * ei.sz), ei.k.agg || Nat.beq ei.sz 1, Nat.beq sz (n * ei.sz), payOf T e n z with
      | true, true, true, some p => .st (({ st with objs := st.objs ++ [.arr p ⟨t, false⟩] } : St).put d (.ref st.objs.length 0))
      | _, _, _, _ => .fail
    | none => .fail
  | false, some { zero, .. } => match cellsA zero with
    | some xs => .st (({ st with objs := st.objs ++ [.box xs] } : St).put d (.ref st.objs.length 0))
    | none => .fail
  | _, _ => .fail

def boxFR (st : St) (d : Option Tmp) (x : AV) : EffR :=
  match cellsA x with
  | some xs => match xs.all (AV.noH 3) with
    | true => .st (st.put d (.fref xs))
    | false => .fail
  | none => .fail

def boxMR (st : St) (d : Option Tmp) (x : AV) : EffR :=
  match cellsA x with
  | some xs => .st (({ st with objs := st.objs ++ [.box xs] } : St).put d (.ref st.objs.length 0))
  | none => .fail

def virtR (T : Tys) (st : St) (d : Option Tmp) (t : TypeId) : EffR :=
  match T t, emptyPay T t with
  | some { k := .slice e, .. }, some p => .st (st.addArr p ⟨e, true⟩ d)
  | _, _ => .fail

def buildSliceR (T : Tys) (st : St) (d : Option Tmp) (t : TypeId) (n : Nat) (parts : Array (Nat × Operand)) : EffR :=
  match T t with
  | some { k := .slice e, .. } => match T e with
    | some ei => match Nat.ble (n * ei.sz) 16777216, ei.k.agg || Nat.beq ei.sz 1, Nat.ble 1 ei.sz with
      | true, true, true =>
        match fillA (fun i => some (i * ei.sz, ei.sz)) (List.replicate (n * ei.sz) .junk) (parts.toList.map fun p => (p.1, (st.freezeL (hsOf st (parts.toList.map (·.2)))).ev p.2)) with
        | some out => match payOf T e n out with
          | some p => .st ((st.freezeL (hsOf st (parts.toList.map (·.2)))).addArr p ⟨e, false⟩ d)
          | none => .fail
        | none => .fail
      | _, _, _ => .fail
    | none => .fail
  | _ => .fail

def makeSliceR (T : Tys) (st : St) (d : Option Tmp) (t : TypeId) (l c : Operand) : EffR :=
  match T t, st.ev l with
  | some { k := .slice e, .. }, .int .i64 n => match T e with
    | some ei => match sameOp l c, ei.k.agg || Nat.beq ei.sz 1, Nat.ble 1 ei.sz, zeroPay T e n.toNat with
      | true, true, true, some p => .ob ((0 ≤ n ∧ n * (ei.bytes : Int) ≤ 70368744177664 ∧ n ≤ 70368744177664)) (st.addArr p ⟨e, false⟩ d)
      | _, _, _, _ => .fail
    | none => .fail
  | _, _ => .fail

def storeR (T : Tys) (st : St) (d : Option Tmp) (t : TypeId) (addr val : Operand) : EffR :=
  match st.ev addr with
  | .eref _ _ _ =>
    match (st.freezeL (hsOf st [val])).ev addr, T t with
    | .eref i j c, some ti => match (st.freezeL (hsOf st [val])).objs[i]?, cellsA ((st.freezeL (hsOf st [val])).ev val) with
      | some (.arr p ai), some xs => match Nat.beq xs.length ti.sz, xs.all AV.one, p.setAt j c xs with
        | true, true, some p' => .st (({ st.freezeL (hsOf st [val]) with objs := (st.freezeL (hsOf st [val])).objs.set i (.arr p' ai) } : St).put d .junk)
        | _, _, _ => .fail
      | _, _ => .fail
    | _, _ => .fail
  | .ref i off =>
    match st.objs[i]?, T t, cellsA (st.ev val) with
    | some (.box cells), some ti, some xs => match Nat.beq xs.length ti.sz, xs.all AV.one, Nat.ble (off + xs.length) cells.length with
      | true, true, true => .st (({ st with objs := st.objs.set i (.box (cells.take off ++ (xs ++ cells.drop (off + xs.length)))) } : St).put d .junk)
      | _, _, _ => .fail
    | some (.arr p ai), some { k := .array n e, sz, .. }, some xs => match T e with
      | some ei => match Nat.beq xs.length sz, Nat.beq sz (n * ei.sz), xs.all AV.one, ei.k.agg || Nat.beq ei.sz 1, payOf T e n xs with
        | true, true, true, true, some p' => match Nat.beq off 0, Nat.beq p'.len p.len, Nat.beq p'.sz p.sz with
          | true, true, true => .st (({ st with objs := st.objs.set i (.arr p' ai) } : St).put d .junk)
          | _, _, _ => .fail
        | _, _, _, _, _ => .fail
      | none => .fail
    | _, _, _ => .fail
  | _ => .fail

def appCoreR (T : Tys) (st : St) (i : Nat) (t tx : TypeId) (x : Operand) (d : Option Tmp) : EffR :=
  match st.objs[i]? with
  | some (.arr p ai) => match T t, T ai.e with
    | some { k := .slice e, .. }, some ei => match Nat.beq e ai.e, Nat.beq p.sz ei.sz, Nat.ble 1 ei.sz, Nat.ble 1 ei.bytes, cellsA ei.zero with
      | true, true, true, true, some zs => match Nat.beq zs.length ei.sz, srcA T st t tx x with
        | true, some q => match p.app q with
          | some r => .ob (q.onesOk ∧ (p.len + q.len) * ei.bytes ≤ 140737488355328) ((st.remap (killL i) i (.arr r ai)).put d (.own i))
          | none => .fail
        | _, _ => .fail
      | _, _, _, _, _ => .fail
    | _, _ => .fail
  | _ => .fail

def appendR (T : Tys) (st : St) (d : Option Tmp) (t tx : TypeId) (s x : Operand) : EffR :=
  match st.ev s with
  | .own i => appCoreR T st i t tx x d
  | .lit (.slice none 0 0) => match T t, emptyPay T t with
    | some { k := .slice e, .. }, some p => appCoreR T { st with objs := st.objs ++ [.arr p ⟨e, true⟩] } st.objs.length t tx x d
    | _, _ => .fail
  | _ => .fail

theorem allocR_ok {P : Program} {T : Tys} {cfg : Cfg} {st : St} {d : Option Tmp} {t : TypeId} {K : St → Prop} (h : (allocR T cfg st d t).holds P d K) : allocA T cfg st d t K := by
  unfold allocR at h; unfold allocA
  cases d <;> simp only [] at h ⊢
  all_goals repeat' split at h
  all_goals first | exact h.elim | exact absurd ‹false = true› (by simp) | (simp only [EffR.holds] at h; simp only [*, and_self]; done) | (simp only [EffR.holds] at h; simp only [*]; exact h)
theorem boxFR_ok {P : Program} {st : St} {d : Option Tmp} {x : AV} {K : St → Prop} (h : (boxFR st d x).holds P d K) : boxF st d x K := by
  unfold boxFR at h; unfold boxF
  repeat' split at h
  all_goals first | exact h.elim | (simp only [EffR.holds] at h; simp only [*, and_self]; done) | (simp only [EffR.holds] at h; simp only [*]; exact h)
theorem boxMR_ok {P : Program} {st : St} {d : Option Tmp} {x : AV} {K : St → Prop} (h : (boxMR st d x).holds P d K) : boxMA st d x K := by
  unfold boxMR at h; unfold boxMA
  repeat' split at h
  all_goals first | exact h.elim | (simp only [EffR.holds] at h; simp only [*, and_self]; done) | (simp only [EffR.holds] at h; simp only [*]; exact h)
theorem virtR_ok {P : Program} {T : Tys} {st : St} {d : Option Tmp} {t : TypeId} {K : St → Prop} (h : (virtR T st d t).holds P d K) : virtA T st d t K := by
  unfold virtR at h; unfold virtA
  repeat' split at h
  all_goals first | exact h.elim | (simp only [EffR.holds] at h; simp only [*, and_self]; done) | (simp only [EffR.holds] at h; simp only [*]; exact h)
theorem buildSliceR_ok {P : Program} {T : Tys} {st : St} {d : Option Tmp} {t : TypeId} {n : Nat} {parts : Array (Nat × Operand)} {K : St → Prop} (h : (buildSliceR T st d t n parts).holds P d K) : buildSliceA T st d t n parts K := by
  unfold buildSliceR at h; unfold buildSliceA
  repeat' split at h
  all_goals first | exact h.elim | (simp only [EffR.holds] at h; simp only [*, and_self]; done) | (simp only [EffR.holds] at h; simp only [*]; exact h)
theorem makeSliceR_ok {P : Program} {T : Tys} {st : St} {d : Option Tmp} {t : TypeId} {l c : Operand} {K : St → Prop} (h : (makeSliceR T st d t l c).holds P d K) : makeSliceA T st d t l c K := by
  unfold makeSliceR at h; unfold makeSliceA
  repeat' split at h
  all_goals first | exact h.elim | (simp only [EffR.holds] at h; simp only [*, and_self]; done) | (simp only [EffR.holds] at h; simp only [*]; exact h)
theorem storeR_ok {P : Program} {T : Tys} {st : St} {d : Option Tmp} {t : TypeId} {addr val : Operand} {K : St → Prop} (h : (storeR T st d t addr val).holds P d K) : storeA T st d t addr val K := by
  unfold storeR at h; unfold storeA
  repeat' split at h
  all_goals first | exact h.elim | (simp only [EffR.holds] at h; simp only [*, and_self]; done) | (simp only [EffR.holds] at h; simp only [*]; exact h)
theorem appCoreR_ok {P : Program} {T : Tys} {st : St} {i : Nat} {t tx : TypeId} {x : Operand} {d : Option Tmp} {K : St → Prop} (h : (appCoreR T st i t tx x d).holds P d K) : appCore T st i t tx x d K := by
  unfold appCoreR at h; unfold appCore
  repeat' split at h
  all_goals first | exact h.elim | (simp only [EffR.holds] at h; simp only [*, and_self]; done) | (simp only [EffR.holds] at h; simp only [*]; exact h)
theorem appendR_ok {P : Program} {T : Tys} {st : St} {d : Option Tmp} {t tx : TypeId} {s x : Operand} {K : St → Prop} (h : (appendR T st d t tx s x).holds P d K) : appendA T st d t tx s x K := by
  unfold appendR at h; unfold appendA
  split at h
  · rename_i i hi
    simp only [hi]
    exact appCoreR_ok h
  · rename_i hi
    split at h
    · rename_i h1 h2
      simp only [hi, h1, h2]
      exact appCoreR_ok h
    · exact h.elim
  · exact h.elim
def makeMapE (T : Tys) (st : St) (d : Option Tmp) (t : TypeId) : EffR :=
  match T t with
  | some { k := .map kt et, .. } => match T kt, T et with
    | some { k := .int k, .. }, some { zero := .bool false, .. } => .st (({ st with objs := st.objs ++ [.mapB (.int k) []] } : St).put d (.mapr st.objs.length))
    | _, _ => .fail
  | _ => .fail
def updE (T : Tys) (st : St) (d : Option Tmp) (t : TypeId) (m key val : Operand) : EffR :=
  match st.ev m, st.ev key, T t with
  | .mapr i, .int k n, some { k := .map kt _, .. } => match st.objs[i]?, T kt with
    | some (.mapB (.int k1) mm), some { k := .int k2, .. } => match decide (k = k1), decide (k = k2), boolA (st.ev val) with
      | true, true, some b => .st (({ st with objs := st.objs.set i (.mapB (.int k) (mput n b mm)) } : St).put d .junk)
      | _, _, _ => .fail
    | _, _ => .fail
  | _, _, _ => .fail
theorem makeMapE_ok {P : Program} {T : Tys} {st : St} {d : Option Tmp} {t : TypeId} {K : St → Prop} (h : (makeMapE T st d t).holds P d K) : makeMapR T st d t K := by
  unfold makeMapE at h; unfold makeMapR
  repeat' split at h
  all_goals first | exact h.elim | (simp only [EffR.holds] at h; simp only [*, and_self]; done) | (simp only [EffR.holds] at h; simp only [*]; exact h)
theorem updE_ok {P : Program} {T : Tys} {st : St} {d : Option Tmp} {t : TypeId} {m key val : Operand} {K : St → Prop} (h : (updE T st d t m key val).holds P d K) : updR T st d t m key val K := by
  unfold updE at h; unfold updR
  repeat' split at h
  all_goals first | exact h.elim | (simp only [EffR.holds] at h; simp only [*, and_self]; done) | (simp only [EffR.holds] at h; simp only [*]; exact h)
end Go.AM
end

/-! text AmCode -/
section
namespace Go.AM
open Go

/-! the effects, seen from any world on -/
theorem EffOk.sharp {P : Program} {q : Bool} {o : Oper} {st : St} {K : St → Prop} (h : EffOk P q o st K) {cx : Cx} {β : Nat → Nat → Option Nat} {tmps : Array Value} {w : World} {ds : List Deferred} {Q : Exit → Act → World → Prop} (hfr : FR cx β st tmps w) :
    o.wp P { tmps, defers := ds } w (fun a' w' => ∃ β' st', K st' ∧ FR cx β' st' a'.tmps w' ∧ a'.defers = ds ∧ Ext (cx.S β st.objs) w (cx.S β' st'.objs) w' ∧ (q = true → KeepL (fun _ => False) w w')) Q := by
  let cx' : Cx := ⟨w, cx.S0, fun b => ∃ i j, β i j = some b⟩
  have hfr' : FR cx' β st tmps w := ⟨KeepL.refl _ _, fun b o hs => ⟨Nat.lt_of_lt_of_le (hfr.s0 b o hs).1 hfr.keep.size, fun ⟨i, j, hb⟩ => hfr.notS0 hb o hs⟩, hfr.inj,
    fun i j b hb => ⟨(hfr.rng i j b hb).1, fun _ => ⟨i, j, hb⟩⟩, hfr.out, hfr.objs, hfr.size, hfr.env⟩
  refine Oper.wp_mono (fun a' w' hp => ?_) (h cx' β tmps w ds Q hfr')
  obtain ⟨β', st', hk, hf, hd, hkeep, hq⟩ := hp
  refine ⟨β', st', hk, ⟨hfr.keep.trans hf.keep (fun b hb hL ⟨i, j, e⟩ => hL ((hfr.rng i j b e).2 hb)), hfr.s0, hf.inj, fun i j b hb => ⟨(hf.rng i j b hb).1, fun hlt => ?_⟩, hf.out, hf.objs, hf.size, hf.env⟩, hd, ⟨hkeep, fun b o v hc hn hs => ?_⟩, hq⟩
  · obtain ⟨i', j', e⟩ := (hf.rng i j b hb).2 (Nat.lt_of_lt_of_le hlt hfr.keep.size)
    exact (hfr.rng i' j' b e).2 hlt
  · rcases hs with hs | ⟨i, ob, h1, h2⟩
    · exact hn (.inl hs)
    · obtain ⟨h3, h4⟩ := claims_block h2
      obtain ⟨i', j', e⟩ := (hf.rng i 0 b h4).2 (lt_of_cell? hc)
      cases ho : st.objs[i']? with
      | none => rw [hfr.out i' j' ho] at e; cases e
      | some ob1 =>
        have hob := hfr.objs i' ob1 ho
        cases ob1 with
        | dead => rw [hob j'] at e; cases e
        | arr p ai =>
          cases j' with
          | zero => exact hn (.inr ⟨i', _, ho, e⟩)
          | succ j' => rw [hob.2.2.1 j'] at e; cases e
        | box cs =>
          cases j' with
          | zero => exact hn (.inr ⟨i', _, ho, e⟩)
          | succ j' => rw [hob.1 j'] at e; cases e
        | mapB kk m =>
          cases j' with
          | zero => exact hn (.inr ⟨i', _, ho, e⟩)
          | succ j' => rw [hob.1 j'] at e; cases e
        | mapI kk m =>
          cases j' with
          | zero => exact hn (.inr ⟨i', _, ho, e⟩)
          | succ j' => rw [hob.1 j'] at e; cases e

/-! which effect -/
def elemN (x : Nat) : List Nat → Bool
  | [] => false
  | a :: r => match Nat.beq a x with
    | true => true
    | false => elemN x r
def inO (d : Option Tmp) (l : List Nat) : Bool :=
  match d with
  | some x => elemN x l
  | none => false
def callR (st : St) (c : Operand) (args : List Operand) : EffR :=
  match (st.freezeL (hsOf st (c :: args))).ev c with
  | .clo g caps => match (args.map (st.freezeL (hsOf st (c :: args))).ev ++ caps).all (AV.noH 3) with
    | true => .call g (args.map (st.freezeL (hsOf st (c :: args))).ev ++ caps) st (st.freezeL (hsOf st (c :: args)))
    | false => .fail
  | _ => .fail
/-- what has no effect may stand in an order of its own -/
def prE (st : St) (d : Option Tmp) : PR → EffR
  | .no => .fail
  | .val v => .st (st.put d v)
  | .gval g v => .ob g (st.put d v)
def effR (T : Tys) (cfg : Cfg) (st : St) (o : Oper) : EffR :=
  match o.op with
  | .alloc t => allocR T cfg st o.dst t
  | .box _ x => match inO o.dst cfg.mb with
    | true => boxMR st o.dst (st.ev x)
    | false => boxFR st o.dst (st.ev x)
  | .buildSlice t n parts => buildSliceR T st o.dst t n parts
  | .makeSlice t l c => makeSliceR T st o.dst t l c
  | .store t a x => storeR T st o.dst t a x
  | .assign (.const (.slice none 0 0)) => virtR T st o.dst o.type
  | .makeMap t none => makeMapE T st o.dst t
  | .mapUpdate t m k x => updE T st o.dst t m k x
  | .insert t m k x => updE T st o.dst t m k x
  | .call { callee := .builtin .append, args, argTypes } => match args.toList, argTypes.toList with
    | [s, x], [t, tx] => appendR T st o.dst t tx s x
    | _, _ => .fail
  | .call { callee := .value c, args, .. } => callR st c args.toList
  | .load t x => prE st o.dst (loadA T false st.objs t (st.ev x))
  | .lookup t x ix ok => prE st o.dst (lookupA T false st.objs t (st.ev x) (st.ev ix) ok)
  | .move x => .st (st.put o.dst (coerce T o.type (st.ev x)))
  | .slice _ x _ _ _ => match st.ev x with
    | .own i => prE (st.freezeL [i]) o.dst (pureOp T false (st.freezeL [i]) o)
    | _ => prE st o.dst (pureOp T false st o)
  | _ => .fail
theorem prE_ok {P : Program} {st : St} {o : Oper} {r : PR} {K : St → Prop} (hp : ∀ cx β tmps w ds, FR cx β st tmps w → PRokN P false (cx.S β st.objs) β st.objs w (execOp ({ tmps, defers := ds } : Act).eval o) r) (h : (prE st o.dst r).holds P o.dst K) : EffOk P true o st K := by
  intro cx β tmps w ds Q hfr
  have hp := hp cx β tmps w ds hfr
  have done : ∀ v, (∃ cv, (∀ w', Cls false (cx.S β st.objs) w w' → (execOp ({ tmps, defers := ds } : Act).eval o).run P w' = .ok (.value cv) w') ∧ TV w (cx.S β st.objs) β st.objs v cv) → K (st.put o.dst v) → o.wp P { tmps, defers := ds } w (EPost K cx (cx.S β st.objs) ds true w) Q := fun v ⟨cv, h1, h2⟩ hk =>
    wp_of_run (h1 w (Cls.refl _ _ _)) ⟨β, _, hk, hfr.put h2 o.dst ds, put_defers _ _ _, Keeps.refl _ _, fun _ => KeepL.refl _ _⟩
  cases r with
  | no => exact h.elim
  | val v => exact done v hp h
  | gval g v => exact done v (hp h.1) h.2

theorem prE_frz {P : Program} {st : St} {o : Oper} {r : PR} (l : List Nat) {K : St → Prop} (hp : ∀ cx β tmps w ds, FR cx β (st.freezeL l) tmps w → PRokN P false (cx.S β (st.freezeL l).objs) β (st.freezeL l).objs w (execOp ({ tmps, defers := ds } : Act).eval o) r)
    (h : (prE (st.freezeL l) o.dst r).holds P o.dst K) : EffOk P true o st K := by
  intro cx β0 tmps w ds Q hfr0
  obtain ⟨β, hfr⟩ := FR.freezeL l st β0 hfr0
  have hp := hp cx β tmps w ds hfr
  have done : ∀ v, (∃ cv, (∀ w', Cls false (cx.S β (st.freezeL l).objs) w w' → (execOp ({ tmps, defers := ds } : Act).eval o).run P w' = .ok (.value cv) w') ∧ TV w (cx.S β (st.freezeL l).objs) β (st.freezeL l).objs v cv) → K ((st.freezeL l).put o.dst v) → o.wp P { tmps, defers := ds } w (EPost K cx (cx.S β0 st.objs) ds true w) Q := fun v ⟨cv, h1, h2⟩ hk =>
    wp_of_run (h1 w (Cls.refl _ _ _)) ⟨β, _, hk, hfr.put h2 o.dst ds, put_defers _ _ _, Keeps.refl _ _, fun _ => KeepL.refl _ _⟩
  cases r with
  | no => exact h.elim
  | val v => exact done v hp h
  | gval g v => exact done v (hp h.1) h.2
theorem effR_ok {P : Program} {T : Tys} (hT : TyOk P T) {cfg : Cfg} {st : St} {o : Oper} {K : St → Prop} (h : (effR T cfg st o).holds P o.dst K) : ∃ q, (Oper.loud o = false → q = true) ∧ EffOk P q o st K := by
  unfold effR at h
  split at h
  · rename_i t ho; exact ⟨true, fun _ => rfl, allocA_ok hT ho (allocR_ok h)⟩
  · rename_i e x ho
    split at h
    · exact ⟨true, fun _ => rfl, boxMA_ok ho (boxMR_ok h)⟩
    · exact ⟨true, fun _ => rfl, boxF_ok ho (boxFR_ok h)⟩
  · rename_i t n parts ho; exact ⟨true, fun _ => rfl, buildSliceA_ok hT ho (buildSliceR_ok h)⟩
  · rename_i t l c ho; exact ⟨true, fun _ => rfl, makeSliceA_ok hT ho (makeSliceR_ok h)⟩
  · rename_i t a x ho; exact ⟨false, fun hl => by simp [Oper.loud, ho] at hl, storeA_ok hT ho (storeR_ok h)⟩
  · rename_i ho; exact ⟨true, fun _ => rfl, virtA_ok ho (virtR_ok h)⟩
  · rename_i t ho; exact ⟨true, fun _ => rfl, makeMap_ok ho (makeMapE_ok h)⟩
  · rename_i t m k x ho; exact ⟨false, fun hl => by simp [Oper.loud, ho] at hl, upd_ok hT (.inl ho) (updE_ok h)⟩
  · rename_i t m k x ho; exact ⟨false, fun hl => by simp [Oper.loud, ho] at hl, upd_ok hT (.inr ho) (updE_ok h)⟩
  · rename_i args argTypes ho
    split at h
    · rename_i s x t tx ha ht
      have e1 : args = #[s, x] := by rw [← ha]
      have e2 : argTypes = #[t, tx] := by rw [← ht]
      subst e1 e2
      exact ⟨false, fun hl => by simp [Oper.loud, ho] at hl, appendA_ok hT ho (appendR_ok h)⟩
    · exact h.elim
  · rename_i c args ts ho
    refine ⟨true, fun _ => rfl, callA_ok ho ?_⟩
    unfold callR at h
    unfold callA
    split at h
    · rename_i g caps hev
      simp only [hev]
      split at h
      · rename_i hn
        simp only [hn]
        exact h
      · exact h.elim
    · exact h.elim
  · rename_i t x ho
    refine ⟨true, fun _ => rfl, prE_ok (r := loadA T false st.objs t (st.ev x)) (fun cx β tmps w ds hfr => ?_) h⟩
    have := pureOp_ok (P := P) hT (s := false) hfr ds o
    unfold pureOp at this
    rw [ho] at this
    exact this
  · rename_i t x ix ok ho
    refine ⟨true, fun _ => rfl, prE_ok (r := lookupA T false st.objs t (st.ev x) (st.ev ix) ok) (fun cx β tmps w ds hfr => ?_) h⟩
    have := pureOp_ok (P := P) hT (s := false) hfr ds o
    unfold pureOp at this
    rw [ho] at this
    exact this
  · rename_i x ho
    refine ⟨true, fun _ => rfl, prE_ok (r := .val (coerce T o.type (st.ev x))) (fun cx β tmps w ds hfr => ?_) h⟩
    have := pureOp_ok (P := P) hT (s := false) hfr ds o
    unfold pureOp at this
    rw [ho] at this
    exact this
  · rename_i t x lo hi mx ho
    refine ⟨true, fun _ => rfl, ?_⟩
    split at h
    · rename_i i hev
      exact prE_frz [i] (fun cx β tmps w ds hfr => pureOp_ok (P := P) hT (s := false) hfr ds o) h
    · exact prE_ok (fun cx β tmps w ds hfr => pureOp_ok (P := P) hT (s := false) hfr ds o) h
  · exact h.elim
end Go.AM
end
