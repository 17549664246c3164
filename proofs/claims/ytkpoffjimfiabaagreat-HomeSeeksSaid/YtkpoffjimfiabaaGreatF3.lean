/-
  The evaluator of regions with lent calls and yields is sound; its conditions stand in the lemmas.
-/
import Derived.Test.YtkpoffjimfiabaaGreatF2b
set_option linter.unusedVariables false
set_option linter.unusedSimpArgs false
set_option linter.unusedSectionVars false
set_option linter.unnecessarySimpa false

section
namespace Go.AM
open Go
abbrev Gd := Option (Option Nat × Bool)
inductive Item where
 | op (o : Oper) (gd : Gd) (k : SK)
 | scrub
 | code (c : Code)
 | blk (id : Nat)
 | tree (ops : Array Oper) (t : SchT)
def nthO (i : Nat) : List Oper → Option Oper
 | [] => none
 | o :: r => match i with
  | 0 => some o
  | i + 1 => nthO i r
theorem nthO_eq (i : Nat) (l : List Oper) : nthO i l = l[i]? := by
 induction l generalizing i with
 | nil => simp [nthO]
 | cons o r ih => cases i with
  | zero => rfl
  | succ i => simp [nthO, ih]
def gdOf (ops : List Oper) (o : Oper) : Gd :=
 match o.guard with
 | none => none
 | some (j, want) => match nthO j ops with
  | some p => some (p.dst, want)
  | none => some (none, want)
def wantG (gd : Gd) (tmps : Array Value) : Bool :=
 match gd with
 | none => true
 | some (none, _) => false
 | some (some d, want) => (match tmps[d]? with
  | some (.bool b) => some b
  | _ => none) == some want
theorem wantG_eq (ops : Array Oper) (o : Oper) (tmps : Array Value) : Region.wanted o (yielded ops tmps) = wantG (gdOf ops.toList o) tmps := by
 unfold Region.wanted wantG gdOf
 cases o.guard with
 | none => rfl
 | some jw =>
  obtain ⟨j, want⟩ := jw
  simp only [nthO_eq, yielded, Array.getElem?_toList]
  cases ops[j]? with
  | none => simp
  | some p =>
   cases h : p.dst with
   | none => simp [h]
   | some d =>
    simp only [Option.bind_some, h]
    cases tmps[d]? with
    | none => rfl
    | some u => cases u <;> rfl
inductive GR where
 | yes | no | bad
 | split (b : Bool) (d : Nat)
def guardR (st : St) (gd : Gd) : GR :=
 match gd with
 | none => .yes
 | some (none, _) => .no
 | some (some d, want) => match getE d st.env with
  | .lit (.bool b) => match b, want with
   | true, true => .yes
   | false, false => .yes
   | _, _ => .no
  | .lit (.tuple _) => .no
  | .bool b => .split b d
  | _ => .bad
def St.setB (st : St) (d : Nat) (b : Bool) : St := { st with env := putE d (.lit (.bool b)) st.env }
theorem tmps_getD {tmps : Array Value} {d : Nat} {v : Value} (h : tmps.getD d undef = v) (hv : v ≠ undef) : tmps[d]? = some v := by
 rw [Array.getD_eq_getD_getElem?] at h
 cases hh : tmps[d]? with
 | none => rw [hh] at h; exact absurd h.symm hv
 | some u => rw [hh] at h; simpa using h
theorem FR.bool {cx β st tmps w} (h : FR cx β st tmps w) {d : Nat} {b : Bool} (he : getE d st.env = .bool b ∨ getE d st.env = .lit (.bool b)) : tmps[d]? = some (.bool b) := by
 have := h.env d
 rcases he with he | he <;> rw [he] at this
 ·exact tmps_getD (v := .bool b) (by generalize tmps.getD d undef = v at this; cases this with | pure h => cases h; rfl) (by simp [undef])
 ·exact tmps_getD (v := .bool b) (TV_lit this) (by simp [undef])
theorem FR.setB {cx β st tmps w} (h : FR cx β st tmps w) {d : Nat} {b : Bool} (he : getE d st.env = .bool b) : FR cx β (st.setB d b) tmps w :=
 h.reenv (st := st) h.size fun t => by
  by_cases ht : t = d
  ·subst ht
   rw [getE_putE_same]
   have := h.bool (.inl he)
   have e : tmps.getD t undef = .bool b := by rw [Array.getD_eq_getD_getElem?, this]; rfl
   rw [e]
   exact .pure (.lit _)
  ·rw [getE_putE_ne _ _ ht]; exact h.env t
theorem guardR_ok {cx β st tmps w} (h : FR cx β st tmps w) (gd : Gd) : (guardR st gd = .yes → wantG gd tmps = true) ∧ (guardR st gd = .no → wantG gd tmps = false) ∧ ∀ b d, guardR st gd = .split b d → getE d st.env = .bool b := by
 unfold guardR
 cases gd with
 | none => exact ⟨fun _ => rfl, fun e => (by cases e), fun b d e => by cases e⟩
 | some dw =>
  obtain ⟨d, want⟩ := dw
  cases d with
  | none => exact ⟨fun e => (by cases e), fun _ => rfl, fun b d e => by cases e⟩
  | some d =>
   simp only []
   split
   ·rename_i b hb
    have := h.bool (.inr hb)
    cases b <;> cases want <;> simp [wantG, this]
   ·rename_i a ha
    have h1 := h.env d
    rw [ha] at h1
    have h1 := TV_lit h1
    have : ∀ b, tmps[d]? ≠ some (.bool b) := fun b e => by
     rw [Array.getD_eq_getD_getElem?, e] at h1
     cases h1
    refine ⟨fun e => (by cases e), fun _ => ?_, fun b d e => by cases e⟩
    simp only [wantG]
    cases hh : tmps[d]? with
    | none => simp
    | some u => cases u <;> first | (exact absurd hh (this _)) | simp
   ·rename_i b hb
    refine ⟨fun e => (by cases e), fun e => (by cases e), fun b d e => ?_⟩
    cases e
    exact hb
   ·exact ⟨fun e => (by cases e), fun e => (by cases e), fun b d e => by cases e⟩
def semX (ro : Option Nat) (ld : Oper → Bool) (P : Program) : List Item → (Exit → Act → World → Prop) → Exit → Act → World → CellSet → Prop
 | [], Q, e, a, w, _ => Q e a w
 | .scrub :: r, Q, e, a, w, S => semX ro ld P r Q e a w S
 | .blk id :: r, Q, e, a, w, S => semX ro ld P r Q (match e with | .exit id' => if id' = id then .normal else .exit id' | e => e) a w S
 | .code c :: r, Q, e, a, w, S => match e with
  | .normal => c.wpIn (FW ro) 0 P (fun e a w => ∃ S, semX ro ld P r Q e a w S) a w
  | e => semX ro ld P r Q e a w S
 | .op o gd k :: r, Q, e, a, w, S => match e with
  | .normal => match k with
   | .eff => if wantG gd a.tmps then (noDefer o ∧ o.wpIn (FW ro) 0 P a w (fun a' w' => ∃ S', Ext S w S' w' ∧ (ld o = false → KeepL (fun _ => False) w w') ∧ semX ro ld P r Q .normal a' w' S') noQ) else semX ro ld P r Q .normal (a.put o.dst undef) w S
   | k => ∃ v, ((wantG gd a.tmps = true ∧ ∀ w', Cls k.s S w w' → (execOp a.eval o).run P w' = .ok (.value v) w') ∨ (wantG gd a.tmps = false ∧ v = undef)) ∧ semX ro ld P r Q .normal (a.put o.dst v) w S
  | e => semX ro ld P r Q e a w S
 | .tree ops t :: r, Q, e, a, w, S => match e with
  | .normal => wpTree ro ld P ops (fun a w S => semX ro ld P r Q .normal a w S) t a w S
  | e => semX ro ld P r Q e a w S
theorem semX_tree_op {ro : Option Nat} {ld : Oper → Bool} {P : Program} {ops : Array Oper} {r : List Item} {Q : Exit → Act → World → Prop} {i : Nat} {k : SK} {t : SchT} {o : Oper} (ho : ops[i]? = some o) {a : Act} {w : World} {S : CellSet}
  (h : semX ro ld P (.op o (gdOf ops.toList o) k :: .tree ops t :: r) Q .normal a w S) : semX ro ld P (.tree ops (.op i k t) :: r) Q .normal a w S := by
 have hg : wpTree ro ld P ops (fun a w S => semX ro ld P r Q .normal a w S) (.op i k t) a w S := by
  cases k with
  | eff =>
   simp only [semX] at h
   unfold wpTree qG
   simp only [ho, wantG_eq]
   split
   ·rename_i hw
    rw [if_pos hw] at h
    exact h
   ·rename_i hw
    rw [if_neg hw] at h
    exact h
  | strict =>
   simp only [semX] at h
   obtain ⟨v, hv, hr⟩ := h
   exact ⟨o, v, ho, by unfold YG; rw [wantG_eq]; exact hv, hr⟩
  | loose =>
   simp only [semX] at h
   obtain ⟨v, hv, hr⟩ := h
   exact ⟨o, v, ho, by unfold YG; rw [wantG_eq]; exact hv, hr⟩
 exact hg
def schItems (ops : List Oper) : List (Nat × SK) → List Item
 | [] => []
 | (i, k) :: r => match nthO i ops with
  | some o => .op o (gdOf ops o) k :: schItems ops r
  | none => .code (.goto 0) :: schItems ops r
theorem wpSch_of_sem {ro : Option Nat} {ld : Oper → Bool} {P : Program} {ops : Array Oper} {r : List Item} {Q : Exit → Act → World → Prop} : ∀ (sch : List (Nat × SK)) (a : Act) (w : World) (S : CellSet), (∀ x ∈ sch, (nthO x.1 ops.toList).isSome = true) →
  semX ro ld P (schItems ops.toList sch ++ r) Q .normal a w S → wpSch ro ld P ops (fun a w S => semX ro ld P r Q .normal a w S) sch a w S
 | [], a, w, S, _, h => h
 | (i, k) :: t, a, w, S, hs, h => by
  have h1 := hs (i, k) (by simp)
  obtain ⟨o, ho⟩ := Option.isSome_iff_exists.1 h1
  have ho' : ops[i]? = some o := by rw [nthO_eq, Array.getElem?_toList] at ho; exact ho
  simp only [schItems, ho, List.cons_append] at h
  have ih := fun a w S => wpSch_of_sem (ro := ro) (ld := ld) (P := P) (ops := ops) (r := r) (Q := Q) t a w S (fun x hx => hs x (by simp [hx]))
  cases k with
  | eff =>
   simp only [semX] at h
   unfold wpSch qG
   simp only [ho', wantG_eq]
   split
   ·rename_i hw
    rw [if_pos hw] at h
    exact ⟨h.1, Oper.wpIn_mono (fun a w ⟨S', h1, h2, h3⟩ => ⟨S', h1, h2, ih _ _ _ h3⟩) h.2⟩
   ·rename_i hw
    rw [if_neg hw] at h
    exact ih _ _ _ h
  | strict =>
   simp only [semX] at h
   obtain ⟨v, hv, hr⟩ := h
   exact ⟨o, v, ho', by unfold YG; rw [wantG_eq]; exact hv, ih _ _ _ hr⟩
  | loose =>
   simp only [semX] at h
   obtain ⟨v, hv, hr⟩ := h
   exact ⟨o, v, ho', by unfold YG; rw [wantG_eq]; exact hv, ih _ _ _ hr⟩
structure DrawOk (P : Program) (ld : Oper → Bool) (ops : Array Oper) (t : SchT) : Prop where
 mixed : P.follows .mixedOrders = true
 sel : Region.noSelect ops = true
 len : t.depth ≤ ops.size
 ok : schT ld ops t false (Array.replicate ops.size false) = true
def lookSch (id : Nat) : List (Nat × SchT) → Option SchT
 | [] => none
 | (j, s) :: r => match Nat.beq j id with
  | true => some s
  | false => lookSch id r
def dropTo (id : Nat) : List Item → Option (List Item)
 | [] => none
 | .blk j :: r => match Nat.beq id j with
  | true => some r
  | false => dropTo id r
 | _ :: r => dropTo id r
theorem semX_exit {ro : Option Nat} {ld : Oper → Bool} {P : Program} {Q : Exit → Act → World → Prop} {a : Act} {w : World} {S : CellSet} (id : Nat) : ∀ r : List Item,
  semX ro ld P r Q (.exit id) a w S = match dropTo id r with
   | some r' => semX ro ld P r' Q .normal a w S
   | none => Q (.exit id) a w
 | [] => rfl
 | .scrub :: r => semX_exit id r
 | .code c :: r => semX_exit id r
 | .op o g k :: r => semX_exit id r
 | .tree ops t :: r => semX_exit id r
 | .blk j :: r => by
  have h1 : semX ro ld P (.blk j :: r) Q (.exit id) a w S = semX ro ld P r Q (if id = j then .normal else .exit id) a w S := rfl
  rw [h1]
  unfold dropTo
  rcases beq_cases id j with ⟨e, rfl⟩ | ⟨e, hne⟩
  ·simp only [e, if_true]
  ·simp only [e, if_neg hne]
   exact semX_exit id r
theorem semX_other {ro : Option Nat} {ld : Oper → Bool} {P : Program} {Q : Exit → Act → World → Prop} {a : Act} {w : World} {S : CellSet} {e : Exit} (h1 : e ≠ .normal) (h2 : ∀ id, e ≠ .exit id) : ∀ r : List Item, semX ro ld P r Q e a w S = Q e a w
 | [] => rfl
 | .scrub :: r => semX_other h1 h2 r
 | .code c :: r => by
  unfold semX
  cases e <;> first | exact absurd rfl h1 | exact semX_other h1 h2 r
 | .op o g k :: r => by
  unfold semX
  cases e <;> first | exact absurd rfl h1 | exact semX_other h1 h2 r
 | .tree ops t :: r => by
  unfold semX
  cases e <;> first | exact absurd rfl h1 | exact semX_other h1 h2 r
 | .blk j :: r => by
  unfold semX
  cases e <;> first | exact absurd rfl h1 | exact absurd rfl (h2 _) | exact semX_other h1 h2 r
end Go.AM
end

section
namespace Go.AM
open Go
def ownB (β : Nat → Nat → Option Nat) : Nat → Prop := fun b => ∃ i j, β i j = some b
theorem FR.other {cx : Cx} {β : Nat → Nat → Option Nat} {st : St} {tmps : Array Value} {w w' : World} {S0' : CellSet} (h : FR cx β st tmps w) (hkeep : Keeps cx.S0 w w') (hown : ∀ i j b, β i j = some b → w'.heap[b]? = w.heap[b]?)
  (hsize : w.heap.size ≤ w'.heap.size) (hlt : ∀ b o, S0' b o → b < w'.heap.size) (hdis : ∀ b o, S0' b o → ¬ ownB β b)
  (hnew : ∀ b o v, w.cell? ⟨b, o, none⟩ = some v → ¬ cx.S0 b o → ¬ S0' b o) : FR ⟨w', S0', ownB β⟩ β st tmps w' := by
 have hk : Keeps (cx.S β st.objs) w w' := fun b o v hn hc => hkeep b o v (fun hs => hn (.inl hs)) hc
 have hs : ∀ b o v, w.cell? ⟨b, o, none⟩ = some v → ¬ cx.S β st.objs b o → ¬ (⟨w', S0', ownB β⟩ : Cx).S β st.objs b o := fun b o v hc hn hh => by
  rcases hh with hh | hh
  ·exact hnew b o v hc (fun hs => hn (.inl hs)) hh
  ·exact hn (.inr hh)
 have hshB : ∀ i b x, β i 0 = some b → w.shape? b = some x → w'.shape? b = some x := fun i b x hb hx => by rw [shape?_of_heap (hown i 0 b hb)]; exact hx
 have tv : ∀ av v, TV w (cx.S β st.objs) β st.objs av v → TV w' ((⟨w', S0', ownB β⟩ : Cx).S β st.objs) β st.objs av v := fun av v ht => by
  induction ht with
  | pure h => exact .pure (h.keeps hk hs)
  | own ho hlen hnz hn hb => exact .own ho hlen hnz hn (fun b hb' => let ⟨e1, e2, e3, e4⟩ := hb b hb'; ⟨e1, e2, e3, hshB _ b _ hb' e4⟩)
  | ref hb => exact .ref hb
  | eref ho hb hj => exact .eref ho hb hj
  | mapr hb => exact .mapr hb
  | mh ho hm => exact .mh ho (hm.step (fun _ => rfl) (fun j b x hb hx => by rw [shape?_of_heap (hown _ j b hb)]; exact hx))
  | hbox hsp hc hS hr ih => exact .hbox hsp (hk _ _ _ hS hc) (hs _ _ _ hc hS) ih
  | agg hl hr ih => exact .agg hl ih
  | tup hl hr ih => exact .tup hl ih
  | clo hl hr ih => exact .clo hl ih
 refine ⟨KeepL.refl _ _, fun b o hh => ⟨hlt b o hh, hdis b o hh⟩, h.inj, fun i j b hb => ⟨Nat.lt_of_lt_of_le (h.rng i j b hb).1 hsize, fun _ => ⟨i, j, hb⟩⟩, h.out, fun i o ho => ?_, h.size, fun t => tv _ _ (h.env t)⟩
 have hob := h.objs i o ho
 cases o with
 | dead => exact hob
 | arr p nz =>
  obtain ⟨h1, h2, h3, h4⟩ := hob
  refine ⟨h1, h2, h3, fun b hb => ?_⟩
  obtain ⟨⟨cur, h6, h7⟩, h8⟩ := h4 b hb
  have e0 := hown i 0 b hb
  refine ⟨⟨cur, by rw [e0]; exact h6, h7⟩, fun j c hc hj => ?_⟩
  obtain ⟨v, hv, hp⟩ := h8 j c hc hj
  exact ⟨v, by rw [cell?_of_heap e0]; exact hv, hp.keeps hk hs⟩
 | box cells =>
  obtain ⟨h0, b, hb, h1, h2⟩ := hob
  have e0 := hown i 0 b hb
  refine ⟨h0, b, hb, fun o => by rw [frozen?_of_heap e0]; exact h1 o, fun c hc => ?_⟩
  obtain ⟨v, hv, hp⟩ := h2 c hc
  exact ⟨v, by rw [cell?_of_heap e0]; exact hv, tv _ _ hp⟩
 | mapB kk m =>
  obtain ⟨h0, b, es, cl, hb, h1, h2⟩ := hob
  exact ⟨h0, b, es, cl, hb, by rw [hown i 0 b hb]; exact h1, h2⟩
 | mapI kk m =>
  obtain ⟨h0, b, es, cl, hb, h1, h2⟩ := hob
  exact ⟨h0, b, es, cl, hb, by rw [hown i 0 b hb]; exact h1, h2⟩
 | nest rows hole gone ai e2 am => exact NestOk.step hob (fun _ => rfl) (fun j b hb => hown i j b hb)
 | trie m T => exact TrieOk.step hob (fun _ => rfl) (fun j b hb => hown i j b hb)
abbrev Gh := Bool × Nat
abbrev Inv := Gh → World → CellSet → CellSet → Prop
def blkOf (C : CellSet) : Nat → Prop := fun b => ∃ o, C b o
def Inv.stable (J : Inv) : Prop := ∀ g w w' Cc Ci Ci', J g w Cc Ci → KeepL (blkOf Ci) w w' → (∀ b, blkOf Ci' b → b < w.heap.size → blkOf Ci b) → (∀ b, blkOf Ci' b → b < w'.heap.size) → (∀ b, blkOf Ci' b → ¬ blkOf Cc b) → J g w' Cc Ci'
structure RoundStep (w w' : World) (Cc Cc' Ci : CellSet) : Prop where
 keep : Keeps Cc w w'
 own : ∀ b, blkOf Ci b → w'.heap[b]? = w.heap[b]?
 size : w.heap.size ≤ w'.heap.size
 lt : ∀ b o, Cc' b o → b < w'.heap.size
 dis : ∀ b o, Cc' b o → ¬ blkOf Ci b
 new : ∀ b o v, w.cell? ⟨b, o, none⟩ = some v → ¬ Cc b o → ¬ Cc' b o
structure Yc where
 l : Nat
 xs : List (List AV)
def Rounds (P : Program) (y : Yc) (J : Inv) : Prop :=
 ∀ k (hk : k < y.xs.length) w Cc Ci (vs : Array Value), J (false, k) w Cc Ci → (y.xs[k]).length = vs.size → (∀ c (h : c < (y.xs[k]).length), PV w (fun b o => Cc b o ∨ blkOf Ci b) ((y.xs[k])[c]) (vs[c]!)) →
  ∃ f tmps assign body, (Instr.yield y.l vs).run P w = .ok (.round y.l f tmps assign body) w ∧
   RoundIn (FW none) 0 P y.l f tmps assign body w (fun e w' => ∃ go Cc', e = .returned (.bool go) ∧ RoundStep w w' Cc Cc' Ci ∧ J (!go, if go then k + 1 else k) w' Cc' Ci)
theorem blkOf_claim {cx : Cx} {β : Nat → Nat → Option Nat} {st : St} {tmps : Array Value} {w : World} (h : FR cx β st tmps w) (b : Nat) : ownB β b ↔ blkOf (claim β st.objs) b := by
 constructor
 ·rintro ⟨i, j, e⟩
  cases ho : st.objs[i]? with
  | none => rw [h.out i j ho] at e; cases e
  | some ob =>
   refine ⟨0, i, ob, ho, claims_mk 0 (fun e0 => ?_) e⟩
   subst e0
   have hob : ∀ j, β i j = none := h.objs i _ ho
   rw [hob j] at e; cases e
 ·rintro ⟨o, i, ob, h1, h2⟩
  exact ⟨i, _, (claims_block h2).2.choose_spec⟩
theorem FR.anchor {cx : Cx} {β : Nat → Nat → Option Nat} {st : St} {tmps : Array Value} {w : World} (hfr : FR cx β st tmps w) : FR ⟨w, cx.S0, ownB β⟩ β st tmps w :=
 ⟨KeepL.refl _ _, fun b o hs => ⟨Nat.lt_of_lt_of_le (hfr.s0 b o hs).1 hfr.keep.size, fun ⟨_, _, hb⟩ => hfr.notS0 hb o hs⟩, hfr.inj,
  fun i j b hb => ⟨(hfr.rng i j b hb).1, fun _ => ⟨i, j, hb⟩⟩, hfr.out, hfr.objs, hfr.size, hfr.env⟩
def mkB (ds : List Deferred) (b : Nat) : Prop := ∃ d ∈ ds, d.target = .collected b
def claimM (β : Nat → Nat → Option Nat) (objs : List AObj) (ds : List Deferred) : CellSet := fun b o => claim β objs b o ∨ mkB ds b
structure Mk (B : Nat) (β : Nat → Nat → Option Nat) (S0 : CellSet) (ds : List Deferred) (w : World) : Prop where
 bs : B ≤ w.heap.size
 one : ds.Pairwise fun d d' => d.target ≠ d'.target
 ok : ∀ d ∈ ds, ∃ r, d.target = .collected r ∧ B ≤ r ∧ w.heap[r]? = some (.deferred (some [])) ∧ ¬ ownB β r ∧ ¬ blkOf S0 r
theorem Mk.nil {base : Nat} {β : Nat → Nat → Option Nat} {S0 : CellSet} {w : World} (h : base ≤ w.heap.size) : Mk base β S0 [] w := ⟨h, List.Pairwise.nil, fun d hd => by cases hd⟩
theorem mkB_nil {b : Nat} : ¬ mkB [] b := fun ⟨d, hd, _⟩ => by cases hd
theorem Mk.blk {base : Nat} {β : Nat → Nat → Option Nat} {S0 : CellSet} {ds : List Deferred} {w : World} (h : Mk base β S0 ds w) {b : Nat} (hb : mkB ds b) : base ≤ b ∧ w.heap[b]? = some (.deferred (some [])) ∧ ¬ ownB β b ∧ ¬ blkOf S0 b := by
 obtain ⟨d, hd, e⟩ := hb
 obtain ⟨r, h1, h2⟩ := h.ok d hd
 rw [e] at h1
 cases h1
 exact h2
theorem lt_of_heap {w : World} {b : Nat} {o : Obj} (h : w.heap[b]? = some o) : b < w.heap.size := (Array.getElem?_eq_some_iff.1 h).1
theorem blkOf_claimM {β : Nat → Nat → Option Nat} {objs : List AObj} {ds : List Deferred} {b : Nat} : blkOf (claimM β objs ds) b ↔ blkOf (claim β objs) b ∨ mkB ds b := by
 constructor
 ·rintro ⟨o, h | h⟩
  ·exact .inl ⟨o, h⟩
  ·exact .inr h
 ·rintro (⟨o, h⟩ | h)
  ·exact ⟨o, .inl h⟩
  ·exact ⟨0, .inr h⟩
theorem Inv.walk {J : Inv} (hJ : J.stable) {g : Gh} {base : Nat} {cx : Cx} {β β' : Nat → Nat → Option Nat} {st st' : St} {tmps tmps' : Array Value} {w w' : World} {ds : List Deferred} (hfr : FR cx β st tmps w) (hm : Mk base β cx.S0 ds w)
  (h : J g w cx.S0 (claimM β st.objs ds)) (h' : FR ⟨w, cx.S0, ownB β⟩ β' st' tmps' w') : J g w' cx.S0 (claimM β' st'.objs ds) ∧ Mk base β' cx.S0 ds w' := by
 have hown : ∀ b, ownB β' b → b < w.heap.size → ownB β b := fun b ⟨i, j, e⟩ hb => (h'.rng i j b e).2 hb
 have hblk : ∀ b, mkB ds b → w'.heap[b]? = w.heap[b]? := fun b hb => by
  obtain ⟨_, h2, h3, _⟩ := hm.blk hb
  exact h'.keep.block b (lt_of_heap h2) h3
 have hm' : Mk base β' cx.S0 ds w' := by
  refine ⟨Nat.le_trans hm.bs h'.keep.size, hm.one, fun d hd => ?_⟩
  obtain ⟨r, h1, h2, h3, h4, h5⟩ := hm.ok d hd
  refine ⟨r, h1, h2, by rw [hblk r ⟨d, hd, h1⟩]; exact h3, fun ho => h4 (hown r ho (lt_of_heap h3)), h5⟩
 refine ⟨hJ g w w' cx.S0 _ _ h ⟨h'.keep.os, h'.keep.tape, h'.keep.output, h'.keep.drawn, h'.keep.size, fun k hk hn => h'.keep.block k hk (fun ho => hn (blkOf_claimM.2 (.inl ((blkOf_claim hfr k).1 ho))))⟩ (fun b hb hlt => ?_) (fun b hb => ?_) (fun b hb hc => ?_), hm'⟩
 ·rw [blkOf_claimM] at hb ⊢
  rcases hb with hb | hb
  ·exact .inl ((blkOf_claim hfr b).1 (hown b ((blkOf_claim h' b).2 hb) hlt))
  ·exact .inr hb
 ·rw [blkOf_claimM] at hb
  rcases hb with hb | hb
  ·obtain ⟨i, j, e⟩ := (blkOf_claim h' b).2 hb
   exact (h'.rng i j b e).1
  ·exact lt_of_heap (hm'.blk hb).2.1
 ·rw [blkOf_claimM] at hb
  rcases hb with hb | hb
  ·obtain ⟨i, j, e⟩ := (blkOf_claim h' b).2 hb
   obtain ⟨o, ho⟩ := hc
   exact h'.notS0 e o ho
  ·exact (hm'.blk hb).2.2.2 hc
theorem Oper.wpIn_put {ro : Option Nat} {P : Program} {o : Oper} {a : Act} {w : World} {K : Act → World → Prop} {Q : Exit → Act → World → Prop} (h : o.wpIn (FW ro) 0 P a w K Q) :
  o.wpIn (FW ro) 0 P a w (fun a' w' => K a' w' ∧ ∃ v, a'.tmps = (a.put o.dst v).tmps) Q := by
 unfold Oper.wpIn at *
 refine ⟨h.1, ?_⟩
 have hh := h.2
 generalize (o.semAt (FW ro).round a.eval).run P w = r at *
 have pd : ∀ (ds : List Deferred) v, (({ a with defers := ds } : Act).put o.dst v).tmps = (a.put o.dst v).tmps := fun ds v => by cases o.dst <;> rfl
 cases r with
 | ok n w' =>
  cases n <;> simp only [Oper.uponIn] at hh ⊢ <;>
   first
    | exact ⟨hh, _, rfl⟩
    | exact ⟨hh, _, pd _ _⟩
    | exact ⟨hh.1, CallsIn.mono hh.2 (fun e w'' he => by
      cases e with
      | returned v => exact ⟨he, _, rfl⟩
      | panicked c => exact he
      | outgrown => exact he)⟩
    | exact ⟨hh.1, RowsIn.mono hh.2 (fun _ _ he => ⟨he, _, rfl⟩)⟩
    | exact ⟨hh.1, RoundIn.mono hh.2 (fun e w'' he => by
      cases e with
      | returned v => exact ⟨he, _, rfl⟩
      | panicked c => exact he
      | outgrown => exact he)⟩
 | halt x w' => cases x <;> simp only [Oper.uponIn] at hh ⊢ <;> exact hh
abbrev Pins := List (Nat × Value)
def Pins.ks (pn : Pins) : List Nat := pn.map (·.1)
def Pin (pn : Pins) (tmps : Array Value) : Prop := ∀ tv ∈ pn, tmps[tv.1]? = some tv.2
theorem elemN_mem {x : Nat} : ∀ {l : List Nat}, x ∈ l → elemN x l = true
 | a :: r, h => by
  unfold elemN
  rcases beq_cases a x with ⟨e, _⟩ | ⟨e, hne⟩
  ·rw [e]
  ·rw [e]
   rcases List.mem_cons.1 h with rfl | h
   ·exact absurd rfl hne
   ·exact elemN_mem h
theorem Pin.put {pn : Pins} {a : Act} {d : Option Tmp} {v : Value} (h : Pin pn a.tmps) (hd : inO d pn.ks = false) : Pin pn (a.put d v).tmps := by
 cases d with
 | none => exact h
 | some x =>
  intro tv ht
  have hne : x ≠ tv.1 := fun e => by
   have : elemN x pn.ks = true := elemN_mem (List.mem_map.2 ⟨tv, ht, e.symm⟩)
   simp [inO, this] at hd
  simp only [Act.put]
  rw [Array.getElem?_setIfInBounds_ne hne]
  exact h tv ht
def opW (ks : List Nat) (o : Oper) : Bool := !(inO o.dst ks)
def codeW (ks : List Nat) (nr : Bool) : Code → Bool
 | .region _ ops _ => ops.toList.all (opW ks)
 | .seq a b => codeW ks nr a && codeW ks nr b
 | .cond _ a b => codeW ks nr a && codeW ks nr b
 | .block _ c => codeW ks nr c
 | .loop c => codeW ks nr c
 | .scope c => codeW ks nr c
 | .rangeFunc _ _ _ _ => !nr
 | _ => true
def itemW (ks : List Nat) (nr : Bool) : Item → Bool
 | .op o _ _ => opW ks o
 | .code c => codeW ks nr c
 | .tree ops _ => ops.toList.all (opW ks)
 | _ => true
end Go.AM
end

section
namespace Go.AM
open Go
structure VCfg where
 c : Cfg
 sch : List (Nat × SchT)
 lg : List Nat := []
 yd : List Nat := []
 deriving Inhabited
def ldY (yd : List Nat) (o : Oper) : Bool :=
 match Oper.loud o with
 | true => true
 | false => match o.op with
  | .call { callee := .value _, .. } => (match o.dst with
   | none => true
   | some d => elemN d yd)
  | _ => false
theorem ldY_loud {yd : List Nat} {o : Oper} (h : ldY yd o = false) : Oper.loud o = false := by
 unfold ldY at h
 cases hl : Oper.loud o with
 | true => rw [hl] at h; cases h
 | false => rfl
def isEff (cfg : Cfg) (o : Oper) : Bool :=
 match o.op with
 | .alloc _ | .box _ _ | .buildSlice .. | .makeSlice .. | .store .. | .mapUpdate .. | .insert .. | .makeMap .. => true
 | .assign (.const (.slice none 0 0)) => inO o.dst cfg.ov
 | .binOp .eql .. => inO o.dst cfg.ab
 | .slice .. => match inO o.dst cfg.mb with
  | true => true
  | false => inO o.dst cfg.ab
 | .call c => match c.callee with
  | .builtin .append => true
  | .builtin .clear => true
  | .value _ => true
  | _ => false
 | _ => false
def lexSch (cfg : Cfg) (i : Nat) : List Oper → List (Nat × SK)
 | [] => []
 | o :: r => (i, match isEff cfg o with | true => .eff | false => .loose) :: lexSch cfg (i + 1) r
def lexItems (cfg : Cfg) (ops : List Oper) : List Oper → List Item
 | [] => []
 | o :: r => .op o (gdOf ops o) (match isEff cfg o with | true => .eff | false => .loose) :: lexItems cfg ops r
theorem nthO_len (l : List Oper) (o : Oper) (r : List Oper) : nthO l.length (l ++ o :: r) = some o := by
 rw [nthO_eq]; simp
theorem lexItems_eq (cfg : Cfg) (ops : List Oper) : ∀ (r l : List Oper), l ++ r = ops → schItems ops (lexSch cfg l.length r) = lexItems cfg ops r
 | [], l, _ => rfl
 | o :: r, l, h => by
  have h1 : nthO l.length ops = some o := by rw [← h]; exact nthO_len l o r
  have ih := lexItems_eq cfg ops r (l ++ [o]) (by rw [← h]; simp)
  rw [List.length_append] at ih
  simp only [lexSch, schItems, h1, lexItems]
  rw [← ih]
  rfl
theorem lexSch_fst (cfg : Cfg) : ∀ (r : List Oper) (i : Nat), (lexSch cfg i r).map (·.1) = List.range' i r.length
 | [], _ => rfl
 | o :: r, i => by simp [lexSch, lexSch_fst cfg r, List.range'_succ]
inductive StepR where
 | fail
 | st (s : St)
 | ob (g : Prop) (s : St)
 | split (b : Bool) (d : Nat)
 | call (f : FuncId) (args : List AV) (s0 s : St)
 | new (g : Prop) (F : Nat → Prop) (s : Nat → St)
 | lcall (f : FuncId) (args : List AV)
 | yield (v : Value) (args : List AV) (s : St)
def effS : EffR → StepR
 | .fail => .fail
 | .st s => .st s
 | .ob g s => .ob g s
 | .call g a s0 s => .call g a s0 s
 | .new g F s => .new g F s
def prS (st : St) (d : Option Tmp) : PR → StepR
 | .no => .fail
 | .val v => .st (st.put d v)
 | .gval g v => .ob g (st.put d v)
def callC (o : Oper) : Option (Operand × List Operand) :=
 match o.op with
 | .call { callee := .value c, args, .. } => some (c, args.toList)
 | _ => none
def litS (st : St) (args : List Operand) : Value → StepR
 | .func (.func f) first cap => match cap.toList, (first.toList.map leafC ++ args.map (st.freezeL (hsOf st args)).ev).all (AV.noH 3) with
  | [], true => .call f (first.toList.map leafC ++ args.map (st.freezeL (hsOf st args)).ev) st (st.freezeL (hsOf st args))
  | _, _ => .fail
 | v => .yield v (args.map (st.freezeL (hsOf st args)).ev) (st.freezeL (hsOf st args))
def callS (cfg : VCfg) (st : St) (c : Operand) (args : List Operand) : StepR :=
 match st.ev c with
 | .lit v => litS st args v
 | .clo g caps => match elemN g cfg.lg with
  | true => .lcall g (args.map st.ev ++ caps)
  | false => effS (callR st c args)
 | _ => .fail
def effK (T : Tys) (cfg : VCfg) (o : Oper) (st : St) : Option (Operand × List Operand) → StepR
 | some (c, args) => callS cfg st c args
 | none => effS (effR T cfg.c st o)
def stepK (T : Tys) (cfg : VCfg) (o : Oper) (k : SK) (st : St) : StepR :=
 match k with
 | .eff => effK T cfg o st (callC o)
 | k => prS st o.dst (pureOp T k.s st o)
def stepG (T : Tys) (cfg : VCfg) (o : Oper) (k : SK) (st : St) : GR → StepR
 | .yes => stepK T cfg o k st
 | .no => .st (st.put o.dst (.lit undef))
 | .bad => .fail
 | .split b d => .split b d
def stepO (T : Tys) (cfg : VCfg) (o : Oper) (gd : Gd) (k : SK) (st : St) : StepR := stepG T cfg o k st (guardR st gd)
def enumE (i : Nat) : List AV → List (Nat × AV)
 | [] => []
 | x :: r => (i, x) :: enumE (i + 1) r
theorem getE_enumE : ∀ (l : List AV) (i t : Nat), (∃ c, ∃ h : c < l.length, t = i + c ∧ getE t (enumE i l) = l[c]) ∨ getE t (enumE i l) = .junk
 | [], i, t => .inr rfl
 | x :: r, i, t => by
  unfold enumE getE
  rcases beq_cases i t with ⟨e, rfl⟩ | ⟨e, _⟩
  ·rw [e]; exact .inl ⟨0, by simp, rfl, rfl⟩
  ·rw [e]
   rcases getE_enumE r (i + 1) t with ⟨c, h, h1, h2⟩ | h
   ·exact .inl ⟨c + 1, by simpa using h, by omega, by simpa using h2⟩
   ·exact .inr h
theorem getE_enum_lt : ∀ (l : List AV) (i c : Nat) (h : c < l.length), getE (i + c) (enumE i l) = l[c]
 | x :: r, i, 0, _ => by
  unfold enumE getE
  rcases beq_cases i (i + 0) with ⟨e, _⟩ | ⟨_, e⟩
  ·rw [e]; rfl
  ·exact absurd rfl e
 | x :: r, i, c + 1, h => by
  unfold enumE getE
  rcases beq_cases i (i + (c + 1)) with ⟨_, e⟩ | ⟨e, _⟩
  ·omega
  ·rw [e]
   have := getE_enum_lt r (i + 1) c (by simpa using h)
   rw [show i + (c + 1) = i + 1 + c by omega]
   simpa using this
abbrev QG := Gh → AV → List AV → List AObj → Prop
def GRet (J : Inv) (m : Nat) (vs : Array Value) (Q : QG) : Ending → World → Prop
 | .returned v, w' => ∃ g' r as os S0' β', Q g' r as os ∧ as.length = m ∧ FR ⟨w', S0', ownB β'⟩ β' ⟨m + 1, enumE 0 (r :: as), os⟩ (#[v] ++ vs) w' ∧ J g' w' S0' (claim β' os)
 | _, _ => False
structure GCall (P : Program) (y : Yc) (f : FuncId) (g : Gh) (args : List AV) (objs : List AObj) (Q : QG) : Prop where
 enters : Enters P f
 calls : ∀ J : Inv, J.stable → Rounds P y J → ∀ w S0 β (vs : Array Value), FR ⟨w, S0, ownB β⟩ β ⟨args.length, enumE 0 args, objs⟩ vs w → J g w S0 (claim β objs) → CallsIn (FW none) 0 P f vs w (GRet J args.length vs Q)
def selOf (st : St) (avs : List AV) : List Nat := reach3 st.objs (avs.flatMap (AV.hs 3))
def pairsA : Nat → AV → AV → List (Bool × Nat × Nat)
 | d, a, b => match a, b with
  | .own i, .own j => [(true, i, j)]
  | .ref i _, .ref j _ => [(false, i, j)]
  | .mapr i, .mapr j => [(false, i, j)]
  | .mh i (.tn _), .mh j (.tn _) => [(true, i, j)]
  | .clo _ cs, .clo _ cs' => match d with
   | 0 => []
   | d + 1 => (cs.zip cs').flatMap fun p => pairsA d p.1 p.2
  | .agg cs, .agg cs' => match d with
   | 0 => []
   | d + 1 => (cs.zip cs').flatMap fun p => pairsA d p.1 p.2
  | .tup cs, .tup cs' => match d with
   | 0 => []
   | d + 1 => (cs.zip cs').flatMap fun p => pairsA d p.1 p.2
  | .hbox x, .hbox x' => match d with
   | 0 => []
   | d + 1 => pairsA d x x'
  | _, _ => []
def pairsL (l l' : List AV) : List (Bool × Nat × Nat) := (l.zip l').flatMap fun p => pairsA 3 p.1 p.2
def lookP (i : Nat) : List (Bool × Nat × Nat) → Option Nat
 | [] => none
 | (_, k, j) :: r => match Nat.beq k i with
  | true => some j
  | false => lookP i r
def lookO (i : Nat) : List (Bool × Nat × Nat) → Option Nat
 | [] => none
 | (o, k, j) :: r => match o, Nat.beq k i with
  | true, true => some j
  | _, _ => lookO i r
def szOk (objs : List AObj) (i : Nat) : Bool :=
 match objs[i]? with
 | some (.arr p _) => Nat.ble 1 p.sz
 | _ => false
def isTrie (objs : List AObj) (i : Nat) : Bool :=
 match objs[i]? with
 | some (.trie _ _) => true
 | _ => false
theorem isTrie_iff {objs : List AObj} {i : Nat} (h : isTrie objs i = true) : ∃ m T, objs[i]? = some (.trie m T) := by
 unfold isTrie at h
 split at h
 ·rename_i m T ho; exact ⟨m, T, ho⟩
 ·cases h
def fstTrie (j : Nat) : List AObj → Option Nat
 | [] => none
 | .trie _ _ :: _ => some j
 | _ :: r => fstTrie (j + 1) r
theorem fstTrie_ok : ∀ {l : List AObj} {j n : Nat}, fstTrie j l = some n → ∃ k, n = j + k ∧ ∃ m T, l[k]? = some (.trie m T)
 | o :: r, j, n, h => by
  have go : fstTrie (j + 1) r = some n → ∃ k, n = j + k ∧ ∃ m T, (o :: r)[k]? = some (.trie m T) := fun h => by
   obtain ⟨k, rfl, m, T, h2⟩ := fstTrie_ok h
   exact ⟨k + 1, by omega, m, T, by simpa using h2⟩
  cases o with
  | trie m T => simp [fstTrie] at h; exact ⟨0, by omega, m, T, rfl⟩
  | _ => exact go h
def trieP (objs os : List AObj) : List Nat → List (Bool × Nat × Nat)
 | [] => []
 | i :: r => match isTrie objs i, fstTrie 0 os with
  | true, some j => (true, i, j) :: trieP objs os r
  | _, _ => trieP objs os r
theorem trieP_ok {objs os : List AObj} : ∀ {l : List Nat} {p : Bool × Nat × Nat}, p ∈ trieP objs os l → ∃ i j, p = (true, i, j) ∧ (∃ m T, objs[i]? = some (.trie m T)) ∧ ∃ m T, os[j]? = some (.trie m T)
 | i :: r, p, h => by
  unfold trieP at h
  split at h
  ·rename_i j h1 h2
   rcases List.mem_cons.1 h with rfl | h
   ·obtain ⟨k, rfl, hk⟩ := fstTrie_ok h2
    exact ⟨i, _, rfl, isTrie_iff h1, by simpa using hk⟩
   ·exact trieP_ok h
  ·exact trieP_ok h
def renJ (objs : List AObj) (sel : List Nat) (ps : List (Bool × Nat × Nat)) (n : Nat) : AV → AV
 | .own i => match elemN i sel with
  | false => .own i
  | true => match lookO i ps, szOk objs i with
   | some j, true => .own (n + j)
   | _, _ => .junk
 | .ref i o => match elemN i sel with
  | false => .ref i o
  | true => match lookP i ps, isTrie objs i with
   | some j, false => .ref (n + j) o
   | _, _ => .junk
 | .mapr i => match elemN i sel with
  | false => .mapr i
  | true => match lookP i ps, isTrie objs i with
   | some j, false => .mapr (n + j)
   | _, _ => .junk
 | .eref i j c => match elemN i sel with
  | false => .eref i j c
  | true => .junk
 | .mh i x => match elemN i sel with
  | false => .mh i x
  | true => match isTrie objs i, lookO i ps with
   | true, some j => .mh (n + j) x
   | _, _ => .junk
 | av => av
def deadL (objs : List AObj) (sel : List Nat) : List AObj := sel.foldl (fun l i => l.set i .dead) objs
def joinL (st : St) (sel : List Nat) (avs : List AV) (d : Option Tmp) (r : AV) (as : List AV) (os : List AObj) : St :=
 ({ n := st.n, env := mapE (AV.mapH (renJ st.objs sel (pairsL avs as ++ trieP st.objs os sel) st.objs.length) 3) st.env,
    objs := deadL (st.objs.map (AObj.mapH (renJ st.objs sel (pairsL avs as ++ trieP st.objs os sel) st.objs.length))) sel ++ os.map (AObj.mapH (shiftL st.objs.length)) } : St).put d (r.mapH (shiftL st.objs.length) 3)
def QV (J : Inv) (pn : Pins) (B : Nat) (Q : Gh → Exit → St → Prop) : Exit → Act → World → Prop := fun e a w =>
 ∃ cx β g st, Q g e st ∧ FR cx β st a.tmps w ∧ Mk B β cx.S0 a.defers w ∧ J g w cx.S0 (claimM β st.objs a.defers) ∧ Pin pn a.tmps
def AWP (P : Program) (y : Yc) (g : Gh) (c : Code) (st : St) (Q : Gh → Exit → St → Prop) : Prop :=
 ∀ (J : Inv), J.stable → Rounds P y J → ∀ (pn : Pins) (nr : Bool), codeW pn.ks nr c = true → ∀ ro, (nr = false → ro = none) → ∀ B cx β tmps w ds, FR cx β st tmps w → Mk B β cx.S0 ds w → J g w cx.S0 (claimM β st.objs ds) → Pin pn tmps →
  c.wpIn (FW ro) 0 P (QV J pn B Q) { tmps, defers := ds } w
abbrev VC := Gh → List Item → St → (Gh → Exit → St → Prop) → Prop
def aftV (V : VC) (r : List Item) (Q : Gh → Exit → St → Prop) : Gh → Exit → St → Prop := fun g e st =>
 match e with
 | .normal => V g r st Q
 | .exit id => match dropTo id r with
  | some r' => V g r' st Q
  | none => Q g (.exit id) st
 | e => Q g e st
def CallW (P : Program) (f : FuncId) (args : List AV) (F : AV → List AObj → Prop) : Prop := ∃ Q, ACall P f args Q ∧ ∀ r objs, Q r objs → F r objs
def callF (V : VC) (g : Gh) (r : List Item) (d : Option Tmp) (s0 s : St) (Q : Gh → Exit → St → Prop) : AV → List AObj → Prop := fun rv objs => V g r (joinC s0 s d rv objs) Q
def LCallW (P : Program) (y : Yc) (f : FuncId) (g : Gh) (args : List AV) (objs : List AObj) (F : QG) : Prop := ∃ Qc, GCall P y f g args objs Qc ∧ ∀ g' r as os, Qc g' r as os → F g' r as os
def lcallF (V : VC) (r : List Item) (d : Option Tmp) (st : St) (sel : List Nat) (avs : List AV) (Q : Gh → Exit → St → Prop) : QG := fun g' rv as os => V g' r (joinL st sel avs d rv as os) Q
def renA (sel : List Nat) (a : AV) : AV := a.mapH (renL (idxF · sel)) 3
def vcR (P : Program) (cfg : VCfg) (y : Yc) (V : VC) (g : Gh) (o : Oper) (gd : Gd) (k : SK) (r : List Item) (st : St) (Q : Gh → Exit → St → Prop) : StepR → Prop
 | .fail => False
 | .st s => V g r s Q
 | .ob p s => p ∧ V g r s Q
 | .split b d => (b = true → V g (.op o gd k :: r) (st.setB d true) Q) ∧ (b = false → V g (.op o gd k :: r) (st.setB d false) Q)
 | .call f args s0 s => CallW P f args (callF V g r o.dst s0 s Q)
 | .new p F s => p ∧ ∀ b, F b → V g r (s b) Q
 | .lcall f args => ldY cfg.yd o = true ∧ LCallW P y f g (args.map (renA (selOf st args))) (selO st.objs (selOf st args)) (lcallF V r o.dst st (selOf st args) args Q)
 | .yield v args s => v = .func (.yield y.l) #[] #[] ∧ ldY cfg.yd o = true ∧ g.1 = false ∧ args.all (AV.noH 3) = true ∧ (∃ h : g.2 < y.xs.length, args = y.xs[g.2]) ∧
   V (false, g.2 + 1) r (s.put o.dst (.bool true)) Q ∧ V (true, g.2) r (s.put o.dst (.bool false)) Q
def condI (V : VC) (g : Gh) (a b : Code) (r : List Item) (st : St) (Q : Gh → Exit → St → Prop) : AV → Prop
 | .lit (.bool true) => V g (.code a :: r) st Q
 | .lit (.bool false) => V g (.code b :: r) st Q
 | .bool v => (v = true → V g (.code a :: r) st Q) ∧ (v = false → V g (.code b :: r) st Q)
 | _ => False
def drawB (P : Program) (ld : Oper → Bool) (ops : Array Oper) (t : SchT) : Bool :=
 P.follows .mixedOrders && Region.noSelect ops && Nat.ble t.depth ops.size && schT ld ops t false (Array.replicate ops.size false)
theorem drawB_ok {P : Program} {ld : Oper → Bool} {ops : Array Oper} {t : SchT} (h : drawB P ld ops t = true) : DrawOk P ld ops t := by
 unfold drawB at h
 simp only [Bool.and_eq_true] at h
 exact ⟨h.1.1.1, h.1.1.2, Nat.le_of_ble_eq_true h.1.2, h.2⟩
def drawC (P : Program) (cfg : VCfg) (ops : Array Oper) : Option SchT → Bool
 | some sch => drawB P (ldY cfg.yd) ops sch
 | none => false
def codeD (P : Program) (cfg : VCfg) : Code → Bool
 | .region id ops d => match d with
  | true => drawC P cfg ops (lookSch id cfg.sch)
  | false => true
 | .seq a b => codeD P cfg a && codeD P cfg b
 | .cond _ a b => codeD P cfg a && codeD P cfg b
 | .block _ c => codeD P cfg c
 | .loop c => codeD P cfg c
 | .scope c => codeD P cfg c
 | .rangeFunc _ _ a b => codeD P cfg a && codeD P cfg b
 | _ => true
def itemD (P : Program) (cfg : VCfg) : Item → Bool
 | .code c => codeD P cfg c
 | _ => true
def drawI (V : VC) (g : Gh) (ops : Array Oper) (r : List Item) (st : St) (Q : Gh → Exit → St → Prop) : Option SchT → Prop
 | some t => V g (.tree ops t :: .scrub :: r) st Q
 | none => False
def opI (V : VC) (g : Gh) (ops : Array Oper) (k : SK) (t : SchT) (r : List Item) (st : St) (Q : Gh → Exit → St → Prop) : Option Oper → Prop
 | some o => V g (.op o (gdOf ops.toList o) k :: .tree ops t :: r) st Q
 | none => False
def treeI (V : VC) (g : Gh) (ops : Array Oper) (r : List Item) (st : St) (Q : Gh → Exit → St → Prop) : SchT → Prop
 | .nil => V g r st Q
 | .op i k t => opI V g ops k t r st Q (nthO i ops.toList)
 | .alt a b => V g (.tree ops a :: r) st Q ∧ V g (.tree ops b :: r) st Q
def exitI (V : VC) (g : Gh) (id : Nat) (st : St) (Q : Gh → Exit → St → Prop) : Option (List Item) → Prop
 | some r' => V g r' st Q
 | none => Q g (.exit id) st
def vc (P : Program) (T : Tys) (cfg : VCfg) (y : Yc) : Nat → VC
 | 0, _, _, _, _ => False
 | n + 1, g, its, st, Q => match its with
  | [] => Q g .normal st
  | .scrub :: r => vc P T cfg y n g r { st with env := filtE (fun x => elemN x cfg.c.kp) st.env } Q
  | .blk _ :: r => vc P T cfg y n g r st Q
  | .tree ops t :: r => treeI (vc P T cfg y n) g ops r st Q t
  | .op o gd k :: r => vcR P cfg y (vc P T cfg y n) g o gd k r st Q (stepO T cfg o gd k st)
  | .code c :: r => match c with
   | .skip => vc P T cfg y n g r st Q
   | .label _ => vc P T cfg y n g r st Q
   | .seq a b => vc P T cfg y n g (.code a :: .code b :: r) st Q
   | .block id c => vc P T cfg y n g (.code c :: .blk id :: r) st Q
   | .exit id => exitI (vc P T cfg y n) g id st Q (dropTo id r)
   | .ret => Q g .ret st
   | .loop c => AWP P y g (.loop c) st (aftV (vc P T cfg y n) r Q)
   | .rangeFunc f ps a b => AWP P y g (.rangeFunc f ps a b) st (aftV (vc P T cfg y n) r Q)
   | .cond c a b => condI (vc P T cfg y n) g a b r st Q (st.ev c)
   | .region id ops draw => match draw with
    | false => vc P T cfg y n g (lexItems cfg.c ops.toList ops.toList ++ .scrub :: r) st Q
    | true => drawI (vc P T cfg y n) g ops r st Q (lookSch id cfg.sch)
   | _ => False
end Go.AM
end

section
namespace Go.AM
open Go
def keptC (β : Nat → Nat → Option Nat) (objs : List AObj) (sel : List Nat) : CellSet := fun b o => ∃ (i : Nat) (ob : AObj), i ∉ sel ∧ objs[i]? = some ob ∧ ob.claims (β i) b o
def lendS (S0 : CellSet) (β : Nat → Nat → Option Nat) (objs : List AObj) (sel : List Nat) : CellSet := fun b o => S0 b o ∨ keptC β objs sel b o
theorem selO_get {objs : List AObj} {sel : List Nat} {k : Nat} {ob : AObj} (ho : (selO objs sel)[k]? = some ob) : ∃ i, sel[k]? = some i ∧ ob = (objs.getD i .dead).mapH (renL (idxF · sel)) := by
 simp only [selO, List.getElem?_map, Option.map_eq_some_iff] at ho
 obtain ⟨i, hi, rfl⟩ := ho
 exact ⟨i, hi, rfl⟩
theorem selB_get {β : Nat → Nat → Option Nat} {sel : List Nat} {k i j : Nat} (hk : sel[k]? = some i) : selB β sel k j = β i j := by simp [selB, hk]
theorem selB_some {β : Nat → Nat → Option Nat} {sel : List Nat} {k j b : Nat} (h : selB β sel k j = some b) : ∃ i, sel[k]? = some i ∧ β i j = some b := by
 cases hk : sel[k]? with
 | none => simp [selB, hk] at h
 | some i => exact ⟨i, rfl, by rw [selB_get hk] at h; exact h⟩
theorem FR.lend {cx β st tmps w} (h : FR cx β st tmps w) (sel : List Nat) (hnd : sel.Nodup) {avs : List AV} {vs : Array Value} (hl : avs.length = vs.size)
  (hv : ∀ c (h : c < avs.length), TV w (cx.S β st.objs) β st.objs (avs[c]) (vs[c]!)) :
  FR ⟨w, lendS cx.S0 β st.objs sel, ownB (selB β sel)⟩ (selB β sel) ⟨(avs.map (renA sel)).length, enumE 0 (avs.map (renA sel)), selO st.objs sel⟩ vs w := by
 have h1 := (h.select sel hnd)
 have hS : ∀ b o, (⟨w, lendS cx.S0 β st.objs sel, ownB (selB β sel)⟩ : Cx).S (selB β sel) (selO st.objs sel) b o → cx.S β st.objs b o := fun b o hs => by
  rcases hs with (hs | ⟨i, ob, _, h2, h3⟩) | ⟨k, ob, h1, h2⟩
  ·exact .inl hs
  ·exact .inr ⟨i, ob, h2, h3⟩
  ·obtain ⟨i, hi, rfl⟩ := selO_get h1
   obtain ⟨h3, j4, h4⟩ := claims_block h2
   rw [selB_get hi] at h4
   cases hg : st.objs[i]? with
   | none => rw [h.out i _ hg] at h4; cases h4
   | some o1 =>
    refine .inr ⟨i, o1, hg, claims_mk o (fun e => h3 ?_) h4⟩
    rw [List.getD_eq_getElem?_getD, hg, e]; rfl
 have hs' : ∀ b o v, w.cell? ⟨b, o, none⟩ = some v → ¬ cx.S β st.objs b o → ¬ (⟨w, lendS cx.S0 β st.objs sel, ownB (selB β sel)⟩ : Cx).S (selB β sel) (selO st.objs sel) b o := fun b o _ _ hn hh => hn (hS b o hh)
 have hp : ∀ av v, PV w (cx.S β st.objs) av v → PV w ((⟨w, lendS cx.S0 β st.objs sel, ownB (selB β sel)⟩ : Cx).S (selB β sel) (selO st.objs sel)) av v := fun av v hv => hv.keeps (Keeps.refl _ _) hs'
 have hf : ∀ av v, av.isH = true → TV w (cx.S β st.objs) β st.objs av v → TV w ((⟨w, lendS cx.S0 β st.objs sel, ownB (selB β sel)⟩ : Cx).S (selB β sel) (selO st.objs sel)) (selB β sel) (selO st.objs sel) (renL (idxF · sel) av) v := fun av v hh ht => by
  refine TV.ren hh ht (fun k i o e ho hb => ?_) (fun k i j e => selB_get (idxF_some e))
  have := idxF_some e
  simp only [selO, List.getElem?_map, this, Option.map_some, List.getD_eq_getElem?_getD, ho, Option.getD_some]
  cases o <;> first | exact absurd rfl (hb _) | rfl
 refine ⟨KeepL.refl _ _, fun b o hs => ?_, h1.inj, fun k j b hb => ⟨(h1.rng k j b hb).1, fun _ => ⟨k, j, hb⟩⟩, h1.out, fun k ob ho => ?_, by simp [hl], fun t => ?_⟩
 ·have hne : ∀ k j, selB β sel k j = some b → False := fun k j hb => by
   obtain ⟨i, hi, hb⟩ := selB_some hb
   rcases hs with hs | ⟨i', ob, hi', h2, h3⟩
   ·exact h.notS0 hb o hs
   ·obtain ⟨rfl, _⟩ := h.inj _ _ _ _ _ hb (claims_block h3).2.choose_spec
    exact hi' (List.mem_of_getElem? hi)
  refine ⟨?_, fun ⟨k, j, hb⟩ => hne k j hb⟩
  rcases hs with hs | ⟨i', ob, hi', h2, h3⟩
  ·exact Nat.lt_of_lt_of_le (h.s0 b o hs).1 h.keep.size
  ·exact (h.rng _ _ _ (claims_block h3).2.choose_spec).1
 ·obtain ⟨i, hi, rfl⟩ := selO_get ho
  cases hg : st.objs[i]? with
  | none =>
   rw [List.getD_eq_getElem?_getD, hg]
   exact fun j => by rw [selB_get hi]; exact h.out i j hg
  | some o1 =>
   rw [List.getD_eq_getElem?_getD, hg]
   simp only [Option.getD_some]
   exact ObjOk.mapHc (fr := false) (.inr hs') (fun e => by cases e) (h.objs i o1 hg) hf (fun j => selB_get hi)
 ·rcases getE_enumE (avs.map (renA sel)) 0 t with ⟨c, hc, h1, h2⟩ | h2
  ·rw [h2]
   have h1 : t = c := by omega
   subst h1
   have hc' : t < avs.length := by simpa using hc
   have e1 : vs.getD t undef = vs[t]! := by rw [getElem!_pos vs t (by omega)]; simp [Array.getD, show t < vs.size by omega]
   rw [e1]
   simp only [List.getElem_map]
   exact TV.mapH hf hp 3 _ _ (hv t hc')
  ·rw [h2]; exact .pure (.junk _)
def PairOk (w w' : World) (S S' : CellSet) (β β' : Nat → Nat → Option Nat) (objs os : List AObj) : Bool × Nat × Nat → Prop
 | (true, i, j) => (∃ v, TV w S β objs (.own i) v ∧ TV w' S' β' os (.own j) v) ∨ ((∃ m T, objs[i]? = some (.trie m T)) ∧ ∃ m T, os[j]? = some (.trie m T))
 | (false, i, j) => ∃ b, β i 0 = some b ∧ β' j 0 = some b
theorem tn_trie {w : World} {S : CellSet} {β : Nat → Nat → Option Nat} {objs : List AObj} {i : Nat} {o : Option Nat} {v : Value} (h : TV w S β objs (.mh i (.tn o)) v) : ∃ m T, objs[i]? = some (.trie m T) := by
 cases h with
 | pure h => cases h
 | @mh _ _ o _ ho hm =>
  cases o with
  | trie m T => exact ⟨m, T, ho⟩
  | _ => exact hm.elim
theorem own_arr {w : World} {S : CellSet} {β : Nat → Nat → Option Nat} {objs : List AObj} {i : Nat} {v : Value} (h : TV w S β objs (.own i) v) : ∃ p ai, objs[i]? = some (.arr p ai) := by
 cases h with
 | pure h => cases h
 | own ho => exact ⟨_, _, ho⟩
theorem pairs_ok {w w' : World} {S S' : CellSet} {β β' : Nat → Nat → Option Nat} {objs os : List AObj} (hkeep : Keeps S w w') : ∀ (d : Nat) (a a' : AV) (v : Value), TV w S β objs a v → TV w' S' β' os a' v → ∀ p ∈ pairsA d a a', PairOk w w' S S' β β' objs os p := by
 have core : ∀ (d : Nat) (cs cs' : List AV) (vs : Array Value), (∀ (a a' : AV) (v : Value), TV w S β objs a v → TV w' S' β' os a' v → ∀ p ∈ pairsA d a a', PairOk w w' S S' β β' objs os p) →
   cs.length = vs.size → (∀ c (h : c < cs.length), TV w S β objs (cs[c]) (vs[c]!)) → cs'.length = vs.size → (∀ c (h : c < cs'.length), TV w' S' β' os (cs'[c]) (vs[c]!)) →
   ∀ p ∈ (cs.zip cs').flatMap (fun p => pairsA d p.1 p.2), PairOk w w' S S' β β' objs os p := fun d cs cs' vs ih h1 h2 h3 h4 p hp => by
  obtain ⟨⟨a, a'⟩, hz, hp⟩ := List.mem_flatMap.1 hp
  obtain ⟨c, hc, e⟩ := List.getElem_of_mem hz
  have hc1 : c < cs.length := by simp at hc; omega
  have hc2 : c < cs'.length := by simp at hc; omega
  simp only [List.getElem_zip, Prod.mk.injEq] at e
  refine ih a a' (vs[c]!) ?_ ?_ p hp
  ·rw [← e.1]; exact h2 c hc1
  ·rw [← e.2]; exact h4 c hc2
 have pureC : ∀ {w : World} {S : CellSet} {β : Nat → Nat → Option Nat} {objs : List AObj} {cs : List AV} {vs : Array Value}, (∀ c (h : c < cs.length), PV w S (cs[c]) (vs[c]!)) → (∀ c (h : c < cs.length), TV w S β objs (cs[c]) (vs[c]!)) := fun h c hc => .pure (h c hc)
 intro d
 induction d with
 | zero =>
  intro a a' v h h' p hp
  unfold pairsA at hp
  split at hp
  ·simp only [List.mem_singleton] at hp; subst hp; exact .inl ⟨v, h, h'⟩
  ·simp only [List.mem_singleton] at hp; subst hp
   cases h with
   | pure h => cases h
   | ref hb => cases h' with
    | pure h => cases h
    | ref hb' => exact ⟨_, hb, hb'⟩
  ·simp only [List.mem_singleton] at hp; subst hp
   cases h with
   | pure h => cases h
   | mapr hb => cases h' with
    | pure h => cases h
    | mapr hb' => exact ⟨_, hb, hb'⟩
  ·simp only [List.mem_singleton] at hp; subst hp; exact .inr ⟨tn_trie h, tn_trie h'⟩
  all_goals cases hp
 | succ d ih =>
  intro a a' v h h' p hp
  unfold pairsA at hp
  split at hp
  ·simp only [List.mem_singleton] at hp; subst hp; exact .inl ⟨v, h, h'⟩
  ·simp only [List.mem_singleton] at hp; subst hp
   cases h with
   | pure h => cases h
   | ref hb => cases h' with
    | pure h => cases h
    | ref hb' => exact ⟨_, hb, hb'⟩
  ·simp only [List.mem_singleton] at hp; subst hp
   cases h with
   | pure h => cases h
   | mapr hb => cases h' with
    | pure h => cases h
    | mapr hb' => exact ⟨_, hb, hb'⟩
  ·simp only [List.mem_singleton] at hp; subst hp; exact .inr ⟨tn_trie h, tn_trie h'⟩
  ·cases h with
   | pure h => cases h with
    | clo hl hr => cases h' with
     | pure h' => cases h' with | clo hl' hr' => exact core d _ _ _ ih hl (pureC hr) hl' (pureC hr') p hp
     | clo hl' hr' => exact core d _ _ _ ih hl (pureC hr) hl' hr' p hp
   | clo hl hr => cases h' with
    | pure h' => cases h' with | clo hl' hr' => exact core d _ _ _ ih hl hr hl' (pureC hr') p hp
    | clo hl' hr' => exact core d _ _ _ ih hl hr hl' hr' p hp
  ·cases h with
   | pure h => cases h with
    | agg hl hr => cases h' with
     | pure h' => cases h' with | agg hl' hr' => exact core d _ _ _ ih hl (pureC hr) hl' (pureC hr') p hp
     | agg hl' hr' => exact core d _ _ _ ih hl (pureC hr) hl' hr' p hp
   | agg hl hr => cases h' with
    | pure h' => cases h' with | agg hl' hr' => exact core d _ _ _ ih hl hr hl' (pureC hr') p hp
    | agg hl' hr' => exact core d _ _ _ ih hl hr hl' hr' p hp
  ·cases h with
   | pure h => cases h with
    | tup hl hr => cases h' with
     | pure h' => cases h' with | tup hl' hr' => exact core d _ _ _ ih hl (pureC hr) hl' (pureC hr') p hp
     | tup hl' hr' => exact core d _ _ _ ih hl (pureC hr) hl' hr' p hp
   | tup hl hr => cases h' with
    | pure h' => cases h' with | tup hl' hr' => exact core d _ _ _ ih hl hr hl' (pureC hr') p hp
    | tup hl' hr' => exact core d _ _ _ ih hl hr hl' hr' p hp
  ·have one : ∀ {ad : Addr} {u u' : Value} {x x' : AV}, w.cell? ⟨ad.block, ad.off, none⟩ = some u → ¬ S ad.block ad.off → w'.cell? ⟨ad.block, ad.off, none⟩ = some u' → TV w S β objs x u → TV w' S' β' os x' u' → p ∈ pairsA d x x' → PairOk w w' S S' β β' objs os p := fun {ad u u' x x'} hc hS hc' hr hr' hp => by
    have e := hkeep _ _ _ hS hc
    rw [hc'] at e
    cases e
    exact ih x x' _ hr hr' p hp
   cases h with
   | pure h => cases h with
    | hbox hsp hc hS hr => cases h' with
     | pure h' => cases h' with | hbox hsp' hc' hS' hr' => exact one hc hS hc' (.pure hr) (.pure hr') hp
     | hbox hsp' hc' hS' hr' => exact one hc hS hc' (.pure hr) hr' hp
   | hbox hsp hc hS hr => cases h' with
    | pure h' => cases h' with | hbox hsp' hc' hS' hr' => exact one hc hS hc' hr (.pure hr') hp
    | hbox hsp' hc' hS' hr' => exact one hc hS hc' hr hr' hp
  ·cases hp
theorem elemN_iff {x : Nat} : ∀ {l : List Nat}, elemN x l = true ↔ x ∈ l
 | [] => by simp [elemN]
 | a :: r => by
  unfold elemN
  rcases beq_cases a x with ⟨e, rfl⟩ | ⟨e, hne⟩
  ·rw [e]; simp
  ·rw [e]; simp only []; rw [elemN_iff]
   exact ⟨fun h => List.mem_cons_of_mem _ h, fun h => (List.mem_cons.1 h).resolve_left fun e => hne e.symm⟩
theorem elemN_false {x : Nat} {l : List Nat} (h : elemN x l = false) : x ∉ l := fun hm => by rw [elemN_mem hm] at h; cases h
theorem lookP_mem {i j : Nat} : ∀ {l : List (Bool × Nat × Nat)}, lookP i l = some j → ∃ o, (o, i, j) ∈ l
 | (o, k, j') :: r, h => by
  unfold lookP at h
  rcases beq_cases k i with ⟨e, rfl⟩ | ⟨e, _⟩
  ·rw [e] at h; cases h; exact ⟨o, by simp⟩
  ·rw [e] at h; obtain ⟨o', h'⟩ := lookP_mem h; exact ⟨o', by simp [h']⟩
theorem lookO_mem {i j : Nat} : ∀ {l : List (Bool × Nat × Nat)}, lookO i l = some j → (true, i, j) ∈ l
 | (o, k, j') :: r, h => by
  unfold lookO at h
  rcases beq_cases k i with ⟨e, rfl⟩ | ⟨e, _⟩
  ·cases o with
   | true => rw [e] at h; cases h; simp
   | false => rw [e] at h; have := lookO_mem h; simp [this]
  ·rw [e] at h; cases o <;> (have := lookO_mem h; simp [this])
theorem deadL_get {sel : List Nat} : ∀ {objs : List AObj} {i : Nat}, (deadL objs sel)[i]? = if i < objs.length then (if i ∈ sel then some .dead else objs[i]?) else none := by
 induction sel with
 | nil =>
  intro objs i
  unfold deadL
  simp only [List.foldl_nil, List.not_mem_nil, if_false]
  split
  ·rfl
  ·rename_i h; exact List.getElem?_eq_none (Nat.le_of_not_lt h)
 | cons a r ih =>
  intro objs i
  have e : deadL objs (a :: r) = deadL (objs.set a .dead) r := rfl
  rw [e, ih]
  simp only [List.length_set]
  by_cases hi : i < objs.length
  ·simp only [hi, if_true]
   by_cases hir : i ∈ r
   ·simp [hir]
   ·simp only [hir, if_false, List.mem_cons, or_false]
    by_cases ha : i = a
    ·subst ha; simp [hi]
    ·simp only [ha, if_false]
     rw [List.getElem?_set_ne (Ne.symm ha)]
  ·simp [hi]
theorem deadL_len (objs : List AObj) (sel : List Nat) : (deadL objs sel).length = objs.length := by
 induction sel generalizing objs with
 | nil => rfl
 | cons a r ih =>
  have e : deadL objs (a :: r) = deadL (objs.set a .dead) r := rfl
  rw [e, ih]; simp
def joinLB (β β' : Nat → Nat → Option Nat) (n : Nat) (sel : List Nat) : Nat → Nat → Option Nat := fun i j => if i < n then (if i ∈ sel then none else β i j) else β' (i - n) j
theorem joinLB_lt {β β' : Nat → Nat → Option Nat} {n i : Nat} {sel : List Nat} (h : i < n) (hs : i ∉ sel) (j : Nat) : joinLB β β' n sel i j = β i j := by simp [joinLB, h, hs]
theorem joinLB_dead {β β' : Nat → Nat → Option Nat} {n i : Nat} {sel : List Nat} (h : i < n) (hs : i ∈ sel) (j : Nat) : joinLB β β' n sel i j = none := by simp [joinLB, h, hs]
theorem joinLB_ge {β β' : Nat → Nat → Option Nat} {n : Nat} {sel : List Nat} (k j : Nat) : joinLB β β' n sel (n + k) j = β' k j := by
 have : ¬ n + k < n := by omega
 simp [joinLB, this]
def joinO (objs : List AObj) (sel : List Nat) (f : AV → AV) (os : List AObj) : List AObj := deadL (objs.map (AObj.mapH f)) sel ++ os.map (AObj.mapH (shiftL objs.length))
theorem joinO_lt {objs : List AObj} {sel : List Nat} {f : AV → AV} {os : List AObj} {i : Nat} (h : i < objs.length) : (joinO objs sel f os)[i]? = if i ∈ sel then some .dead else (objs[i]?).map (AObj.mapH f) := by
 unfold joinO
 rw [List.getElem?_append_left (by rw [deadL_len]; simpa using h), deadL_get]
 simp [h]
theorem joinO_ge {objs : List AObj} {sel : List Nat} {f : AV → AV} {os : List AObj} (k : Nat) : (joinO objs sel f os)[objs.length + k]? = (os[k]?).map (AObj.mapH (shiftL objs.length)) := by
 unfold joinO
 rw [List.getElem?_append_right (by rw [deadL_len]; simp), deadL_len]
 simp
structure BackL (cx : Cx) (β : Nat → Nat → Option Nat) (st : St) (sel : List Nat) (w w' : World) (S0 : CellSet) (β' : Nat → Nat → Option Nat) (os : List AObj) : Prop where
 kept : ∀ i j b, i ∉ sel → β i j = some b → w'.heap[b]? = w.heap[b]?
 keeps : Keeps (cx.S β st.objs) w w'
 size : w.heap.size ≤ w'.heap.size
 lt : ∀ b o, S0 b o → b < w'.heap.size
 new : ∀ b o v, w.cell? ⟨b, o, none⟩ = some v → ¬ cx.S β st.objs b o → ¬ S0 b o ∧ ¬ claim β' os b o
 dis0 : ∀ b, blkOf S0 b → ¬ ownB β' b ∧ ∀ i j, i ∉ sel → β i j ≠ some b
 dis : ∀ b, ownB β' b → ∀ i j, i ∉ sel → β i j ≠ some b
theorem FR.joinO {cx : Cx} {β : Nat → Nat → Option Nat} {st : St} {tmps : Array Value} {w : World} (h : FR cx β st tmps w) (sel : List Nat) {w' : World} {S0 : CellSet} {β' : Nat → Nat → Option Nat} {os : List AObj} {n' : Nat} {env' : List (Nat × AV)} {vs' : Array Value}
  (hb : BackL cx β st sel w w' S0 β' os) (h2 : FR ⟨w', lendS S0 β st.objs sel, ownB β'⟩ β' ⟨n', env', os⟩ vs' w') {ps : List (Bool × Nat × Nat)} (hps : ∀ p ∈ ps, PairOk w w' (cx.S β st.objs) ((⟨w', lendS S0 β st.objs sel, ownB β'⟩ : Cx).S β' os) β β' st.objs os p) :
  FR ⟨w', S0, ownB (joinLB β β' st.objs.length sel)⟩ (joinLB β β' st.objs.length sel)
   ⟨st.n, mapE (AV.mapH (renJ st.objs sel ps st.objs.length) 3) st.env, AM.joinO st.objs sel (renJ st.objs sel ps st.objs.length) os⟩ tmps w' ∧
  (∀ av v, TV w' ((⟨w', lendS S0 β st.objs sel, ownB β'⟩ : Cx).S β' os) β' os av v → TV w' ((⟨w', S0, ownB (joinLB β β' st.objs.length sel)⟩ : Cx).S (joinLB β β' st.objs.length sel) (AM.joinO st.objs sel (renJ st.objs sel ps st.objs.length) os)) (joinLB β β' st.objs.length sel) (AM.joinO st.objs sel (renJ st.objs sel ps st.objs.length) os) (av.mapH (shiftL st.objs.length) 3) v) ∧
  (∀ b o, claim (joinLB β β' st.objs.length sel) (AM.joinO st.objs sel (renJ st.objs sel ps st.objs.length) os) b o ↔ keptC β st.objs sel b o ∨ claim β' os b o) := by
 generalize hf0 : renJ st.objs sel ps st.objs.length = f
 generalize hO : AM.joinO st.objs sel f os = O
 generalize hB : joinLB β β' st.objs.length sel = Bt
 have hlt : ∀ (i : Nat) (o : AObj), st.objs[i]? = some o → i < st.objs.length := fun i o ho => (List.getElem?_eq_some_iff.1 ho).1
 have hβn : ∀ i j b, β i j = some b → i < st.objs.length := fun i j b hb => by
  rcases Nat.lt_or_ge i st.objs.length with hl | hl
  ·exact hl
  ·rw [h.out i j (by rw [List.getElem?_eq_none_iff]; exact hl)] at hb; cases hb
 have hcase : ∀ i, i < st.objs.length ∨ ∃ k, i = st.objs.length + k := fun i => by
  rcases Nat.lt_or_ge i st.objs.length with hl | hl
  ·exact .inl hl
  ·exact .inr ⟨i - st.objs.length, by omega⟩
 have Blt : ∀ {i : Nat} (j : Nat), i < st.objs.length → i ∉ sel → Bt i j = β i j := fun j hi hs => by rw [← hB]; exact joinLB_lt hi hs j
 have Bdead : ∀ {i : Nat} (j : Nat), i < st.objs.length → i ∈ sel → Bt i j = none := fun j hi hs => by rw [← hB]; exact joinLB_dead hi hs j
 have Bge : ∀ (k j : Nat), Bt (st.objs.length + k) j = β' k j := fun k j => by rw [← hB]; exact joinLB_ge k j
 have Olt : ∀ {i : Nat}, i < st.objs.length → O[i]? = if i ∈ sel then some .dead else (st.objs[i]?).map (AObj.mapH f) := fun hi => by rw [← hO]; exact joinO_lt hi
 have Oge : ∀ k, O[st.objs.length + k]? = (os[k]?).map (AObj.mapH (shiftL st.objs.length)) := fun k => by rw [← hO]; exact joinO_ge k
 -- the claims
 have hcl : ∀ b o, claim Bt O b o ↔ keptC β st.objs sel b o ∨ claim β' os b o := fun b o => by
  constructor
  ·rintro ⟨i, ob, h1, h2⟩
   obtain ⟨h3, j4, h4⟩ := claims_block h2
   rcases hcase i with hi | ⟨k, rfl⟩
   ·rw [Olt hi] at h1
    by_cases hs : i ∈ sel
    ·rw [if_pos hs] at h1; cases h1; exact absurd rfl h3
    ·rw [if_neg hs] at h1
     rw [Blt _ hi hs] at h4
     obtain ⟨o1, ho1, rfl⟩ := Option.map_eq_some_iff.1 h1
     exact .inl ⟨i, o1, hs, ho1, claims_mk o (fun e => h3 (mapH_dead.2 e)) h4⟩
   ·rw [Oge] at h1
    rw [Bge] at h4
    obtain ⟨o1, ho1, rfl⟩ := Option.map_eq_some_iff.1 h1
    exact .inr ⟨k, o1, ho1, claims_mk o (fun e => h3 (mapH_dead.2 e)) h4⟩
  ·rintro (⟨i, ob, hs, h1, h2⟩ | ⟨k, ob, h1, h2⟩)
   ·obtain ⟨h3, j4, h4⟩ := claims_block h2
    have hi := hlt _ _ h1
    exact ⟨i, ob.mapH f, by rw [Olt hi, if_neg hs, h1]; rfl, claims_mk o (fun e => h3 (mapH_dead.1 e)) (by rw [Blt _ hi hs]; exact h4)⟩
   ·obtain ⟨h3, j4, h4⟩ := claims_block h2
    exact ⟨st.objs.length + k, ob.mapH _, by rw [Oge, h1]; rfl, claims_mk o (fun e => h3 (mapH_dead.1 e)) (by rw [Bge]; exact h4)⟩
 have hSeq : ∀ b o, (⟨w', S0, ownB Bt⟩ : Cx).S Bt O b o ↔ (⟨w', lendS S0 β st.objs sel, ownB β'⟩ : Cx).S β' os b o := fun b o => by
  constructor
  ·rintro (hs | hs)
   ·exact .inl (.inl hs)
   ·rcases (hcl b o).1 hs with hs | hs
    ·exact .inl (.inr hs)
    ·exact .inr hs
  ·rintro ((hs | hs) | hs)
   ·exact .inl hs
   ·exact .inr ((hcl b o).2 (.inl hs))
   ·exact .inr ((hcl b o).2 (.inr hs))
 have hs1 : ∀ b o v, w.cell? ⟨b, o, none⟩ = some v → ¬ cx.S β st.objs b o → ¬ (⟨w', S0, ownB Bt⟩ : Cx).S Bt O b o := fun b o v hc hn hh => by
  obtain ⟨n1, n2⟩ := hb.new b o v hc hn
  rcases (hSeq b o).1 hh with (hh | ⟨i, ob, hs, h1, h2⟩) | hh
  ·exact n1 hh
  ·exact hn (.inr ⟨i, ob, h1, h2⟩)
  ·exact n2 hh
 have hp1 : ∀ av v, PV w (cx.S β st.objs) av v → PV w' ((⟨w', S0, ownB Bt⟩ : Cx).S Bt O) av v := fun av v hv => hv.keeps hb.keeps hs1
 have hs2 : ∀ b o v, w'.cell? ⟨b, o, none⟩ = some v → ¬ (⟨w', lendS S0 β st.objs sel, ownB β'⟩ : Cx).S β' os b o → ¬ (⟨w', S0, ownB Bt⟩ : Cx).S Bt O b o := fun b o v _ hn hh => hn ((hSeq b o).1 hh)
 have hp2 : ∀ av v, PV w' ((⟨w', lendS S0 β st.objs sel, ownB β'⟩ : Cx).S β' os) av v → PV w' ((⟨w', S0, ownB Bt⟩ : Cx).S Bt O) av v := fun av v hv => hv.keeps (Keeps.refl _ _) hs2
 -- handles of what came back
 have hf2 : ∀ av v, av.isH = true → TV w' ((⟨w', lendS S0 β st.objs sel, ownB β'⟩ : Cx).S β' os) β' os av v → TV w' ((⟨w', S0, ownB Bt⟩ : Cx).S Bt O) Bt O (shiftL st.objs.length av) v := fun av v hh ht => by
  refine TV.ren hh ht (fun k i o e ho hb => ?_) (fun k i j e => ?_)
  ·cases e
   rw [Oge, ho]
   cases o <;> first | exact absurd rfl (hb _) | rfl
  ·cases e
   exact Bge k j
 have hsh : ∀ i j b x, i ∉ sel → β i j = some b → w.shape? b = some x → w'.shape? b = some x := fun i j b x hs hb' hx => by rw [shape?_of_heap (hb.kept i j b hs hb')]; exact hx
 -- handles of what was there
 have hf1 : ∀ av v, av.isH = true → TV w (cx.S β st.objs) β st.objs av v → TV w' ((⟨w', S0, ownB Bt⟩ : Cx).S Bt O) Bt O (f av) v := fun av v hh ht => by
  rw [← hf0]
  rcases isH_cases hh with ⟨i, rfl⟩ | ⟨i, o, rfl⟩ | ⟨i, j, c, rfl⟩ | ⟨i, rfl⟩ | ⟨i, x, rfl⟩
  ·cases hse : elemN i sel with
   | false =>
    have hs := elemN_false hse
    simp only [renJ, hse]
    cases ht with
    | pure h => cases h
    | own ho hlen hnz hn hbb =>
     have hi := hlt _ _ ho
     exact .own (by rw [Olt hi, if_neg hs, ho]; rfl) hlen hnz (fun e => hn (by rw [← Blt 0 hi hs]; exact e)) (fun b e => by
      have e' : β i 0 = some b := by rw [← Blt 0 hi hs]; exact e
      obtain ⟨q1, q2, q3, q4⟩ := hbb b e'
      exact ⟨q1, q2, q3, hsh i 0 b _ hs e' q4⟩)
   | true =>
    have hs : i ∈ sel := elemN_iff.1 hse
    simp only [renJ, hse]
    cases hlo : lookO i ps with
    | none => exact .pure (.junk _)
    | some j =>
     cases hsz : szOk st.objs i with
     | false => exact .pure (.junk _)
     | true =>
      simp only []
      obtain ⟨v1, p1, p2⟩ := (hps _ (lookO_mem hlo)).resolve_right fun ⟨⟨m, T, e0⟩, _⟩ => by
       obtain ⟨p, ai, e1⟩ := own_arr ht
       rw [e0] at e1; cases e1
      have e : v = v1 := by
       cases ht with
       | pure h => cases h
       | own ho hlen hnz hn hbb =>
        cases p1 with
        | pure h => cases h
        | own ho' hlen' hnz' hn' hbb' =>
         rw [ho] at ho'
         cases ho'
         obtain ⟨p9, ai9, ho9, hz⟩ : ∃ p ai, st.objs[i]? = some (.arr p ai) ∧ 1 ≤ p.sz := by
          unfold szOk at hsz
          split at hsz
          ·rename_i p ai ho9; exact ⟨p, ai, ho9, Nat.le_of_ble_eq_true hsz⟩
          ·cases hsz
         rw [ho] at ho9
         cases ho9
         cases hβ : β i 0 with
         | none =>
          obtain ⟨rfl, rfl⟩ := hn hβ
          obtain ⟨rfl, rfl⟩ := hn' hβ
          rw [← hlen, ← hlen']
         | some b =>
          obtain ⟨rfl, _, _, q4⟩ := hbb b hβ
          obtain ⟨rfl, _, _, q4'⟩ := hbb' b hβ
          rw [q4] at q4'
          simp only [Option.some.injEq, Prod.mk.injEq, true_and] at q4'
          have := Nat.eq_of_mul_eq_mul_right (by omega) q4'
          rw [← hlen, ← hlen', this]
      rw [e]
      have := hf2 (.own j) v1 rfl p2
      exact this
  ·cases hse : elemN i sel with
   | false =>
    have hs := elemN_false hse
    simp only [renJ, hse]
    cases ht with
    | pure h => cases h
    | ref hbb => exact .ref (by rw [Blt 0 (hβn _ _ _ hbb) hs]; exact hbb)
   | true =>
    simp only [renJ, hse]
    cases hlo : lookP i ps with
    | none => exact .pure (.junk _)
    | some j =>
     cases htr : isTrie st.objs i with
     | true => exact .pure (.junk _)
     | false =>
     simp only []
     cases ht with
     | pure h => cases h
     | ref hbb =>
      refine .ref ?_
      rw [Bge]
      obtain ⟨o', hm⟩ := lookP_mem hlo
      have hpk := hps _ hm
      cases o' with
      | false =>
       obtain ⟨b', e1, e2⟩ := hpk
       rw [hbb] at e1; cases e1; exact e2
      | true =>
       obtain ⟨v1, p1, p2⟩ := hpk.resolve_right fun ⟨⟨m, T, e0⟩, _⟩ => by simp [isTrie, e0] at htr
       cases p1 with
       | pure h => cases h
       | own ho' hlen' hnz' hn' hbb' =>
        obtain ⟨rfl, _⟩ := hbb' _ hbb
        cases p2 with
        | pure h => cases h
        | own ho2 hlen2 hnz2 hn2 hbb2 =>
         cases hβ : β' j 0 with
         | none => have := (hn2 hβ).1; cases this
         | some b2 => have := (hbb2 b2 hβ).1; simp only [Option.some.injEq, Addr.mk.injEq] at this; rw [this.1]
  ·cases hse : elemN i sel with
   | false =>
    have hs := elemN_false hse
    simp only [renJ, hse]
    cases ht with
    | pure h => cases h
    | eref ho hbb hj => exact .eref (by rw [Olt (hlt _ _ ho), if_neg hs, ho]; rfl) (by rw [Blt 0 (hlt _ _ ho) hs]; exact hbb) hj
   | true => simp only [renJ, hse]; exact .pure (.junk _)
  ·cases hse : elemN i sel with
   | false =>
    have hs := elemN_false hse
    simp only [renJ, hse]
    cases ht with
    | pure h => cases h
    | mapr hbb => exact .mapr (by rw [Blt 0 (hβn _ _ _ hbb) hs]; exact hbb)
   | true =>
    simp only [renJ, hse]
    cases hlo : lookP i ps with
    | none => exact .pure (.junk _)
    | some j =>
     cases htr : isTrie st.objs i with
     | true => exact .pure (.junk _)
     | false =>
     simp only []
     cases ht with
     | pure h => cases h
     | mapr hbb =>
      refine .mapr ?_
      rw [Bge]
      obtain ⟨o', hm⟩ := lookP_mem hlo
      have hpk := hps _ hm
      cases o' with
      | false =>
       obtain ⟨b', e1, e2⟩ := hpk
       rw [hbb] at e1; cases e1; exact e2
      | true =>
       obtain ⟨v1, p1, p2⟩ := hpk.resolve_right fun ⟨⟨m, T, e0⟩, _⟩ => by simp [isTrie, e0] at htr
       cases p1 with
       | pure h => cases h
       | own ho' hlen' hnz' hn' hbb' =>
        obtain ⟨rfl, _⟩ := hbb' _ hbb
        cases p2 with
        | pure h => cases h
        | own ho2 hlen2 hnz2 hn2 hbb2 =>
         cases hβ : β' j 0 with
         | none => have := (hn2 hβ).1; cases this
         | some b2 => have := (hbb2 b2 hβ).1; simp only [Option.some.injEq, Addr.mk.injEq] at this; rw [this.1]
  ·cases hse : elemN i sel with
   | false =>
    have hs := elemN_false hse
    simp only [renJ, hse]
    cases ht with
    | pure h => cases h
    | @mh _ _ o1 _ ho hm =>
     have hi := hlt _ _ ho
     have ho2 := ho
     cases o1 with
     | nest rows hole gone ai e am => exact .mh (by rw [Olt hi, if_neg hs, ho]; rfl) (hm.step (fun j => Blt j hi hs) (fun j b x hb' hx => hsh i j b x hs hb' hx))
     | arr p ai => exact .mh (by rw [Olt hi, if_neg hs, ho]; rfl) (hm.arr (fun b e => (Blt 0 hi hs).trans e) rfl rfl)
     | trie m T => exact .mh (by rw [Olt hi, if_neg hs, ho]; rfl) hm.trie
     | _ => exact hm.elim
   | true =>
    simp only [renJ, hse]
    cases htr : isTrie st.objs i with
    | false => exact .pure (.junk _)
    | true =>
     cases hlo : lookO i ps with
     | none => exact .pure (.junk _)
     | some j =>
      simp only []
      obtain ⟨m, T, e0⟩ := isTrie_iff htr
      obtain ⟨_, m', T', e1⟩ := (hps _ (lookO_mem hlo)).resolve_left fun ⟨v1, p1, _⟩ => by
       obtain ⟨p, ai, e1⟩ := own_arr p1
       rw [e0] at e1; cases e1
      cases ht with
      | pure h => cases h
      | mh ho hm =>
       rw [e0] at ho
       cases ho
       exact .mh (by rw [Oge, e1]; rfl) hm.trie
 refine ⟨⟨KeepL.refl _ _, fun b o hs => ⟨hb.lt b o hs, fun ⟨i, j, e⟩ => ?_⟩, fun i j i' j' b h1 h1' => ?_, fun i j b hbb => ⟨?_, fun _ => ⟨i, j, hbb⟩⟩, fun i j ho => ?_, fun i o ho => ?_, h.size, fun t => ?_⟩, fun av v => TV.mapH hf2 hp2 3 av v, hcl⟩
 ·obtain ⟨d1, d2⟩ := hb.dis0 b ⟨o, hs⟩
  rcases hcase i with hi | ⟨k, rfl⟩
  ·by_cases hsel : i ∈ sel
   ·rw [Bdead j hi hsel] at e; cases e
   ·rw [Blt j hi hsel] at e; exact d2 i j hsel e
  ·rw [Bge] at e; exact d1 ⟨k, j, e⟩
 ·rcases hcase i with hi | ⟨k, rfl⟩ <;> rcases hcase i' with hi' | ⟨k', rfl⟩
  ·by_cases hsel : i ∈ sel
   ·rw [Bdead j hi hsel] at h1; cases h1
   ·by_cases hsel' : i' ∈ sel
    ·rw [Bdead j' hi' hsel'] at h1'; cases h1'
    ·rw [Blt j hi hsel] at h1; rw [Blt j' hi' hsel'] at h1'
     exact h.inj _ _ _ _ _ h1 h1'
  ·by_cases hsel : i ∈ sel
   ·rw [Bdead j hi hsel] at h1; cases h1
   ·rw [Blt j hi hsel] at h1; rw [Bge] at h1'
    exact absurd h1 (hb.dis b ⟨_, _, h1'⟩ i j hsel)
  ·by_cases hsel' : i' ∈ sel
   ·rw [Bdead j' hi' hsel'] at h1'; cases h1'
   ·rw [Blt j' hi' hsel'] at h1'; rw [Bge] at h1
    exact absurd h1' (hb.dis b ⟨_, _, h1⟩ i' j' hsel')
  ·rw [Bge] at h1 h1'
   obtain ⟨rfl, rfl⟩ := h2.inj _ _ _ _ _ h1 h1'
   exact ⟨rfl, rfl⟩
 ·rcases hcase i with hi | ⟨k, rfl⟩
  ·by_cases hsel : i ∈ sel
   ·rw [Bdead j hi hsel] at hbb; cases hbb
   ·rw [Blt j hi hsel] at hbb; exact Nat.lt_of_lt_of_le (h.rng _ _ _ hbb).1 hb.size
  ·rw [Bge] at hbb; exact (h2.rng _ _ _ hbb).1
 ·rcases hcase i with hi | ⟨k, rfl⟩
  ·have ho : O[i]? = none := ho
   rw [Olt hi] at ho
   by_cases hsel : i ∈ sel
   ·rw [if_pos hsel] at ho; cases ho
   ·rw [if_neg hsel] at ho
    rw [Blt j hi hsel]
    exact h.out i j (by simpa using ho)
  ·have ho : O[st.objs.length + k]? = none := ho
   rw [Oge] at ho
   rw [Bge]
   exact h2.out k j (by simpa using ho)
 ·have ho : O[i]? = some o := ho
  rcases hcase i with hi | ⟨k, rfl⟩
  ·rw [Olt hi] at ho
   by_cases hsel : i ∈ sel
   ·rw [if_pos hsel] at ho; cases ho
    exact fun j => Bdead j hi hsel
   ·rw [if_neg hsel] at ho
    obtain ⟨o1, ho1, rfl⟩ := Option.map_eq_some_iff.1 ho
    exact (h.objs i o1 ho1).mapH hf1 hp1 (fun j => Blt j hi hsel) (fun j b hbb => hb.kept i j b hsel hbb)
  ·rw [Oge] at ho
   obtain ⟨o1, ho1, rfl⟩ := Option.map_eq_some_iff.1 ho
   exact ObjOk.mapHc (fr := false) (.inr hs2) (fun e => by cases e) (h2.objs k o1 ho1) hf2 (fun j => Bge k j)
 ·show TV _ _ _ _ (getE t (mapE _ _)) _
  rw [getE_mapE (by rfl)]
  exact TV.mapH hf1 hp1 3 _ _ (h.env t)
end Go.AM
end

section
namespace Go.AM
open Go
theorem FR.claims {cx β st tmps w} (h : FR cx β st tmps w) {i j b : Nat} (hb : β i j = some b) : ∃ ob, st.objs[i]? = some ob ∧ ∀ o, ob.claims (β i) b o := by
 cases ho : st.objs[i]? with
 | none => rw [h.out i j ho] at hb; cases hb
 | some ob =>
  refine ⟨ob, rfl, fun o => ?_⟩
  refine claims_mk o (fun e0 => ?_) hb
  subst e0
  have hob : ∀ j, β i j = none := h.objs i _ ho
  rw [hob j] at hb; cases hb
theorem cell_deferred {w : World} {b o : Nat} {x : Option (List Deferred)} {v : Value} (h : w.heap[b]? = some (.deferred x)) : w.cell? ⟨b, o, none⟩ ≠ some v := by
 simp [World.cell?, h]
theorem claims_any {ob : AObj} {β : Nat → Option Nat} {b o o' : Nat} (h : ob.claims β b o) : ob.claims β b o' := claims_mk o' (claims_block h).1 (claims_block h).2.choose_spec
theorem claim_any {β : Nat → Nat → Option Nat} {objs : List AObj} {b o : Nat} (h : blkOf (claim β objs) b) : claim β objs b o := let ⟨_, i, ob, h1, h2⟩ := h; ⟨i, ob, h1, claims_any h2⟩
theorem kept_any {β : Nat → Nat → Option Nat} {objs : List AObj} {sel : List Nat} {b o : Nat} (h : blkOf (keptC β objs sel) b) : keptC β objs sel b o := let ⟨_, i, ob, h0, h1, h2⟩ := h; ⟨i, ob, h0, h1, claims_any h2⟩
structure BackW (cx : Cx) (β : Nat → Nat → Option Nat) (st : St) (ds : List Deferred) (sel : List Nat) (w w1 : World) (S0 Ci : CellSet) : Prop where
 kept : ∀ i j b, i ∉ sel → β i j = some b → w1.heap[b]? = w.heap[b]?
 marks : ∀ b, mkB ds b → w1.heap[b]? = w.heap[b]?
 keeps : Keeps (cx.S β st.objs) w w1
 size : w.heap.size ≤ w1.heap.size
 lt : ∀ b o, S0 b o → b < w1.heap.size
 new : ∀ b o v, w.cell? ⟨b, o, none⟩ = some v → ¬ cx.S β st.objs b o → ¬ S0 b o ∧ ¬ blkOf Ci b
 dis0 : ∀ b, blkOf S0 b → ¬ blkOf Ci b ∧ (∀ i j, i ∉ sel → β i j ≠ some b) ∧ ¬ mkB ds b
 dis : ∀ b, blkOf Ci b → (∀ i j, i ∉ sel → β i j ≠ some b) ∧ ¬ mkB ds b
def callJ (J : Inv) (cx : Cx) (β : Nat → Nat → Option Nat) (st : St) (ds : List Deferred) (sel : List Nat) (w : World) : Inv := fun g w1 Cc Ci =>
 ∃ S0, Cc = lendS S0 β st.objs sel ∧ J g w1 S0 (fun b o => Ci b o ∨ keptC β st.objs sel b o ∨ mkB ds b) ∧ BackW cx β st ds sel w w1 S0 Ci
section
variable {P : Program} {y : Yc} {J : Inv} {cx : Cx} {β : Nat → Nat → Option Nat} {st : St} {tmps : Array Value} {ds : List Deferred} {sel : List Nat} {w : World} {B : Nat}
theorem kept_some (_hfr : FR cx β st tmps w) {b : Nat} (h : blkOf (keptC β st.objs sel) b) : ∃ i, i ∉ sel ∧ ∃ j, β i j = some b := by
 obtain ⟨o, i, ob, h1, h2, h3⟩ := h
 exact ⟨i, h1, (claims_block h3).2⟩
theorem some_kept (hfr : FR cx β st tmps w) {i j b : Nat} (hi : i ∉ sel) (hb : β i j = some b) : blkOf (keptC β st.objs sel) b := by
 obtain ⟨ob, h1, h2⟩ := hfr.claims hb
 exact ⟨0, i, ob, hi, h1, h2 0⟩
theorem blkOf3 {A C : CellSet} {M : Nat → Prop} {b : Nat} : blkOf (fun b o => A b o ∨ C b o ∨ M b) b ↔ blkOf A b ∨ blkOf C b ∨ M b := by
 constructor
 ·rintro ⟨o, h | h | h⟩
  ·exact .inl ⟨o, h⟩
  ·exact .inr (.inl ⟨o, h⟩)
  ·exact .inr (.inr h)
 ·rintro (⟨o, h⟩ | ⟨o, h⟩ | h)
  ·exact ⟨o, .inl h⟩
  ·exact ⟨o, .inr (.inl h)⟩
  ·exact ⟨0, .inr (.inr h)⟩
theorem blkOf_lend {S0 : CellSet} {b : Nat} (h : blkOf S0 b) : blkOf (lendS S0 β st.objs sel) b := let ⟨o, h⟩ := h; ⟨o, .inl h⟩
theorem callJ_stable (hJ : J.stable) (hfr : FR cx β st tmps w) (hm : Mk B β cx.S0 ds w) : (callJ J cx β st ds sel w).stable := by
 rintro g w1 w2 Cc Ci Ci' ⟨S0, rfl, hj, hb⟩ hk h1 h2 h3
 have hkb : ∀ {i j b}, i ∉ sel → β i j = some b → b < w.heap.size := fun _ e => (hfr.rng _ _ _ e).1
 have hmb : ∀ {b}, mkB ds b → b < w.heap.size := fun e => lt_of_heap (hm.blk e).2.1
 refine ⟨S0, rfl, hJ g w1 w2 S0 _ _ hj ⟨hk.os, hk.tape, hk.output, hk.drawn, hk.size, fun k hlt hn => hk.block k hlt fun hc => hn (blkOf3.2 (.inl hc))⟩ (fun b hbb hlt => ?_) (fun b hbb => ?_) (fun b hbb hc => ?_), ?_⟩
 ·rw [blkOf3] at hbb ⊢
  rcases hbb with hbb | hbb | hbb
  ·exact .inl (h1 b hbb hlt)
  ·exact .inr (.inl hbb)
  ·exact .inr (.inr hbb)
 ·rw [blkOf3] at hbb
  rcases hbb with hbb | hbb | hbb
  ·exact h2 b hbb
  ·obtain ⟨i, hi, jk, e⟩ := kept_some hfr hbb
   exact Nat.lt_of_lt_of_le (hkb hi e) (Nat.le_trans hb.size hk.size)
  ·exact Nat.lt_of_lt_of_le (hmb hbb) (Nat.le_trans hb.size hk.size)
 ·rw [blkOf3] at hbb
  obtain ⟨d1, d2, d3⟩ := hb.dis0 b hc
  rcases hbb with hbb | hbb | hbb
  ·exact h3 b hbb (blkOf_lend hc)
  ·obtain ⟨i, hi, jk, e⟩ := kept_some hfr hbb
   exact d2 i _ hi e
  ·exact d3 hbb
 ·have hdis : ∀ b, blkOf Ci' b → (∀ i j, i ∉ sel → β i j ≠ some b) ∧ ¬ mkB ds b := fun b hbb => by
   by_cases hlt : b < w1.heap.size
   ·exact hb.dis b (h1 b hbb hlt)
   ·exact ⟨fun i j hi e => hlt (Nat.lt_of_lt_of_le (hkb hi e) hb.size), fun e => hlt (Nat.lt_of_lt_of_le (hmb e) hb.size)⟩
  refine ⟨fun i j b hi e => ?_, fun b e => ?_, fun b o v hn hc => ?_, Nat.le_trans hb.size hk.size, fun b o hs => Nat.lt_of_lt_of_le (hb.lt b o hs) hk.size, fun b o v hc hn => ?_, fun b hs => ?_, hdis⟩
  ·rw [hk.block b (Nat.lt_of_lt_of_le (hkb hi e) hb.size) fun hc => (hb.dis b hc).1 i j hi e]; exact hb.kept i j b hi e
  ·rw [hk.block b (Nat.lt_of_lt_of_le (hmb e) hb.size) fun hc => (hb.dis b hc).2 e]; exact hb.marks b e
  ·have hc1 := hb.keeps b o v hn hc
   rw [cell?_of_heap (hk.block b (lt_of_cell? hc1) (hb.new b o v hc hn).2)]; exact hc1
  ·obtain ⟨n1, n2⟩ := hb.new b o v hc hn
   exact ⟨n1, fun hbb => n2 (h1 b hbb (Nat.lt_of_lt_of_le (lt_of_cell? hc) hb.size))⟩
  ·obtain ⟨d1, d2, d3⟩ := hb.dis0 b hs
   exact ⟨fun hbb => h3 b hbb (blkOf_lend hs), d2, d3⟩
theorem callJ_rounds (hR : Rounds P y J) (hfr : FR cx β st tmps w) (hm : Mk B β cx.S0 ds w) : Rounds P y (callJ J cx β st ds sel w) := by
 rintro k hk w1 Cc Ci vs ⟨S0, rfl, hj, hb⟩ hlen hpv
 have hkb : ∀ {i j b}, i ∉ sel → β i j = some b → b < w.heap.size := fun _ e => (hfr.rng _ _ _ e).1
 have hmb : ∀ {b}, mkB ds b → w1.heap[b]? = some (.deferred (some [])) := fun e => by rw [hb.marks _ e]; exact (hm.blk e).2.1
 obtain ⟨f, rt, assign, body, hrun, hround⟩ := hR k hk w1 S0 _ vs hj hlen (fun c hc => (hpv c hc).keeps (Keeps.refl _ _) fun b o v hcell hn hh => by
  rw [blkOf3] at hh
  rcases hh with hh | hh | hh | hh
  ·exact hn (.inl (.inl hh))
  ·exact hn (.inr hh)
  ·exact hn (.inl (.inr (kept_any hh)))
  ·exact cell_deferred (hmb hh) hcell)
 refine ⟨f, rt, assign, body, hrun, hround.mono fun e w2 he => ?_⟩
 obtain ⟨go, S0', rfl, hs, hj2⟩ := he
 have hkept : ∀ {i j b}, i ∉ sel → β i j = some b → w2.heap[b]? = w1.heap[b]? := fun hi e => hs.own _ (blkOf3.2 (.inr (.inl (some_kept hfr hi e))))
 refine ⟨go, lendS S0' β st.objs sel, rfl, ⟨fun b o v hn hc => hs.keep b o v (fun h => hn (.inl h)) hc, fun b hbb => hs.own b (blkOf3.2 (.inl hbb)), hs.size, fun b o hh => ?_, fun b o hh hbb => ?_, fun b o v hc hn hh => ?_⟩, S0', rfl, hj2, ?_⟩
 ·rcases hh with hh | hh
  ·exact hs.lt b o hh
  ·obtain ⟨i, hi, jk, e⟩ := kept_some hfr ⟨o, hh⟩
   exact Nat.lt_of_lt_of_le (hkb hi e) (Nat.le_trans hb.size hs.size)
 ·rcases hh with hh | hh
  ·exact hs.dis b o hh (blkOf3.2 (.inl hbb))
  ·obtain ⟨i, hi, jk, e⟩ := kept_some hfr ⟨o, hh⟩
   exact (hb.dis b hbb).1 i _ hi e
 ·rcases hh with hh | hh
  ·exact hs.new b o v hc (fun h => hn (.inl h)) hh
  ·exact hn (.inr hh)
 ·refine ⟨fun i j b hi e => (hkept hi e).trans (hb.kept i j b hi e), fun b e => (hs.own b (blkOf3.2 (.inr (.inr e)))).trans (hb.marks b e), fun b o v hn hc => ?_, Nat.le_trans hb.size hs.size, hs.lt, fun b o v hc hn => ?_, fun b hh => ?_, hb.dis⟩
  ·exact hs.keep b o v (hb.new b o v hc hn).1 (hb.keeps b o v hn hc)
  ·obtain ⟨n1, n2⟩ := hb.new b o v hc hn
   exact ⟨hs.new b o v (hb.keeps b o v hn hc) n1, n2⟩
  ·obtain ⟨o, hh⟩ := hh
   have hd := hs.dis b o hh
   rw [blkOf3] at hd
   exact ⟨fun h => hd (.inl h), fun i j hi e => hd (.inr (.inl (some_kept hfr hi e))), fun h => hd (.inr (.inr h))⟩
theorem lent_ok (hJ : J.stable) (hR : Rounds P y J) {g : Gh} (hfr : FR cx β st tmps w) (hm : Mk B β cx.S0 ds w) (hj : J g w cx.S0 (claimM β st.objs ds)) {avs : List AV} {vs : Array Value} (hl : avs.length = vs.size)
  (hv : ∀ c (h : c < avs.length), TV w (cx.S β st.objs) β st.objs (avs[c]) (vs[c]!)) (hnd : sel.Nodup) {f : FuncId} {Qc : QG} (hc : GCall P y f g (avs.map (renA sel)) (selO st.objs sel) Qc) (d : Option Tmp) {R : Ending → World → Prop}
  (hK : ∀ v w', (∃ g' rv as os cx' β', Qc g' rv as os ∧ FR cx' β' (joinL st sel avs d rv as os) (({ tmps, defers := ds } : Act).put d v).tmps w' ∧ Mk B β' cx'.S0 ds w' ∧ J g' w' cx'.S0 (claimM β' (joinL st sel avs d rv as os).objs ds) ∧
   Ext (cx.S β st.objs) w (cx'.S β' (joinL st sel avs d rv as os).objs) w') → R (.returned v) w') : CallsIn (FW none) 0 P f vs w R := by
 have hfc := hfr.lend sel hnd hl hv
 have hj1 : callJ J cx β st ds sel w g w (lendS cx.S0 β st.objs sel) (claim (selB β sel) (selO st.objs sel)) := by
  have hbc : ∀ b, blkOf (claim (selB β sel) (selO st.objs sel)) b → ∃ i j, i ∈ sel ∧ β i j = some b := fun b hbb => by
   obtain ⟨k, j, e⟩ := (blkOf_claim hfc b).2 hbb
   obtain ⟨i, hi, e⟩ := selB_some e
   exact ⟨i, j, List.mem_of_getElem? hi, e⟩
  refine ⟨cx.S0, rfl, hJ g w w cx.S0 _ _ hj (KeepL.refl _ _) (fun b hbb _ => ?_) (fun b hbb => ?_) (fun b hbb hcc => ?_), ⟨fun _ _ _ _ _ => rfl, fun _ _ => rfl, Keeps.refl _ _, Nat.le_refl _, fun b o hs => Nat.lt_of_lt_of_le (hfr.s0 b o hs).1 hfr.keep.size, fun b o v hcell hn => ⟨fun h => hn (.inl h), fun hbb => ?_⟩, fun b hs => ?_, fun b hbb => ?_⟩⟩
  ·rw [blkOf3] at hbb
   rw [blkOf_claimM]
   rcases hbb with hbb | hbb | hbb
   ·obtain ⟨i, j, _, e⟩ := hbc b hbb
    exact .inl ((blkOf_claim hfr b).1 ⟨i, j, e⟩)
   ·obtain ⟨i, hi, jk, e⟩ := kept_some hfr hbb
    exact .inl ((blkOf_claim hfr b).1 ⟨i, jk, e⟩)
   ·exact .inr hbb
  ·rw [blkOf3] at hbb
   rcases hbb with hbb | hbb | hbb
   ·obtain ⟨i, j, _, e⟩ := hbc b hbb
    exact (hfr.rng _ _ _ e).1
   ·obtain ⟨i, hi, jk, e⟩ := kept_some hfr hbb
    exact (hfr.rng _ _ _ e).1
   ·exact lt_of_heap (hm.blk hbb).2.1
  ·rw [blkOf3] at hbb
   have hcc2 := hcc
   obtain ⟨o, hcc'⟩ := hcc
   rcases hbb with hbb | hbb | hbb
   ·obtain ⟨i, j, _, e⟩ := hbc b hbb
    exact hfr.notS0 e o hcc'
   ·obtain ⟨i, hi, jk, e⟩ := kept_some hfr hbb
    exact hfr.notS0 e o hcc'
   ·exact (hm.blk hbb).2.2.2 hcc2
  ·obtain ⟨i, j, _, e⟩ := hbc b hbb
   obtain ⟨ob, h1, h2⟩ := hfr.claims e
   exact hn (.inr ⟨i, ob, h1, h2 o⟩)
  ·obtain ⟨o, hs⟩ := hs
   exact ⟨fun hbb => by obtain ⟨i, j, _, e⟩ := hbc b hbb; exact hfr.notS0 e o hs, fun i j _ e => hfr.notS0 e o hs, fun e => (hm.blk e).2.2.2 ⟨o, hs⟩⟩
  ·obtain ⟨i, j, hi, e⟩ := hbc b hbb
   exact ⟨fun i' j' hi' e' => by obtain ⟨rfl, _⟩ := hfr.inj _ _ _ _ _ e e'; exact hi' hi, fun e' => (hm.blk e').2.2.1 ⟨i, j, e⟩⟩
 refine (hc.calls _ (callJ_stable hJ hfr hm) (callJ_rounds hR hfr hm) w _ _ vs hfc hj1).mono fun e w' he => ?_
 cases e with
 | returned v =>
  obtain ⟨g', rv, as, os, S0', β', hq, hal, hf', S0k, rfl, hj2, hbw⟩ := he
  refine hK v w' ?_
  have hcl' : ∀ b, ownB β' b ↔ blkOf (claim β' os) b := fun b => blkOf_claim hf' b
  have hbl : BackL cx β st sel w w' S0k β' os := ⟨hbw.kept, hbw.keeps, hbw.size, hbw.lt, fun b o u hcell hn => ⟨(hbw.new b o u hcell hn).1, fun h => (hbw.new b o u hcell hn).2 ⟨o, h⟩⟩,
   fun b hs => ⟨fun h => (hbw.dis0 b hs).1 ((hcl' b).1 h), (hbw.dis0 b hs).2.1⟩, fun b h => (hbw.dis b ((hcl' b).1 h)).1⟩
  obtain ⟨hF, hT, hC⟩ := hfr.joinO sel hbl hf' (ps := pairsL avs as ++ trieP st.objs os sel) (fun p hp => by
   rcases List.mem_append.1 hp with hp | hp
   case inr =>
    obtain ⟨i, j, rfl, h1, h2⟩ := trieP_ok hp
    exact .inr ⟨h1, h2⟩
   obtain ⟨⟨a, a'⟩, hz, hp⟩ := List.mem_flatMap.1 hp
   obtain ⟨c, hcc, e⟩ := List.getElem_of_mem hz
   have hc1 : c < avs.length := by simp at hcc; omega
   have hc2 : c < as.length := by simp at hcc; omega
   simp only [List.getElem_zip, Prod.mk.injEq] at e
   refine pairs_ok hbl.keeps 3 a a' (vs[c]!) (by rw [← e.1]; exact hv c hc1) ?_ p hp
   have h3 := hf'.env (0 + (c + 1))
   rw [getE_enum_lt (rv :: as) 0 (c + 1) (by simpa using hc2)] at h3
   have e4 : (#[v] ++ vs).getD (0 + (c + 1)) undef = vs[c]! := by
    rw [getElem!_pos vs c (by omega), Array.getD_eq_getD_getElem?, Array.getElem?_append_right (by simp)]
    simp [show c < vs.size by omega]
   rw [e4] at h3
   rw [← e.2]
   simpa using h3)
  have hrv : TV w' ((⟨w', lendS S0k β st.objs sel, ownB β'⟩ : Cx).S β' os) β' os rv v := by
   have h3 := hf'.env (0 + 0)
   rw [getE_enum_lt (rv :: as) 0 0 (by simp)] at h3
   have e4 : (#[v] ++ vs).getD (0 + 0) undef = v := by
    rw [Array.getD_eq_getD_getElem?, Array.getElem?_append_left (by simp)]; rfl
   rw [e4] at h3
   exact h3
  have eo : (joinL st sel avs d rv as os).objs = joinO st.objs sel (renJ st.objs sel (pairsL avs as ++ trieP st.objs os sel) st.objs.length) os := by
   cases d <;> rfl
  refine ⟨g', rv, as, os, _, _, hq, hF.put (hT _ _ hrv) d ds, ?_, ?_, hbl.keeps, fun b o u hcell hn hs => ?_⟩
  ·refine ⟨Nat.le_trans hm.bs hbw.size, hm.one, fun dd hd => ?_⟩
   obtain ⟨r, h1, h2, h3, h4, h5⟩ := hm.ok dd hd
   have hmr : mkB ds r := ⟨dd, hd, h1⟩
   refine ⟨r, h1, h2, by rw [hbw.marks r hmr]; exact h3, fun ⟨i, j, e⟩ => ?_, fun hs => (hbw.dis0 r hs).2.2 hmr⟩
   have : blkOf (claim (joinLB β β' st.objs.length sel) (joinO st.objs sel (renJ st.objs sel (pairsL avs as ++ trieP st.objs os sel) st.objs.length) os)) r := (blkOf_claim hF r).1 ⟨i, j, e⟩
   obtain ⟨o, this⟩ := this
   rcases (hC r o).1 this with h | h
   ·obtain ⟨i, hi, jk, e⟩ := kept_some hfr ⟨o, h⟩
    exact h4 ⟨i, jk, e⟩
   ·exact (hbw.dis r ⟨o, h⟩).2 hmr
  ·rw [eo]
   refine hJ g' w' w' S0k _ _ hj2 (KeepL.refl _ _) (fun b hbb _ => ?_) (fun b hbb => ?_) (fun b hbb hcc => ?_)
   ·rw [blkOf_claimM] at hbb
    rw [blkOf3]
    rcases hbb with ⟨o, hbb⟩ | hbb
    ·rcases (hC b o).1 hbb with h | h
     ·exact .inr (.inl ⟨o, h⟩)
     ·exact .inl ⟨o, h⟩
    ·exact .inr (.inr hbb)
   ·rw [blkOf_claimM] at hbb
    rcases hbb with hbb | hbb
    ·obtain ⟨i, j, e⟩ := (blkOf_claim hF b).2 hbb
     exact (hF.rng _ _ _ e).1
    ·exact Nat.lt_of_lt_of_le (lt_of_heap (hm.blk hbb).2.1) hbw.size
   ·rw [blkOf_claimM] at hbb
    rcases hbb with hbb | hbb
    ·obtain ⟨i, j, e⟩ := (blkOf_claim hF b).2 hbb
     obtain ⟨o, hcc⟩ := hcc
     exact hF.notS0 e o hcc
    ·exact (hbw.dis0 b hcc).2.2 hbb
  ·rw [eo] at hs
   rcases hs with hs | hs
   ·exact (hbl.new b o u hcell hn).1 hs
   ·rcases (hC b o).1 hs with ⟨i, ob, _, h1, h2⟩ | h
    ·exact hn (.inr ⟨i, ob, h1, h2⟩)
    ·exact (hbl.new b o u hcell hn).2 h
 | panicked => exact he.elim
 | outgrown => exact he.elim
end
end Go.AM
end

section
namespace Go.AM
open Go
section
variable {P : Program} {y : Yc} {J : Inv} {cx : Cx} {β : Nat → Nat → Option Nat} {st : St} {tmps : Array Value} {ds : List Deferred} {w : World} {B : Nat} {g : Gh}
theorem yield_ok (hJ : J.stable) (hR : Rounds P y J) {ro : Option Nat} {o : Oper} {c : Operand} {args : Array Operand} {ts : Array TypeId} (ho : o.op = .call { callee := .value c, args := args, argTypes := ts })
  {k : Nat} {Q : Exit → Act → World → Prop} (hfr : FR cx β st tmps w) (hm : Mk B β cx.S0 ds w) (hj : J (false, k) w cx.S0 (claimM β st.objs ds))
  (hev : st.ev c = .lit (.func (.yield y.l) #[] #[])) (hk : k < y.xs.length) (havs : args.toList.map (st.freezeL (hsOf st args.toList)).ev = y.xs[k]) (hno : (args.toList.map (st.freezeL (hsOf st args.toList)).ev).all (AV.noH 3) = true) :
  o.wpIn (FW ro) 0 P { tmps, defers := ds } w (fun a' w' => ∃ go cx' β', FR cx' β' ((st.freezeL (hsOf st args.toList)).put o.dst (.bool go)) a'.tmps w' ∧ Mk B β' cx'.S0 ds w' ∧
   J (!go, if go then k + 1 else k) w' cx'.S0 (claimM β' (st.freezeL (hsOf st args.toList)).objs ds) ∧ a'.defers = ds ∧ Ext (cx.S β st.objs) w (cx'.S β' (st.freezeL (hsOf st args.toList)).objs) w') Q := by
 obtain ⟨β1, hf1, hsub⟩ := FR.freezeS (hsOf st args.toList) st β hfr.anchor
 obtain ⟨hj1, hm1⟩ := Inv.walk hJ hfr hm hj hf1
 generalize st.freezeL (hsOf st args.toList) = st1 at *
 have hnd : noDefer o := fun c' h => by rw [ho] at h; cases h
 have hcv : ({ tmps, defers := ds } : Act).eval c = .func (.yield y.l) #[] #[] := by
  have := hfr.ev ds c
  rw [hev] at this
  exact TV_lit this
 have hlen : (y.xs[k]).length = (args.map ({ tmps, defers := ds } : Act).eval).size := by rw [← havs]; simp
 obtain ⟨f, rt, assign, body, hrun, hround⟩ := hR k hk w cx.S0 (claimM β1 st1.objs ds) (args.map ({ tmps, defers := ds } : Act).eval) hj1 hlen (fun i hi => by
  have hi1 : i < (args.toList.map st1.ev).length := by rw [havs]; exact hi
  have hi2 : i < args.size := by simpa using hi1
  have e1 : (y.xs[k])[i] = (args.toList.map st1.ev)[i] := by simp only [havs]
  have h1 := TV.noH 3 _ _ (List.all_eq_true.1 hno _ (List.getElem_mem hi1)) (by simpa using hf1.ev ds args[i])
  rw [e1]
  have e2 : (args.map ({ tmps, defers := ds } : Act).eval)[i]! = ({ tmps, defers := ds } : Act).eval args[i] := by simp [hi2]
  rw [e2]
  simp only [List.getElem_map, Array.getElem_toList] at h1 ⊢
  refine h1.keeps (Keeps.refl _ _) fun b o' v hcell hn hh => ?_
  rw [blkOf_claimM] at hh
  rcases hh with hh | hh | hh
  ·exact hn (.inl hh)
  ·exact hn (.inr (claim_any hh))
  ·exact cell_deferred (hm1.blk hh).2.1 hcell)
 refine ⟨fun _ _ => trivial, ?_⟩
 rw [Oper.semAt_eq _ _ _ hnd]
 have hexec : (execOp ({ tmps, defers := ds } : Act).eval o).run P w = .ok (.round y.l f rt assign body) w := by
  unfold execOp
  simp only [ho, resolve, hcv, Deferred.ofValue, Sem.run_bind, Sem.run_pure, Result.andThen_ok, invoke]
  simpa using hrun
 rw [hexec]
 refine ⟨fun hd => by simp [FW, Fence.wide] at hd, ?_⟩
 have hround' : RoundIn (FW ro) 0 P y.l f rt assign body w _ := hround
 refine RoundIn.mono hround' fun e w' he => ?_
 obtain ⟨go, Cc', rfl, hs, hj2⟩ := he
 have hoth := hf1.other (S0' := Cc') hs.keep (fun i j b hb => hs.own b (blkOf_claimM.2 (.inl ((blkOf_claim hf1 b).1 ⟨i, j, hb⟩)))) hs.size hs.lt (fun b o hb ho' => hs.dis b o hb (blkOf_claimM.2 (.inl ((blkOf_claim hf1 b).1 ho')))) hs.new
 refine ⟨go, _, β1, hoth.put (.pure (.bool go)) _ ds, ?_, hj2, put_defers _ _ _, fun b o v hn hc => hs.keep b o v (fun h => hn (.inl h)) hc, fun b o v hc hn h => ?_⟩
 ·refine ⟨Nat.le_trans hm1.bs hs.size, hm1.one, fun dd hd => ?_⟩
  obtain ⟨r, h1, h2, h3, h4, h5⟩ := hm1.ok dd hd
  have hmr : mkB ds r := ⟨dd, hd, h1⟩
  exact ⟨r, h1, h2, by rw [hs.own r (blkOf_claimM.2 (.inr hmr))]; exact h3, h4, fun ⟨o', ho'⟩ => hs.dis r o' ho' (blkOf_claimM.2 (.inr hmr))⟩
 ·rcases h with h | h
  ·exact hs.new b o v hc (fun h0 => hn (.inl h0)) h
  ·exact hn (hsub b o (.inr h))
theorem EffOk.sharpV {q : Bool} {o : Oper} {K : St → Prop} (h : EffOk P q o st K) (hJ : J.stable) {Q : Exit → Act → World → Prop} (hfr : FR cx β st tmps w) (hm : Mk B β cx.S0 ds w) (hj : J g w cx.S0 (claimM β st.objs ds)) :
  o.wp P { tmps, defers := ds } w (fun a' w' => ∃ cx' β' st', K st' ∧ FR cx' β' st' a'.tmps w' ∧ Mk B β' cx'.S0 ds w' ∧ J g w' cx'.S0 (claimM β' st'.objs ds) ∧ a'.defers = ds ∧ Ext (cx.S β st.objs) w (cx'.S β' st'.objs) w' ∧ (q = true → KeepL (fun _ => False) w w')) Q := by
 refine Oper.wp_mono (fun a' w' hp => ?_) (h.sharp (ds := ds) (Q := Q) hfr.anchor)
 obtain ⟨β', st', hk, hf, hd, hext, hq⟩ := hp
 obtain ⟨hj2, hm2⟩ := Inv.walk hJ hfr hm hj hf
 exact ⟨⟨w, cx.S0, ownB β⟩, β', st', hk, hf, hm2, hj2, hd, hext, hq⟩
theorem bound_ok {o : Oper} {c : Operand} {args : Array Operand} {ts : Array TypeId} (ho : o.op = .call { callee := .value c, args := args, argTypes := ts }) {f : FuncId} {first : Array Value} (hev : st.ev c = .lit (.func (.func f) first #[])) {K : St → Prop} {Q1 : AV → List AObj → Prop}
  (hno : (first.toList.map leafC ++ args.toList.map (st.freezeL (hsOf st args.toList)).ev).all (AV.noH 3) = true) (hcall : ACall P f (first.toList.map leafC ++ args.toList.map (st.freezeL (hsOf st args.toList)).ev) Q1)
  (hK : ∀ r objs, Q1 r objs → K (joinC st (st.freezeL (hsOf st args.toList)) o.dst r objs)) : EffOk P true o st K := by
 intro cx β0 tmps w ds Q hfr0
 obtain ⟨β, hfr⟩ := FR.freezeL (hsOf st args.toList) st β0 hfr0
 have hcv : ({ tmps, defers := ds } : Act).eval c = .func (.func f) first #[] := by
  have := hfr0.ev ds c
  rw [hev] at this
  exact TV_lit this
 generalize st.freezeL (hsOf st args.toList) = st1 at *
 have hargs : Calls P f (first ++ args.map ({ tmps, defers := ds } : Act).eval) w (ACallR w (cx.S β st1.objs) Q1) := by
  refine hcall.calls _ w _ hfr.Slt (by simp) (fun k hk => ?_)
  have hx := List.all_eq_true.1 hno _ (List.getElem_mem hk)
  refine TV.noH (β := β) (objs := st1.objs) 3 _ _ hx ?_
  by_cases hlt : k < first.size
  ·have h1 : k < (first.toList.map leafC).length := by simpa using hlt
   rw [List.getElem_append_left h1]
   have h2 : (first ++ args.map ({ tmps, defers := ds } : Act).eval)[k]! = first[k] := by
    rw [getElem!_pos (first ++ args.map ({ tmps, defers := ds } : Act).eval) k (by simp; omega), Array.getElem_append_left hlt]
   rw [h2]
   simp only [List.getElem_map, Array.getElem_toList]
   exact .pure (leafC_PV _ _ _)
  ·have hk2 : k - first.size < args.size := by simp at hk; omega
   rw [List.getElem_append_right (by simpa using Nat.le_of_not_lt hlt)]
   have h2 : (first ++ args.map ({ tmps, defers := ds } : Act).eval)[k]! = ({ tmps, defers := ds } : Act).eval args[k - first.size] := by
    rw [getElem!_pos (first ++ args.map ({ tmps, defers := ds } : Act).eval) k (by simp; omega), Array.getElem_append_right (by omega)]
    simp
   rw [h2]
   simpa using hfr.ev ds args[k - first.size]
 have hrun : (execOp ({ tmps, defers := ds } : Act).eval o).run P w = .ok (.enter f (first ++ args.map ({ tmps, defers := ds } : Act).eval)) w := by
  unfold execOp
  simp only [ho, resolve, hcv, Deferred.ofValue, Sem.run_bind, Sem.run_pure, Result.andThen_ok, invoke]
  have := hcall.enters (first ++ args.map ({ tmps, defers := ds } : Act).eval) w
  simpa using this
 unfold Oper.wp Oper.upon
 rw [hrun]
 refine Calls.mono' hargs fun e w' hr => ?_
 cases e with
 | returned v =>
  obtain ⟨r, objs, β', hq, hkp, hf'⟩ := hr
  have hK1 := hK r objs hq
  unfold joinC at hK1
  split at hK1
  ·rename_i hal
   exact ⟨_, _, hK1, hfr0.join hkp hf' (.inl hal) o.dst ds, put_defers _ _ _, hkp.keeps fun _ _ _ => id, fun _ => hkp⟩
  ·exact ⟨_, _, hK1, hfr.join hkp hf' (.inr fun _ _ => id) o.dst ds, put_defers _ _ _, hkp.keeps fun _ _ _ => id, fun _ => hkp⟩
 | panicked => exact hr.elim
 | outgrown => exact hr.elim
theorem lcall_ok (hJ : J.stable) (hR : Rounds P y J) {ro : Option Nat} {o : Oper} {c : Operand} {args : Array Operand} {ts : Array TypeId} (ho : o.op = .call { callee := .value c, args := args, argTypes := ts })
  {Q : Exit → Act → World → Prop} (hfr : FR cx β st tmps w) (hm : Mk B β cx.S0 ds w) (hj : J g w cx.S0 (claimM β st.objs ds)) {f : FuncId} {caps : List AV} (hev : st.ev c = .clo f caps) {sel : List Nat} (hnd : sel.Nodup) {Qc : QG}
  (hc : GCall P y f g ((args.toList.map st.ev ++ caps).map (renA sel)) (selO st.objs sel) Qc) :
  o.wpIn (FW ro) 0 P { tmps, defers := ds } w (fun a' w' => ∃ g' rv as os cx' β', Qc g' rv as os ∧ FR cx' β' (joinL st sel (args.toList.map st.ev ++ caps) o.dst rv as os) a'.tmps w' ∧ Mk B β' cx'.S0 ds w' ∧
   J g' w' cx'.S0 (claimM β' (joinL st sel (args.toList.map st.ev ++ caps) o.dst rv as os).objs ds) ∧ a'.defers = ds ∧ Ext (cx.S β st.objs) w (cx'.S β' (joinL st sel (args.toList.map st.ev ++ caps) o.dst rv as os).objs) w') Q := by
 have hnd2 : noDefer o := fun c' h => by rw [ho] at h; cases h
 have hcv := hfr.ev ds c
 rw [hev] at hcv
 obtain ⟨vs, hcv, hcl, hcr⟩ : ∃ vs : Array Value, ({ tmps, defers := ds } : Act).eval c = .func (.func f) #[] vs ∧ caps.length = vs.size ∧ ∀ k (hk : k < caps.length), TV w (cx.S β st.objs) β st.objs (caps[k]) (vs[k]!) := by
  revert hcv
  generalize ({ tmps, defers := ds } : Act).eval c = v
  intro hc
  cases hc with
  | pure hc => cases hc with
   | clo hl hr => exact ⟨_, rfl, hl, fun k hk => .pure (hr k hk)⟩
  | clo hl hr => exact ⟨_, rfl, hl, hr⟩
 refine ⟨fun _ _ => trivial, ?_⟩
 rw [Oper.semAt_eq _ _ _ hnd2]
 have hrun : (execOp ({ tmps, defers := ds } : Act).eval o).run P w = .ok (.enter f (args.map ({ tmps, defers := ds } : Act).eval ++ vs)) w := by
  unfold execOp
  simp only [ho, resolve, hcv, Deferred.ofValue, Sem.run_bind, Sem.run_pure, Result.andThen_ok, invoke]
  have := hc.enters (args.map ({ tmps, defers := ds } : Act).eval ++ vs) w
  simpa using this
 rw [hrun]
 refine ⟨fun hd => by simp [FW, Fence.wide] at hd, ?_⟩
 refine lent_ok (sel := sel) (avs := args.toList.map st.ev ++ caps) hJ hR hfr hm hj (by simp [hcl]) (fun k hk => ?_) hnd hc o.dst (fun v w' h => ?_)
 ·by_cases hlt : k < args.size
  ·have h1 : k < (args.toList.map st.ev).length := by simpa using hlt
   rw [List.getElem_append_left h1]
   have h2 : (args.map ({ tmps, defers := ds } : Act).eval ++ vs)[k]! = ({ tmps, defers := ds } : Act).eval args[k] := by
    rw [getElem!_pos (args.map ({ tmps, defers := ds } : Act).eval ++ vs) k (by simp; omega), Array.getElem_append_left (by simpa using hlt)]
    simp
   rw [h2]
   simpa using hfr.ev ds args[k]
  ·have hk2 : k - args.size < caps.length := by simp at hk; omega
   rw [List.getElem_append_right (by simpa using Nat.le_of_not_lt hlt)]
   have hk3 : k - args.size < vs.size := by omega
   have h2 : (args.map ({ tmps, defers := ds } : Act).eval ++ vs)[k]! = vs[k - args.size]! := by
    rw [getElem!_pos (args.map ({ tmps, defers := ds } : Act).eval ++ vs) k (by simp; omega), getElem!_pos vs _ hk3, Array.getElem_append_right (by simpa using Nat.le_of_not_lt hlt)]
    simp
   rw [h2]
   simpa using hcr _ hk2
 ·obtain ⟨g', rv, as, os, cx', β', h1, h2, h3, h4, h5⟩ := h
  exact ⟨g', rv, as, os, cx', β', h1, h2, h3, h4, put_defers _ _ _, h5⟩
end
theorem noDefer_of_eff {T : Tys} {cfg : Cfg} {st : St} {o : Oper} (h : effR T cfg st o ≠ .fail) : noDefer o := by
 intro c hc
 apply h
 unfold effR
 rw [hc]
theorem Pin.act {pn : Pins} {a a' : Act} {d : Option Tmp} (h : Pin pn a.tmps) (hd : inO d pn.ks = false) (he : ∃ v, a'.tmps = (a.put d v).tmps) : Pin pn a'.tmps := by
 obtain ⟨v, e⟩ := he
 rw [e]
 exact h.put hd
theorem dropTo_all {p : Item → Bool} {id : Nat} : ∀ {r r' : List Item}, dropTo id r = some r' → r.all p = true → r'.all p = true
 | .blk j :: r, r', h, ha => by
  unfold dropTo at h
  rcases beq_cases id j with ⟨e, _⟩ | ⟨e, _⟩ <;> rw [e] at h
  ·cases h; simp at ha; simpa using ha.2
  ·exact dropTo_all h (by simp at ha; simpa using ha.2)
 | .scrub :: r, r', h, ha => dropTo_all (r := r) h (by simp at ha; simpa using ha.2)
 | .op o g k :: r, r', h, ha => dropTo_all (r := r) h (by simp at ha; simpa using ha.2)
 | .code c :: r, r', h, ha => dropTo_all (r := r) h (by simp at ha; simpa using ha.2)
 | .tree ops t :: r, r', h, ha => dropTo_all (r := r) h (by simp at ha; simpa using ha.2)
theorem lexItems_all {ks : List Nat} {nr : Bool} {cfg : Cfg} {ops : List Oper} : ∀ {l : List Oper}, l.all (opW ks) = true → (lexItems cfg ops l).all (itemW ks nr) = true
 | [], _ => rfl
 | o :: r, h => by
  simp only [List.all_cons, Bool.and_eq_true] at h
  simp only [lexItems, List.all_cons, Bool.and_eq_true]
  exact ⟨h.1, lexItems_all h.2⟩
theorem lexItems_D {P : Program} {cfg : VCfg} {c : Cfg} {ops : List Oper} : ∀ {l : List Oper}, (lexItems c ops l).all (itemD P cfg) = true
 | [] => rfl
 | o :: r => by
  simp only [lexItems, List.all_cons, Bool.and_eq_true]
  exact ⟨rfl, lexItems_D⟩
theorem schItems_D {P : Program} {cfg : VCfg} {ops : List Oper} : ∀ (sch : List (Nat × SK)), (schItems ops sch).all (itemD P cfg) = true
 | [] => rfl
 | (i, k) :: r => by
  unfold schItems
  split <;> (simp only [List.all_cons, Bool.and_eq_true]; exact ⟨rfl, schItems_D r⟩)
theorem schItems_all {ks : List Nat} {nr : Bool} {ops : List Oper} (h : ops.all (opW ks) = true) : ∀ (sch : List (Nat × SK)), (schItems ops sch).all (itemW ks nr) = true
 | [] => rfl
 | (i, k) :: r => by
  unfold schItems
  split
  ·rename_i o ho
   simp only [List.all_cons, Bool.and_eq_true]
   refine ⟨List.all_eq_true.1 h o ?_, schItems_all h r⟩
   rw [nthO_eq] at ho
   exact List.mem_of_getElem? ho
  ·simp only [List.all_cons, Bool.and_eq_true]
   exact ⟨rfl, schItems_all h r⟩
theorem aftV_ok {ro : Option Nat} {ld : Oper → Bool} {P : Program} {J : Inv} {pn : Pins} {nr : Bool} {B : Nat} {V : VC} {Q : Gh → Exit → St → Prop} {r : List Item} {cfg : VCfg} (hr : r.all (itemW pn.ks nr) = true) (hrd : r.all (itemD P cfg) = true)
  (hvc : ∀ g its st, V g its st Q → its.all (itemW pn.ks nr) = true → its.all (itemD P cfg) = true → ∀ cx β tmps w ds, FR cx β st tmps w → Mk B β cx.S0 ds w → J g w cx.S0 (claimM β st.objs ds) → Pin pn tmps → ∃ S, semX ro ld P its (QV J pn B Q) .normal { tmps, defers := ds } w S)
  {e : Exit} {g : Gh} {st : St} (h : aftV V r Q g e st) {cx : Cx} {β : Nat → Nat → Option Nat} {a : Act} {w : World} (hfr : FR cx β st a.tmps w) (hm : Mk B β cx.S0 a.defers w) (hj : J g w cx.S0 (claimM β st.objs a.defers)) (hp : Pin pn a.tmps) :
  ∃ S, semX ro ld P r (QV J pn B Q) e a w S := by
 unfold aftV at h
 split at h
 ·exact hvc _ _ _ h hr hrd _ _ _ _ _ hfr hm hj hp
 ·rename_i id
  split at h
  ·rename_i r' hr'
   obtain ⟨S, hS⟩ := hvc _ _ _ h (dropTo_all hr' hr) (dropTo_all hr' hrd) _ _ _ _ _ hfr hm hj hp
   refine ⟨S, ?_⟩
   rw [semX_exit, hr']
   exact hS
  ·rename_i hr'
   refine ⟨cx.S β st.objs, ?_⟩
   rw [semX_exit, hr']
   exact ⟨cx, β, g, st, h, hfr, hm, hj, hp⟩
 ·rename_i h1 h2
  refine ⟨cx.S β st.objs, ?_⟩
  rw [semX_other (fun e => h1 e) (fun id e => h2 id e)]
  exact ⟨cx, β, g, st, h, hfr, hm, hj, hp⟩
theorem callC_op {o : Oper} {c : Operand} {l : List Operand} (h : callC o = some (c, l)) : ∃ args ts, o.op = .call { callee := .value c, args := args, argTypes := ts } ∧ l = args.toList := by
 unfold callC at h
 split at h
 ·rename_i c' args' ts ho
  cases h; exact ⟨args', ts, ho, rfl⟩
 ·cases h
theorem effR_call {T : Tys} {cfg : Cfg} {st : St} {o : Oper} {c : Operand} {args : Array Operand} {ts : Array TypeId} (ho : o.op = .call { callee := .value c, args := args, argTypes := ts }) : effR T cfg st o = callR st c args.toList := by
 unfold effR
 rw [ho]
end Go.AM
end

section
namespace Go.AM
open Go
theorem FR.drawn {cx β st tmps w} (h : FR cx β st tmps w) : FR cx β st tmps { w with drawn := w.drawn + 1 } :=
 h.grow ⟨rfl, rfl, rfl, Nat.le_succ _, Nat.le_refl _, fun _ _ _ => rfl⟩
theorem Mk.drawn {B β S0 ds w} (h : Mk B β S0 ds w) : Mk B β S0 ds { w with drawn := w.drawn + 1 } := ⟨h.bs, h.one, h.ok⟩
theorem put_eta {a : Act} {ds : List Deferred} (h : a.defers = ds) : a = { tmps := a.tmps, defers := ds } := by cases a; simp at h; simp [h]
theorem St.put_objs (st : St) (d : Option Tmp) (v : AV) : (st.put d v).objs = st.objs := by cases d <;> rfl
section
variable {P : Program} {T : Tys} {y : Yc} {J : Inv}
theorem vc_ok {ro : Option Nat} (hT : TyOk P T) (cfg : VCfg) (hJ : J.stable) (hR : Rounds P y J) (pn : Pins) (nr : Bool) (hro : nr = false → ro = none) (B : Nat) (Q : Gh → Exit → St → Prop) : ∀ (n : Nat) (g : Gh) (its : List Item) (st : St), vc P T cfg y n g its st Q → its.all (itemW pn.ks nr) = true → its.all (itemD P cfg) = true →
  ∀ cx β tmps w ds, FR cx β st tmps w → Mk B β cx.S0 ds w → J g w cx.S0 (claimM β st.objs ds) → Pin pn tmps →
  semX ro (ldY cfg.yd) P its (QV J pn B Q) .normal { tmps, defers := ds } w (cx.S β st.objs) := by
 intro n
 induction n with
 | zero => intro g its st h; exact h.elim
 | succ n ih =>
  intro g its st h hall hdd cx β tmps w ds hfr hm hj hpin
  cases its with
  | nil => exact ⟨cx, β, g, st, h, hfr, hm, hj, hpin⟩
  | cons it r =>
   simp only [List.all_cons, Bool.and_eq_true] at hall hdd
   obtain ⟨hit, hall⟩ := hall
   obtain ⟨hid, hdd⟩ := hdd
   have hvc : ∀ g its st, vc P T cfg y n g its st Q → its.all (itemW pn.ks nr) = true → its.all (itemD P cfg) = true → ∀ cx β tmps w ds, FR cx β st tmps w → Mk B β cx.S0 ds w → J g w cx.S0 (claimM β st.objs ds) → Pin pn tmps → ∃ S, semX ro (ldY cfg.yd) P its (QV J pn B Q) .normal { tmps, defers := ds } w S :=
    fun g its st h ha hb cx β tmps w ds hf hm hj hp => ⟨_, ih g its st h ha hb cx β tmps w ds hf hm hj hp⟩
   cases it with
   | scrub => exact ih g r _ h hall hdd cx β tmps w ds (hfr.filt _) hm hj hpin
   | blk id => exact ih g r _ h hall hdd cx β tmps w ds hfr hm hj hpin
   | tree ops t =>
    have h : treeI (vc P T cfg y n) g ops r st Q t := h
    have hops : ops.toList.all (opW pn.ks) = true := hit
    cases t with
    | nil => exact ih g r _ h hall hdd cx β tmps w ds hfr hm hj hpin
    | op i k t =>
     have h : opI (vc P T cfg y n) g ops k t r st Q (nthO i ops.toList) := h
     cases ho : nthO i ops.toList with
     | none => rw [ho] at h; exact h.elim
     | some o =>
      rw [ho] at h
      have ho' : ops[i]? = some o := by rw [nthO_eq, Array.getElem?_toList] at ho; exact ho
      refine semX_tree_op ho' (ih g _ _ h ?_ ?_ cx β tmps w ds hfr hm hj hpin)
      ·simp only [List.all_cons, Bool.and_eq_true]
       exact ⟨List.all_eq_true.1 hops o (by rw [nthO_eq] at ho; exact List.mem_of_getElem? ho), hops, hall⟩
      ·simp only [List.all_cons, Bool.and_eq_true]; exact ⟨rfl, rfl, hdd⟩
    | alt t u =>
     exact ⟨ih g _ _ h.1 (by simp only [List.all_cons, Bool.and_eq_true]; exact ⟨hops, hall⟩) (by simp only [List.all_cons, Bool.and_eq_true]; exact ⟨rfl, hdd⟩) cx β tmps w ds hfr hm hj hpin,
      ih g _ _ h.2 (by simp only [List.all_cons, Bool.and_eq_true]; exact ⟨hops, hall⟩) (by simp only [List.all_cons, Bool.and_eq_true]; exact ⟨rfl, hdd⟩) cx β tmps w ds hfr hm hj hpin⟩
   | op o gd k =>
    have hnw : inO o.dst pn.ks = false := by simpa [itemW, opW] using hit
    have h : vcR P cfg y (vc P T cfg y n) g o gd k r st Q (stepO T cfg o gd k st) := h
    unfold stepO at h
    obtain ⟨g1, g2, g3⟩ := guardR_ok hfr gd
    have fin : ∀ (v : AV) (cv : Value), TV w (cx.S β st.objs) β st.objs v cv → vc P T cfg y n g r (st.put o.dst v) Q → semX ro (ldY cfg.yd) P r (QV J pn B Q) .normal (({ tmps, defers := ds } : Act).put o.dst cv) w (cx.S β st.objs) := fun v cv h2 h3 => by
     have := ih g r _ h3 hall hdd cx β _ w ds (hfr.put h2 o.dst ds) hm (by rw [St.put_objs]; exact hj) (Pin.put (a := { tmps, defers := ds }) hpin hnw)
     rw [St.put_objs] at this
     rw [← put_eta (put_defers _ _ _)] at this
     exact this
    cases hg : guardR st gd with
    | no =>
     rw [hg] at h
     have h : vc P T cfg y n g r (st.put o.dst (.lit undef)) Q := h
     have hw := g2 hg
     have := fin _ undef (.pure (.lit undef)) h
     unfold semX
     cases k with
     | eff => simp only [hw, Bool.false_eq_true, if_false]; exact this
     | strict => exact ⟨undef, .inr ⟨hw, rfl⟩, this⟩
     | loose => exact ⟨undef, .inr ⟨hw, rfl⟩, this⟩
    | bad => rw [hg] at h; exact h.elim
    | split b d =>
     rw [hg] at h
     obtain ⟨ht, hf⟩ := h
     have hd := g3 b d hg
     cases hb : b with
     | true => rw [hb] at hd ht; exact ih g _ _ (ht rfl) (by simp only [List.all_cons, Bool.and_eq_true]; exact ⟨hit, hall⟩) (by simp only [List.all_cons, Bool.and_eq_true]; exact ⟨rfl, hdd⟩) cx β tmps w ds (hfr.setB hd) hm hj hpin
     | false => rw [hb] at hd hf; exact ih g _ _ (hf rfl) (by simp only [List.all_cons, Bool.and_eq_true]; exact ⟨hit, hall⟩) (by simp only [List.all_cons, Bool.and_eq_true]; exact ⟨rfl, hdd⟩) cx β tmps w ds (hfr.setB hd) hm hj hpin
    | yes =>
     rw [hg] at h
     have h : vcR P cfg y (vc P T cfg y n) g o gd k r st Q (stepK T cfg o k st) := h
     have hw := g1 hg
     have finP : ∀ (k : SK), k ≠ .eff → vcR P cfg y (vc P T cfg y n) g o gd k r st Q (prS st o.dst (pureOp T k.s st o)) → semX ro (ldY cfg.yd) P (.op o gd k :: r) (QV J pn B Q) .normal { tmps, defers := ds } w (cx.S β st.objs) := fun k hk h => by
      have hp := pureOp_ok (P := P) hT (s := k.s) hfr ds o
      generalize pureOp T k.s st o = pr at hp h
      have done : ∀ (v : AV), (∃ cv, (∀ w', Cls k.s (cx.S β st.objs) w w' → (execOp ({ tmps, defers := ds } : Act).eval o).run P w' = .ok (.value cv) w') ∧ TV w (cx.S β st.objs) β st.objs v cv) → vc P T cfg y n g r (st.put o.dst v) Q →
        semX ro (ldY cfg.yd) P (.op o gd k :: r) (QV J pn B Q) .normal { tmps, defers := ds } w (cx.S β st.objs) := fun v ⟨cv, h1, h2⟩ h3 => by
       have := fin v cv h2 h3
       unfold semX
       cases k with
       | eff => exact absurd rfl hk
       | strict => exact ⟨cv, .inl ⟨hw, h1⟩, this⟩
       | loose => exact ⟨cv, .inl ⟨hw, h1⟩, this⟩
      cases pr with
      | no => exact h.elim
      | val v => exact done v hp h
      | gval p v => exact done v (hp h.1) h.2
     cases k with
     | strict => exact finP .strict (by simp) h
     | loose => exact finP .loose (by simp) h
     | eff =>
      have h : vcR P cfg y (vc P T cfg y n) g o gd .eff r st Q (effK T cfg o st (callC o)) := h
      have effk : ∀ (u : Unit), noDefer o → (∃ q, (Oper.loud o = false → q = true) ∧ EffOk P q o st (fun s => vc P T cfg y n g r s Q)) → semX ro (ldY cfg.yd) P (.op o gd .eff :: r) (QV J pn B Q) .normal { tmps, defers := ds } w (cx.S β st.objs) := fun _ hnd key => by
       obtain ⟨q, hq, hk⟩ := key
       unfold semX
       simp only [hw, if_true]
       refine ⟨hnd, Oper.wpIn_mono (fun a' w' hp => ?_) (Oper.wpIn_put (Oper.wpIn_of_wp hnd (hk.sharpV (Q := noQ) hJ hfr hm hj)))⟩
       obtain ⟨⟨cx', β', st', hk', hf, hm', hj', hd, hext, hqk⟩, hput⟩ := hp
       refine ⟨_, hext, fun hl => hqk (hq (ldY_loud hl)), ?_⟩
       rw [put_eta hd]
       exact ih g r st' hk' hall hdd cx' β' _ w' ds hf hm' hj' (Pin.act (a := { tmps, defers := ds }) hpin hnw hput)
      have effs : ∀ e : EffR, effR T cfg.c st o = e → vcR P cfg y (vc P T cfg y n) g o gd .eff r st Q (effS e) → semX ro (ldY cfg.yd) P (.op o gd .eff :: r) (QV J pn B Q) .normal { tmps, defers := ds } w (cx.S β st.objs) := fun e he h => by
       have hne : effR T cfg.c st o ≠ .fail := fun e' => by rw [← he, e'] at h; exact h
       refine effk () (noDefer_of_eff hne) ?_
       have key : ∃ q, (Oper.loud o = false → q = true) ∧ EffOk P q o st (fun s => vc P T cfg y n g r s Q) := by
        refine effR_ok hT (cfg := cfg.c) ?_
        rw [he]
        cases e with
        | fail => exact h.elim
        | st s => exact h
        | ob p s => exact h
        | call f args s0 s => exact h
        | new p F s => exact h
       exact key
      cases hcc : callC o with
      | none => rw [hcc] at h; exact effs _ rfl h
      | some ca =>
       obtain ⟨c, l⟩ := ca
       rw [hcc] at h
       obtain ⟨args, ts, ho, rfl⟩ := callC_op hcc
       have h : vcR P cfg y (vc P T cfg y n) g o gd .eff r st Q (callS cfg st c args.toList) := h
       have hnd : noDefer o := fun c' h => by rw [ho] at h; cases h
       unfold callS at h
       split at h
       ·rename_i v hev
        unfold litS at h
        split at h
        ·rename_i f first cap
         split at h
         ·rename_i hcap hno
          have hc : cap = #[] := by cases cap; simp at hcap; subst hcap; rfl
          subst hc
          obtain ⟨Q1, hcall, hK⟩ := h
          exact effk () hnd ⟨true, fun _ => rfl, bound_ok ho hev hno hcall hK⟩
         ·exact h.elim
        obtain ⟨hv, hld, hg1, hno, ⟨hk, havs⟩, hT1, hF1⟩ := h
        obtain ⟨gs, gk⟩ := g
        simp only at hg1 hk havs hT1 hF1
        subst hg1
        subst hv
        unfold semX
        simp only [hw, if_true]
        refine ⟨hnd, Oper.wpIn_mono (fun a' w' hp => ?_) (Oper.wpIn_put (yield_ok (Q := noQ) hJ hR ho hfr hm hj hev hk havs hno))⟩
        obtain ⟨⟨go, cx', β', hf, hm', hj2, hd, hext⟩, hput⟩ := hp
        refine ⟨_, hext, fun hl => (by rw [hld] at hl; cases hl), ?_⟩
        have hpin' := Pin.act (a := { tmps, defers := ds }) hpin hnw hput
        rw [put_eta hd]
        cases go with
        | true =>
         have := ih (false, gk + 1) r _ hT1 hall hdd cx' β' _ w' ds hf hm' (by rw [St.put_objs]; exact hj2) hpin'
         rw [St.put_objs] at this
         exact this
        | false =>
         have := ih (true, gk) r _ hF1 hall hdd cx' β' _ w' ds hf hm' (by rw [St.put_objs]; exact hj2) hpin'
         rw [St.put_objs] at this
         exact this
       ·rename_i f caps hev
        split at h
        ·obtain ⟨hld, Qc, hcall, hK⟩ := h
         unfold semX
         simp only [hw, if_true]
         refine ⟨hnd, Oper.wpIn_mono (fun a' w' hp => ?_) (Oper.wpIn_put (lcall_ok (Q := noQ) hJ hR ho hfr hm hj hev (reach3_nodup _ _) hcall))⟩
         obtain ⟨⟨g', rv, as, os, cx', β', hq, hf, hm', hj2, hd, hext⟩, hput⟩ := hp
         refine ⟨_, hext, fun hl => (by rw [hld] at hl; cases hl), ?_⟩
         rw [put_eta hd]
         exact ih g' r _ (hK _ _ _ _ hq) hall hdd cx' β' _ w' ds hf hm' hj2 (Pin.act (a := { tmps, defers := ds }) hpin hnw hput)
        ·rw [← effR_call ho (T := T) (cfg := cfg.c)] at h
         exact effs _ rfl h
       ·exact h.elim
   | code c =>
    have hit : codeW pn.ks nr c = true := hit
    have hid : codeD P cfg c = true := hid
    cases c with
    | skip => exact wpIn_skip ⟨_, ih g r st h hall hdd cx β tmps w ds hfr hm hj hpin⟩
    | label l => exact wpIn_label ⟨_, ih g r st h hall hdd cx β tmps w ds hfr hm hj hpin⟩
    | seq a b =>
     simp only [codeW, Bool.and_eq_true] at hit
     simp only [codeD, Bool.and_eq_true] at hid
     have := ih g _ _ h (by simp only [List.all_cons, Bool.and_eq_true]; exact ⟨hit.1, hit.2, hall⟩) (by simp only [List.all_cons, Bool.and_eq_true]; exact ⟨hid.1, hid.2, hdd⟩) cx β tmps w ds hfr hm hj hpin
     refine wpIn_seq (wpIn_mono this (fun e a w hq => ?_))
     obtain ⟨S, hq⟩ := hq
     cases e <;> first
      | exact hq
      | exact ⟨S, hq⟩
    | block id c =>
     have := ih g _ _ h (by simp only [List.all_cons, Bool.and_eq_true]; exact ⟨hit, rfl, hall⟩) (by simp only [List.all_cons, Bool.and_eq_true]; exact ⟨hid, rfl, hdd⟩) cx β tmps w ds hfr hm hj hpin
     refine wpIn_block (wpIn_mono this (fun e a w hq => ?_))
     obtain ⟨S, hq⟩ := hq
     cases e with
     | exit id' =>
      have hq : semX ro (ldY cfg.yd) P r (QV J pn B Q) (if id' = id then .normal else .exit id') a w S := hq
      unfold Exit.inBlock
      simp only []
      split
      ·rename_i e; rw [if_pos e] at hq; exact ⟨S, hq⟩
      ·rename_i e; rw [if_neg e] at hq; exact ⟨S, hq⟩
     | _ => exact ⟨S, hq⟩
    | exit id =>
     refine wpIn_exit ?_
     refine aftV_ok hall hdd hvc (e := .exit id) (V := vc P T cfg y n) (a := { tmps, defers := ds }) (st := st) (g := g) ?_ hfr hm hj hpin
     unfold aftV
     have h : exitI (vc P T cfg y n) g id st Q (dropTo id r) := h
     simp only []
     cases hd : dropTo id r with
     | none => rw [hd] at h; exact h
     | some r' => rw [hd] at h; exact h
    | ret =>
     refine wpIn_ret ⟨cx.S β st.objs, ?_⟩
     rw [semX_other (by simp) (by simp)]
     exact ⟨cx, β, g, st, h, hfr, hm, hj, hpin⟩
    | loop c =>
     have h : AWP P y g (.loop c) st (aftV (vc P T cfg y n) r Q) := h
     refine wpIn_mono (h J hJ hR pn nr hit ro hro B cx β tmps w ds hfr hm hj hpin) (fun e a w hq => ?_)
     obtain ⟨cx', β', g', st', h1, h2, h3, h4, h5⟩ := hq
     exact aftV_ok hall hdd hvc h1 h2 h3 h4 h5
    | rangeFunc f ps a b =>
     have h : AWP P y g (.rangeFunc f ps a b) st (aftV (vc P T cfg y n) r Q) := h
     refine wpIn_mono (h J hJ hR pn nr hit ro hro B cx β tmps w ds hfr hm hj hpin) (fun e a w hq => ?_)
     obtain ⟨cx', β', g', st', h1, h2, h3, h4, h5⟩ := hq
     exact aftV_ok hall hdd hvc h1 h2 h3 h4 h5
    | cond c a b =>
     simp only [codeW, Bool.and_eq_true] at hit
     simp only [codeD, Bool.and_eq_true] at hid
     have h : condI (vc P T cfg y n) g a b r st Q (st.ev c) := h
     have hc := hfr.ev ds c
     unfold condI at h
     split at h
     ·rename_i he
      rw [he] at hc
      exact wpIn_cond_true (TV_lit hc) (ih g _ _ h (by simp only [List.all_cons, Bool.and_eq_true]; exact ⟨hit.1, hall⟩) (by simp only [List.all_cons, Bool.and_eq_true]; exact ⟨hid.1, hdd⟩) cx β tmps w ds hfr hm hj hpin)
     ·rename_i he
      rw [he] at hc
      exact wpIn_cond_false (TV_lit hc) (ih g _ _ h (by simp only [List.all_cons, Bool.and_eq_true]; exact ⟨hit.2, hall⟩) (by simp only [List.all_cons, Bool.and_eq_true]; exact ⟨hid.2, hdd⟩) cx β tmps w ds hfr hm hj hpin)
     ·rename_i v he
      rw [he] at hc
      have hc : ({ tmps, defers := ds } : Act).eval c = .bool v := by
       generalize ({ tmps, defers := ds } : Act).eval c = u at hc
       cases hc with | pure hc => cases hc; rfl
      exact wpIn_cond_split hc (fun e => ih g _ _ (h.1 e) (by simp only [List.all_cons, Bool.and_eq_true]; exact ⟨hit.1, hall⟩) (by simp only [List.all_cons, Bool.and_eq_true]; exact ⟨hid.1, hdd⟩) cx β tmps w ds hfr hm hj hpin)
       (fun e => ih g _ _ (h.2 e) (by simp only [List.all_cons, Bool.and_eq_true]; exact ⟨hit.2, hall⟩) (by simp only [List.all_cons, Bool.and_eq_true]; exact ⟨hid.2, hdd⟩) cx β tmps w ds hfr hm hj hpin)
     ·exact h.elim
    | region id ops draw =>
     have hops : ops.toList.all (opW pn.ks) = true := hit
     cases draw with
     | false =>
      have := ih g _ _ h (by rw [List.all_append, Bool.and_eq_true]; exact ⟨lexItems_all hops, by simp only [List.all_cons, Bool.and_eq_true]; exact ⟨rfl, hall⟩⟩) (by rw [List.all_append, Bool.and_eq_true]; exact ⟨lexItems_D, by simp only [List.all_cons, Bool.and_eq_true]; exact ⟨rfl, hdd⟩⟩) cx β tmps w ds hfr hm hj hpin
      have e1 := lexItems_eq cfg.c ops.toList ops.toList [] (by simp)
      simp only [List.length_nil] at e1
      rw [← e1] at this
      have h2 := wpSch_of_sem (P := P) (ops := ops) (Q := QV J pn B Q) (r := .scrub :: r) _ _ _ _ (fun x hx => by
       have hx1 : x.1 ∈ (lexSch cfg.c 0 ops.toList).map (·.1) := List.mem_map_of_mem hx
       rw [lexSch_fst] at hx1
       simp at hx1
       rw [nthO_eq]; simpa using hx1) this
      refine wpIn_region ?_
      have h3 := wpOps_of_sch (Q' := fun e a w => ∃ S, semX ro (ldY cfg.yd) P r (QV J pn B Q) e a w S) (fun a w S hs => ⟨S, hs⟩) _ _ _ _ h2
      rw [lexSch_fst] at h3
      rw [List.range_eq_range']
      simpa using h3
     | true =>
      have h : drawI (vc P T cfg y n) g ops r st Q (lookSch id cfg.sch) := h
      unfold drawI at h
      split at h
      ·rename_i sch hs
       have hd : DrawOk P (ldY cfg.yd) ops sch := drawB_ok (by
        have hid : drawC P cfg ops (lookSch id cfg.sch) = true := hid
        rw [hs] at hid
        exact hid)
       have := ih g _ _ h (by simp only [List.all_cons, Bool.and_eq_true]; exact ⟨hops, rfl, hall⟩) (by simp only [List.all_cons, Bool.and_eq_true]; exact ⟨rfl, rfl, hdd⟩) cx β tmps _ ds hfr.drawn hm.drawn
        ((Inv.walk hJ hfr hm hj (hfr.anchor.drawn)).1) hpin
       exact wp_region_tree hd.mixed hd.sel hd.len hd.ok (fun a w S hs => ⟨S, hs⟩) this
      ·exact h.elim
    | _ => exact h.elim
end
end Go.AM
end
