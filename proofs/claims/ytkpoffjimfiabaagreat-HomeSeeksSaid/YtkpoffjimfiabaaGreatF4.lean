/-
  Contracts of functions, loops and ranges over functions; reading of arguments; the join of a law that answers true.
-/
import Derived.Test.YtkpoffjimfiabaaGreatF3
import Derived.RangeFuncLeaves
import Derived.ProofKit
import Derived.Carry
import Derived.ChangeOld
import Derived.Deep.Matrix
import Derived.Lib.SmallJoins
import Derived.KernelRfl
import Derived.SizedLaws
import Derived.OpenShut
import Derived.ChangeMaps5
set_option linter.unusedVariables false
set_option linter.unusedSimpArgs false
set_option linter.unusedSectionVars false
set_option linter.unnecessarySimpa false

section
namespace Go.AM
open Go
theorem wpIn_loopN {F : Fence} {n₀ : Nat} {P : Program} {Q : Exit → Act → World → Prop} {c : Code} (R : Nat → Act → World → Prop) (round : ∀ n a w, R n a w → c.wpIn F n₀ P (Exit.then (fun a' w' => ∃ m, m < n ∧ R m a' w') Q) a w) (n : Nat) (a : Act) (w : World) (h₀ : R n a w) : (Code.loop c).wpIn F n₀ P Q a w := by
 intro b k cs hro hb hr
 have key : ∀ n a w, R n a w →
   ∃ e a' w', Q e a' w' ∧ ArrivesIn (Machine.fenced P F) P (lone (b.atR a (.code c :: .inLoop c :: k)) cs w) b k cs e a' w' := by
  intro n
  induction n using Nat.strongRecOn with
  | _ n ih =>
   intro a w hI
   obtain ⟨e, a₁, w₁, hq, harr⟩ := round n a w hI b (.inLoop c :: k) cs hro hb hr
   cases e with
   | normal =>
    obtain ⟨m, hlt, hI₁⟩ := hq
    obtain ⟨e₂, a₂, w₂, hq₂, harr₂⟩ := ih m hlt a₁ w₁ hI₁
    exact ⟨e₂, a₂, w₂, hq₂, .of_steps (StepsIn.trans harr (.one (fenced_calm hb hr rfl) stepR_inLoop)) harr₂⟩
   | exit id => exact ⟨_, a₁, w₁, hq, .pass (x := .inLoop c) rfl (fun _ _ => .inl (by simp)) harr⟩
   | goto l => exact ⟨_, a₁, w₁, hq, .pass (x := .inLoop c) rfl (fun _ _ => .inl (by simp)) harr⟩
   | ret => exact ⟨_, a₁, w₁, hq, .pass (x := .inLoop c) rfl (fun _ _ => .inl (by simp)) harr⟩
   | panic ch => exact ⟨_, a₁, w₁, hq, .pass (x := .inLoop c) rfl (fun _ _ => .inl (by simp)) harr⟩
   | outgrown => exact ⟨_, a₁, w₁, hq, .pass (x := .inLoop c) rfl (fun _ _ => .inl (by simp)) harr⟩
 obtain ⟨e, a', w', hq, harr⟩ := key _ a w h₀
 exact ⟨e, a', w', hq, .of_steps (.one (fenced_calm hb hr rfl) stepR_loop) harr⟩
def keepE (env : List (Nat × AV)) : List Nat → List (Nat × AV)
 | [] => []
 | k :: r => (k, getE k env) :: keepE env r
theorem getE_keepE (env : List (Nat × AV)) (t : Nat) : ∀ ks : List Nat, getE t (keepE env ks) = getE t env ∨ getE t (keepE env ks) = .junk
 | [] => .inr rfl
 | k :: r => by
  have h1 : getE t (keepE env (k :: r)) = match Nat.beq k t with
   | true => getE k env
   | false => getE t (keepE env r) := rfl
  rw [h1]
  rcases beq_cases k t with ⟨e, rfl⟩ | ⟨e, _⟩
  ·rw [e]; exact .inl rfl
  ·rw [e]; exact getE_keepE env t r
def hsE : List (Nat × AV) → List Nat
 | [] => []
 | (_, x) :: r => x.hs 3 ++ hsE r
def St.gc (st : St) (keys : List Nat) : St := ({ st with env := keepE st.env keys } : St).select (reach st.objs (hsE (keepE st.env keys)))
theorem FR.gc {cx β st tmps w} (h : FR cx β st tmps w) (keys : List Nat) : ∃ β', FR cx β' (st.gc keys) tmps w := by
 have h1 : FR cx β { st with env := keepE st.env keys } tmps w := h.reenv (st := st) h.size fun t => by
  rcases getE_keepE st.env t keys with e | e
  ·rw [e]; exact h.env t
  ·rw [e]; exact .pure (.junk _)
 exact ⟨_, h1.select _ (dedup_nodup _)⟩
def resA (T : Tys) (st : St) : List ResultVar → Option (List AV)
 | [] => some []
 | .tmp t :: r => match resA T st r with
  | some l => some (getE t st.env :: l)
  | none => none
 | .cell a t :: r => match loadA T false st.objs t (getE a st.env), resA T st r with
  | .val v, some l => some (coerce T t v :: l)
  | _, _ => none
def resGet (tmps : Array Value) : ResultVar → Sem Value
 | .tmp t => pure (tmps.getD t undef)
 | .cell a t => do loadVar t (← asAddr (tmps.getD a undef))
theorem resA_ok {P : Program} {T : Tys} (hT : TyOk P T) {cx : Cx} {β : Nat → Nat → Option Nat} {st : St} {tmps : Array Value} {w : World} (h : FR cx β st tmps w) : ∀ (rs : List ResultVar) (avs : List AV), resA T st rs = some avs →
  ∃ vs : List Value, (rs.mapM (resGet tmps)).run P w = .ok vs w ∧ avs.length = vs.length ∧ ∀ c (h1 : c < avs.length) (h2 : c < vs.length), TV w (cx.S β st.objs) β st.objs (avs[c]) (vs[c])
 | [], avs, he => by
  cases he
  exact ⟨[], rfl, rfl, fun c h => absurd h (Nat.not_lt_zero c)⟩
 | .tmp t :: r, avs, he => by
  unfold resA at he
  split at he
  ·rename_i l hl
   cases he
   obtain ⟨vs, h1, h2, h3⟩ := resA_ok hT h r l hl
   refine ⟨tmps.getD t undef :: vs, by simp [resGet, h1], by simp [h2], fun c k1 k2 => ?_⟩
   cases c with
   | zero => exact h.env t
   | succ c => simpa using h3 c (by simpa using k1) (by simpa using k2)
  ·cases he
 | .cell a t :: r, avs, he => by
  unfold resA at he
  split at he
  ·rename_i v l hv hl
   cases he
   obtain ⟨vs, h1, h2, h3⟩ := resA_ok hT h r l hl
   have hld := loadA_ok (s := false) hT h t _ _ (h.env a)
   rw [hv] at hld
   obtain ⟨cv, hr, htv⟩ := hld
   have hr := hr w (Cls.refl _ _ _)
   have hg : (resGet tmps (.cell a t)).run P w = .ok cv w := by
    unfold Instr.loadAt at hr
    unfold resGet
    simp only []
    generalize tmps.getD a undef = u at hr
    cases u with
    | pointer x =>
     cases x with
     | some ad => exact hr
     | none => simp [Instr.sureAddr, stuck, Sem.run, bind, Sem.bind] at hr
    | _ => simp [Instr.sureAddr, stuck, Sem.run, bind, Sem.bind] at hr
   refine ⟨cv :: vs, by rw [List.mapM_cons]; simp [Sem.run_bind, hg, h1], by simp [h2], fun c k1 k2 => ?_⟩
   cases c with
   | zero => exact htv.coerce
   | succ c => simpa using h3 c (by simpa using k1) (by simpa using k2)
  ·cases he
def keysOf (i : Nat) : List AV → List Nat
 | [] => []
 | _ :: r => i :: keysOf (i + 1) r
theorem keysOf_mem : ∀ (l : List AV) (i c : Nat), c < l.length → i + c ∈ keysOf i l
 | x :: r, i, 0, _ => by simp [keysOf]
 | x :: r, i, c + 1, h => by
  have := keysOf_mem r (i + 1) c (by simpa using h)
  simp only [keysOf, List.mem_cons]
  exact .inr (by rw [show i + (c + 1) = i + 1 + c by omega]; exact this)
def resR : List AV → AV
 | [a] => a
 | l => .tup l
def resVal : List Value → Value
 | [a] => a
 | l => .tuple l.toArray
theorem results_run {P : Program} {T : Tys} (hT : TyOk P T) {fn : Func} {rs : List ResultVar} (hr : fn.results = rs.toArray) {cx : Cx} {β : Nat → Nat → Option Nat} {st : St} {tmps : Array Value} {w : World} (h : FR cx β st tmps w) {avs : List AV} (ha : resA T st rs = some avs) :
  ∃ v, (results fn tmps).run P w = .ok v w ∧ TV w (cx.S β st.objs) β st.objs (resR avs) v := by
 obtain ⟨us, hu1, hu2, hu3⟩ := resA_ok hT h rs avs ha
 have e1 : results fn tmps = (do let vs ← rs.toArray.mapM (resGet tmps); pure (if h : vs.size = 1 then vs[0] else .tuple vs)) := by
  unfold results
  rw [hr]
  rfl
 refine ⟨resVal us, ?_, ?_⟩
 ·rw [e1, List.mapM_toArray]
  simp only [map_eq_pure_bind, bind_assoc, pure_bind, Sem.run_bind, hu1, Result.andThen, Sem.run_pure]
  congr 1
  match us with
  | [] => rfl
  | [u] => rfl
  | u :: u' :: r => rw [dif_neg (by simp)]; rfl
 ·match avs, us, hu2, hu3 with
  | [], [], _, _ => exact .tup rfl fun c hc => absurd hc (Nat.not_lt_zero _)
  | [a], [u], _, h3 => exact h3 0 (by simp) (by simp)
  | a :: a' :: r, u :: u' :: r', h2, h3 =>
   refine .tup (by simpa using h2) fun c hc => ?_
   have hc' : c < (u :: u' :: r').length := by rw [← h2]; exact hc
   have := h3 c hc hc'
   rw [getElem!_pos _ _ (by simpa using hc')]
   simpa using this
def pinE (env : List (Nat × AV)) (ks : List Nat) (i : Nat) : Nat → List AV
 | 0 => []
 | m + 1 => (match elemN i ks with
  | true => getE i env
  | false => .junk) :: pinE env ks (i + 1) m
theorem pinE_len (env ks) : ∀ (m i : Nat), (pinE env ks i m).length = m
 | 0, _ => rfl
 | m + 1, i => by simp [pinE, pinE_len env ks m]
theorem pinE_get (env ks) : ∀ (m i c : Nat) (h : c < (pinE env ks i m).length), (pinE env ks i m)[c] = match elemN (i + c) ks with
  | true => getE (i + c) env
  | false => .junk
 | m + 1, i, 0, _ => rfl
 | m + 1, i, c + 1, h => by
  have := pinE_get env ks m (i + 1) c (by simpa [pinE] using h)
  simp only [pinE, List.getElem_cons_succ]
  rw [this, show i + 1 + c = i + (c + 1) by omega]
def endS (st : St) (l : List AV) : St := St.gc ⟨l.length, enumE 0 l, st.objs⟩ (keysOf 0 l)
def sndE : List (Nat × AV) → List AV
 | [] => []
 | (_, x) :: r => x :: sndE r
def headQ (Q : AV → List AV → List AObj → Prop) (os : List AObj) : List AV → Prop
 | [] => False
 | r :: as => Q r as os
def retC1 (Q : AV → List AObj → Prop) (st : St) : Option (List AV) → Prop
 | some avs => headQ (fun r _ os => Q r os) (endS st [resR avs]).objs (sndE (endS st [resR avs]).env)
 | none => False
def retC (T : Tys) (rs : List ResultVar) (Q : AV → List AObj → Prop) : Gh → Exit → St → Prop := fun _ e st =>
 match e with
 | .normal => retC1 Q st (resA T st rs)
 | .ret => retC1 Q st (resA T st rs)
 | _ => False
def retG1 (Q : QG) (g : Gh) (ks : List Nat) (m : Nat) (st : St) : Option (List AV) → Prop
 | some avs => headQ (Q g) (endS st (resR avs :: pinE st.env ks 0 m)).objs (sndE (endS st (resR avs :: pinE st.env ks 0 m)).env)
 | none => False
def retG (T : Tys) (rs : List ResultVar) (ks : List Nat) (m : Nat) (Q : QG) : Gh → Exit → St → Prop := fun g e st =>
 match e with
 | .normal => retG1 Q g ks m st (resA T st rs)
 | .ret => retG1 Q g ks m st (resA T st rs)
 | _ => False
theorem sndE_len : ∀ e : List (Nat × AV), (sndE e).length = e.length
 | [] => rfl
 | (_, _) :: r => by simp [sndE, sndE_len r]
theorem mapE_len (g : AV → AV) : ∀ e : List (Nat × AV), (mapE g e).length = e.length
 | [] => rfl
 | (_, _) :: r => by simp [mapE, mapE_len g r]
theorem keepE_len (env) : ∀ ks : List Nat, (keepE env ks).length = ks.length
 | [] => rfl
 | _ :: r => by simp [keepE, keepE_len env r]
theorem keysOf_len : ∀ (l : List AV) (i : Nat), (keysOf i l).length = l.length
 | [], _ => rfl
 | _ :: r, i => by simp [keysOf, keysOf_len r]
theorem enum_snd (f : AV → AV) (env : List (Nat × AV)) : ∀ (l : List AV) (i : Nat), mapE f (keepE env (keysOf i l)) = enumE i (sndE (mapE f (keepE env (keysOf i l))))
 | [], _ => rfl
 | _ :: r, i => by
  simp only [keysOf, keepE, mapE, sndE, enumE]
  rw [← enum_snd f env r (i + 1)]
theorem endS_ok {cx : Cx} {β : Nat → Nat → Option Nat} {st : St} {tmps : Array Value} {w : World} (h : FR cx β st tmps w) {l : List AV} {vs : Array Value} (hl : l.length = vs.size) (hv : ∀ c (h : c < l.length), TV w (cx.S β st.objs) β st.objs (l[c]) (vs[c]!)) :
  ∃ β', FR cx β' ⟨l.length, enumE 0 (sndE (endS st l).env), (endS st l).objs⟩ vs w ∧ (sndE (endS st l).env).length = l.length := by
 have h1 : FR cx β ⟨l.length, enumE 0 l, st.objs⟩ vs w := h.reenv (st := st) hl.symm fun t => by
  rcases getE_enumE l 0 t with ⟨c, hc, h1, h2⟩ | h2
  ·rw [h2]
   have h1 : t = c := by omega
   subst h1
   have e1 : vs.getD t undef = vs[t]! := by rw [getElem!_pos vs t (by omega)]; simp [Array.getD, show t < vs.size by omega]
   rw [e1]
   exact hv t hc
  ·rw [h2]; exact .pure (.junk _)
 obtain ⟨β', h2⟩ := h1.gc (keysOf 0 l)
 have e : enumE 0 (sndE (endS st l).env) = (endS st l).env := by
  unfold endS St.gc St.select
  exact (enum_snd _ _ l 0).symm
 refine ⟨β', ?_, ?_⟩
 ·rw [e]
  exact h2
 ·unfold endS St.gc St.select
  simp only [sndE_len, mapE_len, keepE_len, keysOf_len]
theorem takeDeferred_run {P : Program} {r : Nat} {w : World} (h : w.heap[r]? = some (.deferred (some []))) :
  (Instr.takeDeferred r).run P w = .ok [] { w with heap := w.heap.setIfInBounds r (.deferred none) } := by
 have hlt := lt_of_heap h
 unfold Instr.takeDeferred
 simp [Sem.run_bind, getObj, setObj, Sem.run, h, Result.andThen, bind, Sem.bind, pure]
end Go.AM
end

section
namespace Go.AM
open Go
structure OffM (ds : List Deferred) (w w2 : World) : Prop where
 keep : KeepL (mkB ds) w w2
 size : w2.heap.size = w.heap.size
theorem leaves_marks {P : Program} {fn : Func} {tmps : Array Value} {R : Ending → World → Prop} : ∀ (ds : List Deferred) (w : World), ds.Pairwise (fun d d' => d.target ≠ d'.target) → (∀ d ∈ ds, ∃ r, d.target = .collected r ∧ w.heap[r]? = some (.deferred (some []))) →
  (∀ w2, OffM ds w w2 → ∃ v, (results fn tmps).run P w2 = .ok v w2 ∧ R (.returned v) w2) → LeavesInM (FW none) 0 P fn tmps R ds .returning w
 | [], w, _, _, h => h w ⟨KeepL.refl _ _, rfl⟩
 | d :: ds, w, hp, hd, h => by
  obtain ⟨r, ht, hr⟩ := hd d (by simp)
  rw [List.pairwise_cons] at hp
  refine ⟨by simp, .inl ⟨r, _, ht, takeDeferred_run hr, ?_⟩⟩
  have hne : ∀ d' ∈ ds, ∀ r', d'.target = .collected r' → r ≠ r' := fun d' hd' r' ht' e => hp.1 d' hd' (by rw [ht, ht', e])
  have hset : ∀ b, b ≠ r → (w.heap.setIfInBounds r (.deferred none))[b]? = w.heap[b]? := fun b hb => Array.getElem?_setIfInBounds_ne (Ne.symm hb)
  refine leaves_marks ds _ hp.2 (fun d' hd' => ?_) (fun w2 hw2 => h w2 ⟨⟨hw2.keep.os, hw2.keep.tape, hw2.keep.output, hw2.keep.drawn, ?_, fun k hk hn => ?_⟩, ?_⟩)
  ·obtain ⟨r', ht', hr'⟩ := hd d' (by simp [hd'])
   refine ⟨r', ht', ?_⟩
   show (w.heap.setIfInBounds r (.deferred none))[r']? = _
   rw [hset r' (Ne.symm (hne d' hd' r' ht'))]; exact hr'
  ·have := hw2.keep.size; simpa using this
  ·have hkr : k ≠ r := fun e => hn ⟨d, by simp, by rw [ht, e]⟩
   rw [hw2.keep.block k (by simpa using hk) fun ⟨d', hd', e⟩ => hn ⟨d', by simp [hd'], e⟩]
   exact hset k hkr
  ·have := hw2.size; simpa using this
theorem FR.offM {cx : Cx} {β : Nat → Nat → Option Nat} {st : St} {tmps : Array Value} {w w2 : World} {B : Nat} {ds : List Deferred} (h : FR cx β st tmps w) (hm : Mk B β cx.S0 ds w) (ho : OffM ds w w2) : FR ⟨w2, cx.S0, ownB β⟩ β st tmps w2 := by
 have hc : ∀ b o v, w.cell? ⟨b, o, none⟩ = some v → ¬ mkB ds b := fun b o v hc hmb => cell_deferred (hm.blk hmb).2.1 hc
 refine h.other (fun b o v _ hcell => ?_) (fun i j b hb => ?_) ho.keep.size (fun b o hs => ?_) (fun b o hs ⟨i, j, hb⟩ => h.notS0 hb o hs) (fun _ _ _ _ hn => hn)
 ·rw [cell?_of_heap (ho.keep.block b (lt_of_cell? hcell) (hc b o v hcell))]; exact hcell
 ·exact ho.keep.block b (h.rng _ _ _ hb).1 fun hmb => (hm.blk hmb).2.2.1 ⟨i, j, hb⟩
 ·exact Nat.lt_of_lt_of_le (Nat.lt_of_lt_of_le (h.s0 b o hs).1 h.keep.size) ho.keep.size
theorem J_offM {J : Inv} (hJ : J.stable) {g : Gh} {cx : Cx} {β : Nat → Nat → Option Nat} {st : St} {tmps : Array Value} {w w2 : World} {B : Nat} {ds : List Deferred} (h : FR cx β st tmps w) (_hm : Mk B β cx.S0 ds w) (ho : OffM ds w w2) (hj : J g w cx.S0 (claimM β st.objs ds)) :
  J g w2 cx.S0 (claim β st.objs) := by
 refine hJ _ _ _ _ _ _ hj ⟨ho.keep.os, ho.keep.tape, ho.keep.output, ho.keep.drawn, ho.keep.size, fun k hk hn => ho.keep.block k hk fun hmb => hn (blkOf_claimM.2 (.inr hmb))⟩ (fun b hb _ => blkOf_claimM.2 (.inl hb)) (fun b hb => ?_) (fun b hb hc => ?_)
 ·obtain ⟨i, j, e⟩ := (blkOf_claim h b).2 hb
  rw [ho.size]; exact (h.rng _ _ _ e).1
 ·obtain ⟨i, j, e⟩ := (blkOf_claim h b).2 hb
  obtain ⟨o, hc⟩ := hc
  exact h.notS0 e o hc
theorem J_sub {J : Inv} (hJ : J.stable) {g : Gh} {cx cx' : Cx} {β β' : Nat → Nat → Option Nat} {st st' : St} {tmps tmps' : Array Value} {w : World} (hS : cx'.S0 = cx.S0) (h : FR cx β st tmps w) (h' : FR cx' β' st' tmps' w) (hsub : ∀ b, ownB β' b → ownB β b) (hj : J g w cx.S0 (claim β st.objs)) :
  J g w cx.S0 (claim β' st'.objs) := by
 refine hJ _ _ _ _ _ _ hj (KeepL.refl _ _) (fun b hb _ => (blkOf_claim h b).1 (hsub b ((blkOf_claim h' b).2 hb))) (fun b hb => ?_) (fun b hb hc => ?_)
 ·obtain ⟨i, j, e⟩ := (blkOf_claim h' b).2 hb
  exact (h'.rng _ _ _ e).1
 ·obtain ⟨i, j, e⟩ := (blkOf_claim h' b).2 hb
  obtain ⟨o, hc⟩ := hc
  exact h'.notS0 e o (by rw [hS]; exact hc)
theorem codeW_nil : ∀ c : Code, codeW [] false c = true := fun c => by
 have hi : ∀ d : Option Tmp, inO d [] = false := fun d => by cases d <;> rfl
 induction c with
 | region id ops d => simp [codeW, opW, hi]
 | seq a b h1 h2 => simp [codeW, h1, h2]
 | cond c a b h1 h2 => simp [codeW, h1, h2]
 | block id c h => simp [codeW, h]
 | loop c h => simp [codeW, h]
 | scope c h => simp [codeW, h]
 | _ => rfl
section
variable {P : Program} {T : Tys} {y : Yc}
theorem awp_vc (hT : TyOk P T) (cfg : VCfg) (N : Nat) {g : Gh} {c : Code} {st : St} {Q : Gh → Exit → St → Prop} (hd : codeD P cfg c = true) (h : vc P T cfg y N g [.code c] st Q) : AWP P y g c st Q := by
 intro J hJ hR pn nr hpn ro hro B cx β tmps w ds hfr hm hj hp
 have := vc_ok (ro := ro) hT cfg hJ hR pn nr hro B Q N g _ _ h (by simp only [List.all_cons, List.all_nil, Bool.and_true]; exact hpn) (by simp only [List.all_cons, List.all_nil, Bool.and_true]; exact hd) cx β tmps w ds hfr hm hj hp
 exact wpIn_mono this (fun e a w ⟨S, hq⟩ => hq)
def loopQ (I : Nat → Gh → St → Prop) (n : Nat) (keys : List Nat) (Q : Gh → Exit → St → Prop) : Gh → Exit → St → Prop := fun g e st =>
 match e with
 | .normal => ∃ m, m < n ∧ I m g (st.gc keys)
 | e => Q g e st
theorem awp_loop (hT : TyOk P T) (cfg : VCfg) (N : Nat) {g : Gh} {c : Code} {st : St} {Q : Gh → Exit → St → Prop} (keys : List Nat) (I : Nat → Gh → St → Prop) (n : Nat) (hd : codeD P cfg c = true) (h0 : I n g (st.gc keys))
  (h : ∀ n g st, I n g st → vc P T cfg y N g [.code c] st (loopQ I n keys Q)) : AWP P y g (.loop c) st Q := by
 intro J hJ hR pn nr hpn ro hro B cx β tmps w ds hfr hm hj hp
 obtain ⟨β0, hf0⟩ := hfr.anchor.gc keys
 obtain ⟨hj0, hm0⟩ := Inv.walk (cx := cx) hJ hfr hm hj hf0
 refine wpIn_loopN (fun n a w => ∃ cx β g st, I n g st ∧ FR cx β st a.tmps w ∧ Mk B β cx.S0 a.defers w ∧ J g w cx.S0 (claimM β st.objs a.defers) ∧ Pin pn a.tmps) (fun n a w hR1 => ?_) n _ w ⟨_, β0, g, _, h0, hf0, hm0, hj0, hp⟩
 obtain ⟨cx1, β1, g1, st1, hI, hf1, hm1, hj1, hp1⟩ := hR1
 refine wpIn_mono (awp_vc hT cfg N hd (h n g1 st1 hI) J hJ hR pn nr hpn ro hro B cx1 β1 _ w _ hf1 hm1 hj1 hp1) (fun e a w hq => ?_)
 obtain ⟨cx2, β2, g2, st2, hq, hf2, hm2, hj2, hp2⟩ := hq
 cases e with
 | normal =>
  obtain ⟨m, hm, hI2⟩ := hq
  obtain ⟨β3, hf3⟩ := hf2.anchor.gc keys
  obtain ⟨hj3, hm3⟩ := Inv.walk (cx := cx2) hJ hf2 hm2 hj2 hf3
  exact ⟨m, hm, _, β3, g2, _, hI2, hf3, hm3, hj3, hp2⟩
 | _ => exact ⟨cx2, β2, g2, st2, hq, hf2, hm2, hj2, hp2⟩
theorem AWP.mono {g : Gh} {c : Code} {st : St} {Q Q' : Gh → Exit → St → Prop} (h : AWP P y g c st Q) (hq : ∀ g e st, Q g e st → Q' g e st) : AWP P y g c st Q' :=
 fun J hJ hR pn nr hpn ro hro B cx β tmps w ds hfr hm hj hp => wpIn_mono (h J hJ hR pn nr hpn ro hro B cx β tmps w ds hfr hm hj hp) fun _ _ _ ⟨cx, β, g, st, h1, h2⟩ => ⟨cx, β, g, st, hq _ _ _ h1, h2⟩
theorem aftV_mono {V : VC} {r : List Item} {Q Q' : Gh → Exit → St → Prop} (hV : ∀ g its st, V g its st Q → V g its st Q') (hq : ∀ g e st, Q g e st → Q' g e st) {g : Gh} {e : Exit} {st : St} (h : aftV V r Q g e st) : aftV V r Q' g e st := by
 unfold aftV at *
 split at h
 ·exact hV _ _ _ h
 ·split at h
  ·exact hV _ _ _ h
  ·exact hq _ _ _ h
 ·exact hq _ _ _ h
theorem vc_mono {cfg : VCfg} {Q Q' : Gh → Exit → St → Prop} (hq : ∀ g e st, Q g e st → Q' g e st) : ∀ (n : Nat) (g : Gh) (its : List Item) (st : St), vc P T cfg y n g its st Q → vc P T cfg y n g its st Q' := by
 intro n
 induction n with
 | zero => intro g its st h; exact h.elim
 | succ n ih =>
  intro g its st h
  cases its with
  | nil => exact hq _ _ _ h
  | cons it r =>
   cases it with
   | scrub => exact ih _ _ _ h
   | blk id => exact ih _ _ _ h
   | tree ops t =>
    have h : treeI (vc P T cfg y n) g ops r st Q t := h
    have : treeI (vc P T cfg y n) g ops r st Q' t := by
     cases t with
     | nil => exact ih _ _ _ h
     | op i k t =>
      have h : opI (vc P T cfg y n) g ops k t r st Q (nthO i ops.toList) := h
      have : opI (vc P T cfg y n) g ops k t r st Q' (nthO i ops.toList) := by
       cases ho : nthO i ops.toList with
       | none => rw [ho] at h; exact h
       | some o => rw [ho] at h; exact ih _ _ _ h
      exact this
     | alt t u => exact ⟨ih _ _ _ h.1, ih _ _ _ h.2⟩
    exact this
   | op o gd k =>
    have h : vcR P cfg y (vc P T cfg y n) g o gd k r st Q (stepO T cfg o gd k st) := h
    have : vcR P cfg y (vc P T cfg y n) g o gd k r st Q' (stepO T cfg o gd k st) := by
     generalize stepO T cfg o gd k st = s at *
     cases s with
     | fail => exact h
     | st s => exact ih _ _ _ h
     | ob p s => exact ⟨h.1, ih _ _ _ h.2⟩
     | new p F s => exact ⟨h.1, fun b hb => ih _ _ _ (h.2 b hb)⟩
     | split b d => exact ⟨fun e => ih _ _ _ (h.1 e), fun e => ih _ _ _ (h.2 e)⟩
     | call f args s0 s => obtain ⟨Qc, h1, h2⟩ := h; exact ⟨Qc, h1, fun r objs hr => ih _ _ _ (h2 r objs hr)⟩
     | lcall f args => obtain ⟨h0, Qc, h1, h2⟩ := h; exact ⟨h0, Qc, h1, fun g' r as os hr => ih _ _ _ (h2 g' r as os hr)⟩
     | yield v args s => obtain ⟨h1, h2, h3, h4, h5, h6, h7⟩ := h; exact ⟨h1, h2, h3, h4, h5, ih _ _ _ h6, ih _ _ _ h7⟩
    exact this
   | code c =>
    cases c with
    | skip => exact ih _ _ _ h
    | label l => exact ih _ _ _ h
    | seq a b => exact ih _ _ _ h
    | block id c => exact ih _ _ _ h
    | exit id =>
     have h : exitI (vc P T cfg y n) g id st Q (dropTo id r) := h
     have : exitI (vc P T cfg y n) g id st Q' (dropTo id r) := by
      cases hd : dropTo id r with
      | none => rw [hd] at h; exact hq _ _ _ h
      | some r' => rw [hd] at h; exact ih _ _ _ h
     exact this
    | ret => exact hq _ _ _ h
    | loop c => exact AWP.mono h fun g e st hh => aftV_mono ih hq hh
    | rangeFunc f ps a b => exact AWP.mono h fun g e st hh => aftV_mono ih hq hh
    | cond c a b =>
     have h : condI (vc P T cfg y n) g a b r st Q (st.ev c) := h
     have : condI (vc P T cfg y n) g a b r st Q' (st.ev c) := by
      unfold condI at *
      split at h
      ·exact ih _ _ _ h
      ·exact ih _ _ _ h
      ·exact ⟨fun e => ih _ _ _ (h.1 e), fun e => ih _ _ _ (h.2 e)⟩
      ·exact h.elim
     exact this
    | region id ops draw =>
     cases draw with
     | false => exact ih _ _ _ h
     | true =>
      have h : drawI (vc P T cfg y n) g ops r st Q (lookSch id cfg.sch) := h
      have : drawI (vc P T cfg y n) g ops r st Q' (lookSch id cfg.sch) := by
       cases hd : lookSch id cfg.sch with
       | none => rw [hd] at h; exact h
       | some sch => rw [hd] at h; exact ih _ _ _ h
      exact this
    | _ => exact h
def uptoQ (g0 : Gh) (m : Nat) (R : Nat → Prop) (S : Nat → St) (keys : List Nat) (i : Nat) (Q : Gh → Exit → St → Prop) : Gh → Exit → St → Prop := fun g e st =>
 match e with
 | .normal => g = g0 ∧ i < m ∧ R (i + 1) ∧ st.gc keys = S (i + 1)
 | e => Q g e st
theorem awp_upto (hT : TyOk P T) (cfg : VCfg) (N : Nat) {g : Gh} {c : Code} {st : St} {Q : Gh → Exit → St → Prop} (keys : List Nat) (m : Nat) (R : Nat → Prop) (S : Nat → St) (hd : codeD P cfg c = true) (h0 : st.gc keys = S 0) (r0 : R 0)
  (h : ∀ i, i ≤ m → R i → vc P T cfg y N g [.code c] (S i) (uptoQ g m R S keys i Q)) : AWP P y g (.loop c) st Q := by
 refine awp_loop hT cfg N keys (fun n g' st => g' = g ∧ ∃ i, i ≤ m ∧ R i ∧ n = m - i ∧ st = S i) (m - 0) hd ⟨rfl, 0, Nat.zero_le _, r0, rfl, h0⟩ ?_
 rintro n g' st ⟨rfl, i, hi, hR, rfl, rfl⟩
 refine vc_mono (fun g e st hq => ?_) N _ _ _ (h i hi hR)
 cases e with
 | normal =>
  obtain ⟨rfl, h1, h2, h3⟩ := hq
  exact ⟨m - (i + 1), by omega, rfl, i + 1, h1, h2, rfl, h3⟩
 | _ => exact hq
theorem gcall_intro (hT : TyOk P T) (cfg : VCfg) (N : Nat) {f : FuncId} {fn : Func} {c : Code} {g : Gh} {args : List AV} {objs : List AObj} {Q : QG} (rs : List ResultVar) (ks : List Nat) (hf : P.funcs[f]? = some fn) (hb : fn.body = some c)
  (hn : (fn.name == "runtime.NumGoroutine") = false) (hr : fn.results = rs.toArray) (hks : ks.all (fun k => Nat.blt k args.length) = true) (hw : codeW ks false c = true) (hd : codeD P cfg c = true)
  (h : vc P T cfg y N g [.code c] ⟨args.length + (fn.ntmps - args.length), enumE 0 args, objs⟩ (retG T rs ks args.length Q)) : GCall P y f g args objs Q := by
 refine ⟨enters_of hf hn (by rw [hb]; rfl), fun J hJ hR w S0 β vs hfr0 hj0 => ?_⟩
 have hl : args.length = vs.size := hfr0.size.symm
 refine callsIn_of_wp_marks hf hb trivial ?_
 have hget : ∀ t, t < vs.size → (vs ++ Array.replicate (fn.ntmps - vs.size) undef)[t]? = vs[t]? := fun t ht => Array.getElem?_append_left ht
 have hfr : FR ⟨w, S0, ownB β⟩ β ⟨args.length + (fn.ntmps - args.length), enumE 0 args, objs⟩ (vs ++ Array.replicate (fn.ntmps - vs.size) undef) w := hfr0.reenv (st := ⟨args.length, enumE 0 args, objs⟩) (by simp [hl]) fun t => by
  rcases getE_enumE args 0 t with ⟨c, hc, h1, h2⟩ | h2
  ·have h1 : t = c := by omega
   subst h1
   have := hfr0.env t
   have e : (vs ++ Array.replicate (fn.ntmps - vs.size) undef).getD t undef = vs.getD t undef := by
    rw [Array.getD_eq_getD_getElem?, hget t (by omega), Array.getD_eq_getD_getElem?]
   rw [e]; exact this
  ·rw [h2]; exact .pure (.junk _)
 let pn : Pins := ks.map fun k => (k, vs[k]!)
 have hpk : pn.ks = ks := by simp [pn, Pins.ks, Function.comp_def]
 have hpin : Pin pn (vs ++ Array.replicate (fn.ntmps - vs.size) undef) := fun tv ht => by
  obtain ⟨k, hk, rfl⟩ := List.mem_map.1 ht
  have hlt : k < args.length := by simpa using List.all_eq_true.1 hks k hk
  simp only
  rw [hget k (by omega), getElem!_pos vs k (by omega)]
  exact Array.getElem?_eq_getElem _
 refine wpIn_mono (awp_vc hT cfg N hd h J hJ hR pn false (by rw [hpk]; exact hw) none (fun _ => rfl) w.heap.size _ _ _ w [] hfr (Mk.nil (Nat.le_refl _)) ?_ hpin) (fun e a' w' hq => ?_)
 ·exact hJ _ _ _ _ _ _ hj0 (KeepL.refl _ _) (fun b hb _ => (blkOf_claimM.1 hb).resolve_right mkB_nil) (fun b hb => by
   obtain ⟨i, j, e⟩ := (blkOf_claim hfr b).2 ((blkOf_claimM.1 hb).resolve_right mkB_nil)
   exact (hfr.rng _ _ _ e).1) (fun b hb hc => by
   obtain ⟨i, j, e⟩ := (blkOf_claim hfr b).2 ((blkOf_claimM.1 hb).resolve_right mkB_nil)
   obtain ⟨o, hc⟩ := hc
   exact hfr.notS0 e o hc)
 obtain ⟨cx, β1, g1, st, hq, hf1, hm1, hj1, hp1⟩ := hq
 have fin : retG1 Q g1 ks args.length st (resA T st rs) → LeavesInM (FW none) 0 P fn a'.tmps (GRet J args.length vs Q) a'.defers .returning w' := fun hq => by
  refine leaves_marks _ _ hm1.one (fun d hd => let ⟨r, h1, _, h3, _⟩ := hm1.ok d hd; ⟨r, h1, h3⟩) (fun w2 hw2 => ?_)
  have hf2 := hf1.offM hm1 hw2
  have hj2 := J_offM (g := g1) hJ hf1 hm1 hw2 hj1
  cases hra : resA T st rs with
  | none => rw [hra] at hq; exact hq.elim
  | some avs =>
   rw [hra] at hq
   obtain ⟨v, hrun, htv⟩ := results_run hT hr hf2 hra
   refine ⟨v, hrun, ?_⟩
   have hlen : (pinE st.env ks 0 args.length).length = args.length := pinE_len _ _ _ _
   obtain ⟨β3, hf3, hl3⟩ := endS_ok hf2 (l := resR avs :: pinE st.env ks 0 args.length) (vs := #[v] ++ vs) (by rw [List.length_cons, hlen, hl]; simp; omega) (fun k hk => by
    cases k with
    | zero =>
     have e : (#[v] ++ vs)[0]! = v := by rw [getElem!_pos (#[v] ++ vs) 0 (by simp; omega)]; simp
     rw [e]; exact htv
    | succ k =>
     have hk' : k < (pinE st.env ks 0 args.length).length := by simpa using hk
     have hkv : k < vs.size := by omega
     have e : (#[v] ++ vs)[k + 1]! = vs[k]! := by
      rw [getElem!_pos (#[v] ++ vs) (k + 1) (by simp; omega), getElem!_pos vs k hkv, Array.getElem_append_right (by simp)]
      simp
     rw [e]
     simp only [List.getElem_cons_succ]
     rw [pinE_get st.env ks args.length 0 k hk']
     simp only [Nat.zero_add]
     cases hel : elemN k ks with
     | false => exact .pure (.junk _)
     | true =>
      have hmem := elemN_iff.1 hel
      have := hp1 (k, vs[k]!) (List.mem_map.2 ⟨k, hmem, rfl⟩)
      simp only at this
      have h4 := hf2.env k
      have e5 : a'.tmps.getD k undef = vs[k]! := by rw [Array.getD_eq_getD_getElem?, this]; rfl
      rw [e5] at h4
      exact h4)
   have hne : sndE (endS st (resR avs :: pinE st.env ks 0 args.length)).env ≠ [] := fun e => by rw [e] at hl3; simp at hl3
   unfold retG1 at hq
   simp only at hq
   generalize hsn : sndE (endS st (resR avs :: pinE st.env ks 0 args.length)).env = sn at hq hf3 hl3 hne
   cases sn with
   | nil => exact absurd rfl hne
   | cons r as =>
    have hal : as.length = args.length := by simp [hlen] at hl3; exact hl3
    refine ⟨g1, r, as, _, cx.S0, β3, hq, hal, ?_, ?_⟩
    ·have hf4 := hf3.anchor
     have : (resR avs :: pinE st.env ks 0 args.length).length = args.length + 1 := by simp [hlen]
     rw [this] at hf4
     exact hf4
    ·refine J_sub (cx := ⟨w2, cx.S0, ownB β1⟩) (st' := ⟨(resR avs :: pinE st.env ks 0 args.length).length, enumE 0 (r :: as), (endS st (resR avs :: pinE st.env ks 0 args.length)).objs⟩) hJ rfl hf2 hf3 (fun b ⟨i, j, e⟩ => ?_) hj2
     have := (hf3.rng _ _ _ e).1
     exact (hf3.rng _ _ _ e).2 this
 cases e with
 | normal => exact fin hq
 | ret => exact fin hq
 | _ => exact hq.elim
def noY : Yc := ⟨0, []⟩
theorem acall_intro (hT : TyOk P T) (cfg : VCfg) (N : Nat) {f : FuncId} {fn : Func} {c : Code} {args : List AV} {Q : AV → List AObj → Prop} (rs : List ResultVar) (hf : P.funcs[f]? = some fn) (hb : fn.body = some c)
  (hn : (fn.name == "runtime.NumGoroutine") = false) (hr : fn.results = rs.toArray) (hd : codeD P cfg c = true)
  (h : vc P T cfg noY N (false, 0) [.code c] ⟨args.length + (fn.ntmps - args.length), enumE 0 args, []⟩ (retC T rs Q)) : ACall P f args Q := by
 refine ⟨enters_of hf hn (by rw [hb]; rfl), fun S0 w vs hS hl ha => ?_⟩
 refine (callsIn_FW (ro := none) (n := 0)).1 ?_
 refine callsIn_of_wp_marks hf hb trivial ?_
 have hfr : FR ⟨w, S0, fun _ => False⟩ (fun _ _ => none) ⟨args.length + (fn.ntmps - args.length), enumE 0 args, []⟩ (vs ++ Array.replicate (fn.ntmps - vs.size) undef) w := by
  refine ⟨KeepL.refl _ _, fun b o hs => ⟨hS b o hs, id⟩, fun _ _ _ _ _ h => (by cases h), fun _ _ _ h => (by cases h), fun _ _ _ => rfl, fun i o ho => by simp at ho, by simp [hl], fun t => ?_⟩
  rcases getE_enumE args 0 t with ⟨c, h, h1, h2⟩ | h
  ·rw [h2]
   have h1 : t = c := by omega
   subst h1
   have hv : t < vs.size := by omega
   have e : (vs ++ Array.replicate (fn.ntmps - vs.size) undef).getD t undef = vs[t]! := by
    rw [getElem!_pos vs t hv, Array.getD_eq_getD_getElem?, Array.getElem?_append_left hv, Array.getElem?_eq_getElem hv]
    rfl
   rw [e]
   refine .pure ((ha t h).keeps (Keeps.refl _ _) fun b o v _ hn hs => ?_)
   rcases hs with hs | ⟨i, ob, h1, _⟩
   ·exact hn hs
   ·simp at h1
  ·rw [h]; exact .pure (.junk _)
 let J : Inv := fun _ w1 Cc Ci => Cc = S0 ∧ KeepL (fun _ => False) w w1 ∧ ∀ b, blkOf Ci b → w.heap.size ≤ b
 have hJ : J.stable := by
  rintro g w1 w2 Cc Ci Ci' ⟨rfl, hk, hge⟩ hk2 h1 _ _
  refine ⟨rfl, ⟨hk2.os.trans hk.os, hk2.tape.trans hk.tape, hk2.output.trans hk.output, Nat.le_trans hk.drawn hk2.drawn, Nat.le_trans hk.size hk2.size, fun k hlt _ => ?_⟩, fun b hb => ?_⟩
  ·rw [hk2.block k (Nat.lt_of_lt_of_le hlt hk.size) fun hb => by have := hge k hb; omega]
   exact hk.block k hlt id
  ·by_cases hlt : b < w1.heap.size
   ·exact hge b (h1 b hb hlt)
   ·have := hk.size; omega
 have hR : Rounds P noY J := fun k hk => absurd hk (Nat.not_lt_zero _)
 refine wpIn_mono (awp_vc hT cfg N hd h J hJ hR [] false (by
  exact codeW_nil c) none (fun _ => rfl) w.heap.size _ _ _ w [] hfr (Mk.nil (Nat.le_refl _)) ⟨rfl, KeepL.refl _ _, fun b hb => ?_⟩ (fun tv ht => by cases ht)) (fun e a' w' hq => ?_)
 ·rcases blkOf_claimM.1 hb with ⟨o, i, ob, h1, _⟩ | hb
  ·simp at h1
  ·exact absurd hb mkB_nil
 obtain ⟨cx, β1, g1, st, hq, hf1, hm1, hj1, _⟩ := hq
 have fin : retC1 Q st (resA T st rs) → LeavesInM (FW none) 0 P fn a'.tmps (ACallR w S0 Q) a'.defers .returning w' := fun hq => by
  refine leaves_marks _ _ hm1.one (fun d hd => let ⟨r, h1, _, h3, _⟩ := hm1.ok d hd; ⟨r, h1, h3⟩) (fun w2 hw2 => ?_)
  have hf2 := hf1.offM hm1 hw2
  obtain ⟨hS0, hk2, hge⟩ := J_offM (g := g1) hJ hf1 hm1 hw2 hj1
  cases hra : resA T st rs with
  | none => rw [hra] at hq; exact hq.elim
  | some avs =>
   rw [hra] at hq
   obtain ⟨v, hrun, htv⟩ := results_run hT hr hf2 hra
   refine ⟨v, hrun, ?_⟩
   obtain ⟨β3, hf3, hl3⟩ := endS_ok hf2 (l := [resR avs]) (vs := #[v]) rfl (fun k hk => by
    have : k = 0 := by simpa using hk
    subst this; exact htv)
   unfold retC1 at hq
   simp only at hq
   generalize hsn : sndE (endS st [resR avs]).env = sn at hq hf3 hl3
   match sn, hl3, hq, hf3 with
   | [r], _, hq, hf3 =>
    refine ⟨r, _, β3, hq, hk2, ⟨hk2, fun b o hs => ⟨hS b o hs, id⟩, hf3.inj, fun i j b hb => ⟨(hf3.rng i j b hb).1, fun hlt => ?_⟩, hf3.out, fun i o ho => ?_, hf3.size, fun t => ?_⟩⟩
    ·obtain ⟨i', j', e⟩ := (hf3.rng i j b hb).2 (hf3.rng i j b hb).1
     exact absurd hlt (Nat.not_lt.2 (hge b ((blkOf_claim hf2 b).1 ⟨i', j', e⟩)))
    ·have := hf3.objs i o ho
     unfold Cx.S at this ⊢
     simp only [hS0] at this
     exact this
    ·have := hf3.env t
     unfold Cx.S at this ⊢
     simp only [hS0] at this
     exact this
 cases e with
 | normal => exact fin hq
 | ret => exact fin hq
 | _ => exact hq.elim
end
end Go.AM
end

section
namespace Go.AM
open Go
def wset (w : World) (b : Nat) (o : Obj) : World := { w with heap := w.heap.setIfInBounds b o }
theorem wset_ne {w : World} {l b : Nat} {o : Obj} (h : b ≠ l) : (wset w l o).heap[b]? = w.heap[b]? := Array.getElem?_setIfInBounds_ne (Ne.symm h)
theorem wset_same {w : World} {l : Nat} {o : Obj} (h : l < w.heap.size) : (wset w l o).heap[l]? = some o := by simp [wset, h]
theorem wset_size {w : World} {l : Nat} {o : Obj} : (wset w l o).heap.size = w.heap.size := by simp [wset]
theorem cell_loop {w : World} {b o : Nat} {x : Loop} {v : Value} (h : w.heap[b]? = some (.loop x)) : w.cell? ⟨b, o, none⟩ ≠ some v := by
 simp [World.cell?, h]
section
variable {P : Program} {l : Nat} {w : World} {r : Loop}
theorem yield_run (h : w.heap[l]? = some (.loop r)) {args : Array Value} (ha : args.size = r.params.size) :
  (Instr.yield l args).run P w = .ok (.round l r.fn ((r.params.zip args).foldl (fun tmps (t, a) => tmps.setIfInBounds t a) r.tmps) r.assign r.body) w := by
 unfold Instr.yield Instr.getLoop
 simp [getObj, Sem.run, h, bind, Sem.bind, pure, ha]
theorem beginRound_run (h : w.heap[l]? = some (.loop r)) (hs : r.state = .ready) : (Instr.beginRound l).run P w = .ok () (wset w l (.loop { r with state := .busy })) := by
 have hlt := lt_of_heap h
 unfold Instr.beginRound Instr.getLoop
 simp [getObj, setObj, Sem.run, h, bind, Sem.bind, pure, hs, wset]
theorem endRound_run (h : w.heap[l]? = some (.loop r)) (jump : Option Code) : (Instr.endRound l jump).run P w = .ok (.bool jump.isNone) (wset w l (.loop { r with state := if jump.isNone then .ready else .done, pending := jump })) := by
 have hlt := lt_of_heap h
 unfold Instr.endRound Instr.getLoop
 simp [getObj, setObj, Sem.run, h, bind, Sem.bind, pure, wset]
theorem endLoop_run (h : w.heap[l]? = some (.loop r)) (hs : r.state ≠ .busy) : (Instr.endLoop l).run P w = .ok r.pending (wset w l (.loop { r with state := .exhausted })) := by
 have hlt := lt_of_heap h
 unfold Instr.endLoop Instr.getLoop
 simp [getObj, setObj, Sem.run, h, bind, Sem.bind, pure, wset]
 exact fun e => absurd e hs
theorem enterLoop_run (fn : FuncId) (tmps : Array Value) (ps : Array Tmp) (a b : Code) : (Instr.enterLoop fn tmps ps a b none).run P w =
  .ok (w.heap.size + 1, [{ target := .collected w.heap.size, args := #[] }]) ((w.alloc (.deferred (some []))).alloc (.loop { state := .ready, pending := none, fn, tmps, params := ps, assign := a, body := b, defers := w.heap.size })) := by
 rw [← size_alloc w (.deferred (some []))]
 rfl
end
theorem FR.setBlk {cx : Cx} {β : Nat → Nat → Option Nat} {st : St} {tmps : Array Value} {w : World} (h : FR cx β st tmps w) {l : Nat} (hno : ¬ ownB β l) (hc : ∀ o v, w.cell? ⟨l, o, none⟩ ≠ some v) (o : Obj) :
  FR ⟨wset w l o, cx.S0, ownB β⟩ β st tmps (wset w l o) := by
 refine h.other (fun b o' v _ hcell => ?_) (fun i j b hb => ?_) (by rw [wset_size]; exact Nat.le_refl _) (fun b o' hs => ?_) (fun b o' hs ⟨i, j, hb⟩ => h.notS0 hb o' hs) (fun _ _ _ _ hn => hn)
 ·have hne : b ≠ l := fun e => hc o' v (by rw [← e]; exact hcell)
  rw [cell?_of_heap (wset_ne hne)]; exact hcell
 ·exact wset_ne fun e => hno (by rw [← e]; exact ⟨i, j, hb⟩)
 ·rw [wset_size]; exact Nat.lt_of_lt_of_le (h.s0 b o' hs).1 h.keep.size
def setPs (st : St) : List Nat → List AV → St
 | p :: ps, x :: xs => setPs (st.put (some p) x) ps xs
 | _, _ => st
theorem setPs_objs : ∀ (ps : List Nat) (xs : List AV) (st : St), (setPs st ps xs).objs = st.objs
 | [], _, _ => by unfold setPs; rfl
 | _ :: _, [], _ => by unfold setPs; rfl
 | p :: ps, x :: xs, st => by
  have : setPs st (p :: ps) (x :: xs) = setPs (st.put (some p) x) ps xs := rfl
  rw [this, setPs_objs ps xs]; rfl
theorem FR.setPs {cx : Cx} {β : Nat → Nat → Option Nat} {w : World} : ∀ (ps : List Nat) (xs : List AV) (vs : List Value) (st : St) (tmps : Array Value), FR cx β st tmps w → xs.length = vs.length → (∀ c (h : c < xs.length) (h' : c < vs.length), PV w (cx.S β st.objs) (xs[c]) (vs[c])) →
  FR cx β (AM.setPs st ps xs) ((ps.zip vs).foldl (fun tmps (t, a) => tmps.setIfInBounds t a) tmps) w
 | [], xs, vs, st, tmps, h, _, _ => by unfold AM.setPs; exact h
 | p :: ps, [], [], st, tmps, h, _, _ => by unfold AM.setPs; exact h
 | p :: ps, x :: xs, v :: vs, st, tmps, h, hl, hv => by
  have h1 := h.put (.pure (hv 0 (by simp) (by simp))) (some p) []
  have e : AM.setPs st (p :: ps) (x :: xs) = AM.setPs (st.put (some p) x) ps xs := rfl
  rw [e]
  simp only [List.zip_cons_cons, List.foldl_cons]
  exact FR.setPs ps xs vs _ _ h1 (by simpa using hl) (fun c hc hc' => hv (c + 1) (by simpa using hc) (by simpa using hc'))
theorem foldl_get {t : Nat} : ∀ (ps : List Nat) (vs : List Value) (tmps : Array Value), t ∉ ps → ((ps.zip vs).foldl (fun tmps (t, a) => tmps.setIfInBounds t a) tmps)[t]? = tmps[t]?
 | [], _, _, _ => rfl
 | _ :: _, [], _, _ => rfl
 | p :: ps, v :: vs, tmps, h => by
  simp only [List.zip_cons_cons, List.foldl_cons]
  rw [foldl_get ps vs _ (fun hm => h (by simp [hm]))]
  exact Array.getElem?_setIfInBounds_ne (fun e => h (by simp [e]))
structure LoopC where
 fn : FuncId
 tmps : Array Value
 ps : Array Tmp
 a : Code
 b : Code
 l : Nat
 r : Nat
def LoopC.lp (lc : LoopC) (s : LoopState) (p : Option Code) : Loop := { state := s, pending := p, fn := lc.fn, tmps := lc.tmps, params := lc.ps, assign := lc.a, body := lc.b, defers := lc.r }
def jumpC : Exit → Option Code
 | .ret => some .ret
 | .exit id => some (.exit id)
 | _ => none
def exB (ds : List Deferred) (lc : LoopC) (b : Nat) : Prop := mkB ds b ∨ b = lc.l ∨ b = lc.r
structure RangeI (J : Inv) (g : Gh) (I : Nat → St → Prop) (D : Nat → Exit → St → Prop) (lc : LoopC) (cx : Cx) (β : Nat → Nat → Option Nat) (st : St) (ds : List Deferred) (w0 : World) (g' : Gh) (w1 : World) (Ci : CellSet) (βk : Nat → Nat → Option Nat) (stk : St) (S0 : CellSet) (pend : Option Code) : Prop where
 go : g'.1 = false → pend = none ∧ I g'.2 stk
 stop : g'.1 = true → ∃ e c, D g'.2 e stk ∧ jumpC e = some c ∧ pend = some c
 fr : FR ⟨w1, fun b o => S0 b o ∨ blkOf Ci b, ownB βk⟩ βk stk lc.tmps w1
 j : J g w1 S0 (fun b o => blkOf Ci b ∨ claim βk stk.objs b o ∨ exB ds lc b)
 rc : w1.heap[lc.l]? = some (.loop (lc.lp (if g'.1 then .done else .ready) pend))
 mark : w1.heap[lc.r]? = some (.deferred (some []))
 marks : ∀ b, mkB ds b → w1.heap[b]? = some (.deferred (some []))
 ex : ∀ b, exB ds lc b → ¬ ownB βk b ∧ ¬ blkOf S0 b ∧ ¬ blkOf Ci b
 keeps : Keeps (cx.S β st.objs) w0 w1
 new : ∀ b o v, w0.cell? ⟨b, o, none⟩ = some v → ¬ cx.S β st.objs b o → ¬ S0 b o ∧ ¬ blkOf Ci b ∧ ¬ ownB βk b
 size : w0.heap.size ≤ w1.heap.size
 dis : ∀ b, blkOf Ci b → ¬ blkOf S0 b
def rangeJ (J : Inv) (g : Gh) (I : Nat → St → Prop) (D : Nat → Exit → St → Prop) (lc : LoopC) (cx : Cx) (β : Nat → Nat → Option Nat) (st : St) (ds : List Deferred) (w0 : World) : Inv := fun g' w1 Cc Ci =>
 ∃ βk stk S0 pend, Cc = (fun b o => S0 b o ∨ claim βk stk.objs b o) ∧ RangeI J g I D lc cx β st ds w0 g' w1 Ci βk stk S0 pend
section
variable {P : Program} {T : Tys} {J : Inv} {g : Gh} {I : Nat → St → Prop} {D : Nat → Exit → St → Prop} {lc : LoopC} {cx : Cx} {β : Nat → Nat → Option Nat} {st : St} {ds : List Deferred} {w0 : World}
theorem exB_cell {w1 : World} (hmark : w1.heap[lc.r]? = some (.deferred (some []))) {x : Loop} (hrec : w1.heap[lc.l]? = some (.loop x)) (hm : ∀ b, mkB ds b → w1.heap[b]? = some (.deferred (some []))) {b o : Nat} {v : Value} (h : w1.cell? ⟨b, o, none⟩ = some v) : ¬ exB ds lc b := by
 rintro (e | rfl | rfl)
 ·exact cell_deferred (hm b e) h
 ·exact cell_loop hrec h
 ·exact cell_deferred hmark h
theorem blkOfR {A : Nat → Prop} {C : CellSet} {M : Nat → Prop} {b : Nat} : blkOf (fun b o => A b ∨ C b o ∨ M b) b ↔ A b ∨ blkOf C b ∨ M b := by
 constructor
 ·rintro ⟨o, h | h | h⟩
  ·exact .inl h
  ·exact .inr (.inl ⟨o, h⟩)
  ·exact .inr (.inr h)
 ·rintro (h | ⟨o, h⟩ | h)
  ·exact ⟨0, .inl h⟩
  ·exact ⟨o, .inr (.inl h)⟩
  ·exact ⟨0, .inr (.inr h)⟩
theorem rangeJ_stable (hJ : J.stable) : (rangeJ J g I D lc cx β st ds w0).stable := by
 rintro g' w1 w2 Cc Ci Ci' ⟨βk, stk, S0, pend, rfl, h⟩ hk h1 h2 h3
 have hexk : ∀ {b}, exB ds lc b → b < w1.heap.size → w2.heap[b]? = w1.heap[b]? := fun e hlt => hk.block _ hlt (h.ex _ e).2.2
 have hblk := blkOf_claim h.fr
 have hexlt : ∀ {b}, exB ds lc b → b < w1.heap.size := fun {b} e => by
  rcases e with e | rfl | rfl
  ·exact lt_of_heap (h.marks _ e)
  ·exact lt_of_heap h.rc
  ·exact lt_of_heap h.mark
 have hC' : ∀ b, blkOf Ci' b → ¬ ownB βk b ∧ ¬ blkOf S0 b := fun b hb => by
  have := h3 b hb
  refine ⟨fun ho => this ?_, fun hs => this ?_⟩
  ·obtain ⟨o, hc⟩ := (hblk b).1 ho; exact ⟨o, .inr hc⟩
  ·obtain ⟨o, hc⟩ := hs; exact ⟨o, .inl hc⟩
 have hCx : ∀ b, blkOf Ci' b → ¬ exB ds lc b := fun b hb he => (h.ex b he).2.2 (h1 b hb (hexlt he))
 have hown : ∀ b, ownB βk b → ¬ blkOf Ci b := fun b ⟨i, j, e⟩ ⟨o, hb⟩ => (h.fr.s0 b o (.inr ⟨o, hb⟩)).2 ⟨i, j, e⟩
 have hownlt : ∀ b, ownB βk b → b < w1.heap.size := fun b ⟨i, j, e⟩ => (h.fr.rng i j b e).1
 refine ⟨βk, stk, S0, pend, rfl, h.go, h.stop, ?_, ?_, ?_, ?_, ?_, fun b he => ⟨(h.ex b he).1, (h.ex b he).2.1, fun hb => hCx b hb he⟩, fun b o v hn hc => ?_, fun b o v hc hn => ?_, Nat.le_trans h.size hk.size, fun b hb => (hC' b hb).2⟩
 ·refine h.fr.other (S0' := fun b o => S0 b o ∨ blkOf Ci' b) (fun b o v hn hc => ?_) (fun i j b e => hk.block b (h.fr.rng i j b e).1 (hown b ⟨i, j, e⟩)) hk.size (fun b o hs => ?_) (fun b o hs ho => ?_) (fun b o v hc hn hs => ?_)
  ·rw [cell?_of_heap (hk.block b (lt_of_cell? hc) fun hb => hn (.inr hb))]; exact hc
  ·rcases hs with hs | hs
   ·exact Nat.lt_of_lt_of_le (h.fr.s0 b o (.inl hs)).1 hk.size
   ·exact h2 b hs
  ·rcases hs with hs | hs
   ·exact (h.fr.s0 b o (.inl hs)).2 ho
   ·exact (hC' b hs).1 ho
  ·rcases hs with hs | hs
   ·exact hn (.inl hs)
   ·exact hn (.inr (h1 b hs (lt_of_cell? hc)))
 ·refine hJ g w1 w2 S0 _ _ h.j ⟨hk.os, hk.tape, hk.output, hk.drawn, hk.size, fun b hlt hn => hk.block b hlt fun hb => hn (blkOfR.2 (.inl hb))⟩ (fun b hb hlt => ?_) (fun b hb => ?_) (fun b hb hs => ?_)
  ·rw [blkOfR] at hb ⊢
   rcases hb with hb | hb | hb
   ·exact .inl (h1 b hb hlt)
   ·exact .inr (.inl hb)
   ·exact .inr (.inr hb)
  ·rw [blkOfR] at hb
   rcases hb with hb | hb | hb
   ·exact h2 b hb
   ·exact Nat.lt_of_lt_of_le (hownlt b ((hblk b).2 hb)) hk.size
   ·exact Nat.lt_of_lt_of_le (hexlt hb) hk.size
  ·rw [blkOfR] at hb
   rcases hb with hb | hb | hb
   ·exact (hC' b hb).2 hs
   ·obtain ⟨o, hs⟩ := hs
    exact (h.fr.s0 b o (.inl hs)).2 ((hblk b).2 hb)
   ·exact (h.ex b hb).2.1 hs
 ·rw [hexk (.inr (.inl rfl)) (lt_of_heap h.rc)]; exact h.rc
 ·rw [hexk (.inr (.inr rfl)) (lt_of_heap h.mark)]; exact h.mark
 ·exact fun b hb => by rw [hexk (.inl hb) (lt_of_heap (h.marks b hb))]; exact h.marks b hb
 ·have hc1 := h.keeps b o v hn hc
  obtain ⟨n1, n2, n3⟩ := h.new b o v hc hn
  rw [cell?_of_heap (hk.block b (lt_of_cell? hc1) n2)]; exact hc1
 ·obtain ⟨n1, n2, n3⟩ := h.new b o v hc hn
  exact ⟨n1, fun hb => n2 (h1 b hb (Nat.lt_of_lt_of_le (lt_of_cell? hc) h.size)), n3⟩
def St.gcN (n : Nat) (ks : List Nat) (st : St) : St := ⟨n, (st.gc ks).env, (st.gc ks).objs⟩
def rangeQ (I : Nat → St → Prop) (D : Nat → Exit → St → Prop) (k n : Nat) (ks : List Nat) : Gh → Exit → St → Prop := fun _ e st =>
 match e with
 | .normal => I (k + 1) (st.gcN n ks)
 | .ret => D k .ret (st.gcN n ks)
 | .exit id => D k (.exit id) (st.gcN n ks)
 | _ => False
def asgQ (V : VC) (c : Code) (Q : Gh → Exit → St → Prop) : Gh → Exit → St → Prop := fun g e st =>
 match e with
 | .normal => V g [.code c] st Q
 | _ => False
def roundJ (J : Inv) (g : Gh) (lc : LoopC) (ds : List Deferred) (S0 Ci : CellSet) (βk : Nat → Nat → Option Nat) (x : Loop) (w1 : World) : Inv := fun _ w2 Cc2 Ci2 =>
 Cc2 = (fun b o => S0 b o ∨ blkOf Ci b) ∧ J g w2 S0 (fun b o => blkOf Ci b ∨ Ci2 b o ∨ exB ds lc b) ∧ KeepL (fun b => ownB βk b ∨ b = lc.l) w1 w2 ∧ (∀ b, blkOf Ci2 b → ownB βk b ∨ w1.heap.size ≤ b) ∧ w2.heap[lc.l]? = some (.loop x)
theorem roundJ_stable (hJ : J.stable) {S0 Ci : CellSet} {βk : Nat → Nat → Option Nat} {x : Loop} {w1 : World} (hl : lc.l < w1.heap.size) (hlo : ¬ ownB βk lc.l)
  (hex : ∀ b, exB ds lc b → b < w1.heap.size ∧ ¬ ownB βk b ∧ ¬ blkOf S0 b) (hCi : ∀ b, blkOf Ci b → b < w1.heap.size ∧ ¬ ownB βk b ∧ ¬ blkOf S0 b) : (roundJ J g lc ds S0 Ci βk x w1).stable := by
 rintro g2 w2 w3 Cc C2 C2' ⟨rfl, hj, hk1, hnew, hx⟩ hk h1 h2 h3
 have hnew' : ∀ b, blkOf C2' b → ownB βk b ∨ w1.heap.size ≤ b := fun b hb => by
  by_cases hlt : b < w2.heap.size
  ·exact hnew b (h1 b hb hlt)
  ·have := hk1.size; exact .inr (by omega)
 refine ⟨rfl, hJ g w2 w3 S0 _ _ hj ⟨hk.os, hk.tape, hk.output, hk.drawn, hk.size, fun b hlt hn => hk.block b hlt fun hb => hn (blkOfR.2 (.inr (.inl hb)))⟩ (fun b hb hlt => ?_) (fun b hb => ?_) (fun b hb hs => ?_), ⟨hk.os.trans hk1.os, hk.tape.trans hk1.tape, hk.output.trans hk1.output, Nat.le_trans hk1.drawn hk.drawn, Nat.le_trans hk1.size hk.size, fun b hlt hn => ?_⟩, hnew', ?_⟩
 ·rw [blkOfR] at hb ⊢
  rcases hb with hb | hb | hb
  ·exact .inl hb
  ·exact .inr (.inl (h1 b hb hlt))
  ·exact .inr (.inr hb)
 ·rw [blkOfR] at hb
  rcases hb with hb | hb | hb
  ·exact Nat.lt_of_lt_of_le (hCi b hb).1 (Nat.le_trans hk1.size hk.size)
  ·exact h2 b hb
  ·exact Nat.lt_of_lt_of_le (hex b hb).1 (Nat.le_trans hk1.size hk.size)
 ·rw [blkOfR] at hb
  rcases hb with hb | hb | hb
  ·exact (hCi b hb).2.2 hs
  ·exact h3 b hb (let ⟨o, hs⟩ := hs; ⟨o, .inl hs⟩)
  ·exact (hex b hb).2.2 hs
 ·rw [hk.block b (Nat.lt_of_lt_of_le hlt hk1.size) fun hb => ?_]
  ·exact hk1.block b hlt hn
  ·rcases hnew b hb with h | h
   ·exact hn (.inl h)
   ·omega
 ·rw [hk.block lc.l (Nat.lt_of_lt_of_le hl hk1.size) fun hb => ?_]
  ·exact hx
  ·rcases hnew lc.l hb with h | h
   ·exact hlo h
   ·omega
theorem getE_keepE_not (env : List (Nat × AV)) (t : Nat) : ∀ ks : List Nat, t ∉ ks → getE t (keepE env ks) = .junk
 | [], _ => rfl
 | k :: r, h => by
  have h1 : getE t (keepE env (k :: r)) = match Nat.beq k t with
   | true => getE k env
   | false => getE t (keepE env r) := rfl
  rw [h1]
  rcases beq_cases k t with ⟨_, e⟩ | ⟨e, _⟩
  ·exact absurd (by simp [e]) h
  ·rw [e]; exact getE_keepE_not env t r (fun hm => h (by simp [hm]))
theorem gc_env_not (st : St) (ks : List Nat) (t : Nat) (h : t ∉ ks) : getE t (st.gc ks).env = .junk := by
 unfold St.gc St.select
 simp only
 rw [getE_mapE (by rfl), getE_keepE_not _ _ _ h]
 rfl
theorem round_finish (hJ : J.stable) {ks : List Nat} {k : Nat} {w1 : World} {Ci : CellSet} {βk : Nat → Nat → Option Nat} {stk : St} {S0 : CellSet} (h : RangeI J g I D lc cx β st ds w0 (false, k) w1 Ci βk stk S0 none)
  {cx4 : Cx} {β4 : Nat → Nat → Option Nat} {g4 : Gh} {st4 : St} {tm : Array Value} {ds4 : List Deferred} {w4 : World} (hfr4 : FR cx4 β4 st4 tm w4) (hj4 : roundJ J g lc ds S0 Ci βk (lc.lp .busy none) w1 g4 w4 cx4.S0 (claimM β4 st4.objs ds4))
  (hpin : ∀ t ∈ ks, tm[t]? = lc.tmps[t]?) (jump : Option Code) (h1 : jump = none → I (k + 1) (st4.gcN lc.tmps.size ks)) (h2 : ∀ c, jump = some c → ∃ e, D k e (st4.gcN lc.tmps.size ks) ∧ jumpC e = some c) :
  ∃ v w5, (Instr.endRound lc.l jump).run P w4 = .ok v w5 ∧ ∃ go Cc', Ending.returned v = .returned (.bool go) ∧ RoundStep w1 w5 (fun b o => S0 b o ∨ claim βk stk.objs b o) Cc' Ci ∧
   rangeJ J g I D lc cx β st ds w0 (!go, if go then k + 1 else k) w5 Cc' Ci := by
 obtain ⟨hS0, hj, hkl, hnew, hx⟩ := hj4
 have hrc : w1.heap[lc.l]? = some (.loop (lc.lp .ready none)) := h.rc
 have hlL := lt_of_heap hrc
 have hblk := blkOf_claim h.fr
 have hlo : ¬ ownB βk lc.l := (h.ex _ (.inr (.inl rfl))).1
 have hCi : ∀ b, blkOf Ci b → b < w1.heap.size ∧ ¬ ownB βk b ∧ ¬ exB ds lc b := fun b ⟨o, hb⟩ => ⟨(h.fr.s0 b o (.inr ⟨o, hb⟩)).1, (h.fr.s0 b o (.inr ⟨o, hb⟩)).2, fun he => (h.ex b he).2.2 ⟨o, hb⟩⟩
 have hexlt : ∀ {b}, exB ds lc b → b < w1.heap.size := fun {b} e => by
  rcases e with e | rfl | rfl
  ·exact lt_of_heap (h.marks _ e)
  ·exact lt_of_heap h.rc
  ·exact lt_of_heap h.mark
 have hown4 : ∀ b, ownB β4 b → ownB βk b ∨ w1.heap.size ≤ b := fun b hb => hnew b (blkOf_claimM.2 (.inl ((blkOf_claim hfr4 b).1 hb)))
 -- what has been kept
 obtain ⟨β5, h5⟩ := hfr4.anchor.gc ks
 have hsub : ∀ b, ownB β5 b → ownB β4 b := fun b ⟨i, j, e⟩ => (h5.rng i j b e).2 (h5.rng i j b e).1
 have hown5 : ∀ b, ownB β5 b → ownB βk b ∨ w1.heap.size ≤ b := fun b hb => hown4 b (hsub b hb)
 have h6 : FR ⟨w4, cx4.S0, ownB β4⟩ β5 (st4.gcN lc.tmps.size ks) lc.tmps w4 := by
  refine h5.reenv (st := st4.gc ks) rfl fun t => ?_
  by_cases ht : t ∈ ks
  ·have := h5.env t
   have e : tm.getD t undef = lc.tmps.getD t undef := by rw [Array.getD_eq_getD_getElem?, Array.getD_eq_getD_getElem?, hpin t ht]
   rw [e] at this
   exact this
  ·rw [gc_env_not st4 ks t ht]; exact .pure (.junk _)
 have hl5 : ¬ ownB β5 lc.l := fun ho => by
  rcases hown5 _ ho with ho | ho
  ·exact hlo ho
  ·omega
 have h7 := h6.setBlk hl5 (fun o v => cell_loop hx) (.loop (lc.lp (if jump.isNone then .ready else .done) jump))
 have hlt4 : lc.l < w4.heap.size := lt_of_heap hx
 have hne : ∀ b, b ≠ lc.l → (wset w4 lc.l (.loop (lc.lp (if jump.isNone then .ready else .done) jump))).heap[b]? = w4.heap[b]? := fun b hb => wset_ne hb
 have hkeep : ∀ b, b < w1.heap.size → ¬ ownB βk b → b ≠ lc.l → (wset w4 lc.l (.loop (lc.lp (if jump.isNone then .ready else .done) jump))).heap[b]? = w1.heap[b]? := fun b hlt hn hb => by
  rw [hne b hb]; exact hkl.block b hlt fun hh => hh.elim hn hb
 have hS5 : ∀ b o, cx4.S0 b o ↔ S0 b o ∨ blkOf Ci b := fun b o => by rw [hS0]
 refine ⟨_, wset w4 lc.l (.loop (lc.lp (if jump.isNone then .ready else .done) jump)), endRound_run hx jump, jump.isNone, fun b o => S0 b o ∨ claim β5 (st4.gcN lc.tmps.size ks).objs b o, rfl, ⟨fun b o v hn hc => ?_, fun b hb => ?_, ?_, fun b o hs => ?_, fun b o hs hb => ?_, fun b o v hc hn hs => ?_⟩, β5, st4.gcN lc.tmps.size ks, S0, jump, rfl, ?_⟩
 ·have hb : b ≠ lc.l := fun e => cell_loop hrc (by rw [← e]; exact hc)
  rw [cell?_of_heap (hkeep b (lt_of_cell? hc) (fun ho => hn (.inr (claim_any ((hblk b).1 ho)))) hb)]; exact hc
 ·obtain ⟨c1, c2, c3⟩ := hCi b hb
  exact hkeep b c1 c2 fun e => c3 (.inr (.inl e))
 ·rw [wset_size]; exact hkl.size
 ·rw [wset_size]
  rcases hs with hs | hs
  ·exact Nat.lt_of_lt_of_le (h.fr.s0 b o (.inl hs)).1 hkl.size
  ·obtain ⟨i, j, e⟩ := (blkOf_claim h6 b).2 ⟨o, hs⟩
   exact (h6.rng _ _ _ e).1
 ·rcases hs with hs | hs
  ·exact h.dis b hb ⟨o, hs⟩
  ·rcases hown5 b ((blkOf_claim h6 b).2 ⟨o, hs⟩) with ho | ho
   ·exact (hCi b hb).2.1 ho
   ·have := (hCi b hb).1; omega
 ·rcases hs with hs | hs
  ·exact hn (.inl hs)
  ·rcases hown5 b ((blkOf_claim h6 b).2 ⟨o, hs⟩) with ho | ho
   ·exact hn (.inr (claim_any ((hblk b).1 ho)))
   ·have := lt_of_cell? hc; omega
 ·refine ⟨fun hg => ?_, fun hg => ?_, ?_, ?_, ?_, ?_, fun b hb => ?_, fun b he => ⟨fun ho => ?_, (h.ex b he).2.1, (h.ex b he).2.2⟩, fun b o v hn hc => ?_, fun b o v hc hn => ?_, ?_, h.dis⟩
  ·cases jump with
   | none => exact ⟨rfl, h1 rfl⟩
   | some c => cases hg
  ·cases jump with
   | none => cases hg
   | some c => obtain ⟨e, h3, h4⟩ := h2 c rfl; exact ⟨e, c, h3, h4, rfl⟩
  ·have : cx4.S0 = fun b o => S0 b o ∨ blkOf Ci b := hS0
   rw [← this]
   exact h7
  ·refine hJ g w4 _ S0 _ _ hj ⟨rfl, rfl, rfl, Nat.le_refl _, by rw [wset_size]; exact Nat.le_refl _, fun b hlt hn => hne b fun e => hn (blkOfR.2 (.inr (.inr (.inr (.inl e)))))⟩ (fun b hb hlt => ?_) (fun b hb => ?_) (fun b hb hs => ?_)
   ·rw [blkOfR] at hb ⊢
    rcases hb with hb | hb | hb
    ·exact .inl hb
    ·exact .inr (.inl (blkOf_claimM.2 (.inl ((blkOf_claim hfr4 b).1 (hsub b ((blkOf_claim h6 b).2 hb))))))
    ·exact .inr (.inr hb)
   ·rw [wset_size]
    rw [blkOfR] at hb
    rcases hb with hb | hb | hb
    ·exact Nat.lt_of_lt_of_le (hCi b hb).1 hkl.size
    ·obtain ⟨i, j, e⟩ := (blkOf_claim h6 b).2 hb
     exact (h6.rng _ _ _ e).1
    ·exact Nat.lt_of_lt_of_le (hexlt hb) hkl.size
   ·rw [blkOfR] at hb
    rcases hb with hb | hb | hb
    ·exact h.dis b hb hs
    ·obtain ⟨i, j, e⟩ := (blkOf_claim h6 b).2 hb
     obtain ⟨o, hs⟩ := hs
     exact h6.notS0 e o ((hS5 b o).2 (.inl hs))
    ·exact (h.ex b hb).2.1 hs
  ·rw [wset_same hlt4]
   cases jump <;> rfl
  ·have hlr : lc.r ≠ lc.l := fun e => by have := h.mark; rw [e, hrc] at this; cases this
   rw [hkeep lc.r (lt_of_heap h.mark) (h.ex _ (.inr (.inr rfl))).1 hlr]; exact h.mark
  ·have hbl : b ≠ lc.l := fun e => by have := h.marks b hb; rw [e, hrc] at this; cases this
   rw [hkeep b (lt_of_heap (h.marks b hb)) (h.ex _ (.inl hb)).1 hbl]; exact h.marks b hb
  ·rcases hown5 b ho with ho | ho
   ·exact (h.ex b he).1 ho
   ·have := hexlt he; omega
  ·have hc1 := h.keeps b o v hn hc
   obtain ⟨n1, n2, n3⟩ := h.new b o v hc hn
   have hb : b ≠ lc.l := fun e => cell_loop hrc (by rw [← e]; exact hc1)
   rw [cell?_of_heap (hkeep b (lt_of_cell? hc1) n3 hb)]; exact hc1
  ·obtain ⟨n1, n2, n3⟩ := h.new b o v hc hn
   refine ⟨n1, n2, fun ho => ?_⟩
   rcases hown5 b ho with ho | ho
   ·exact n3 ho
   ·have := lt_of_cell? hc; have := h.size; omega
  ·rw [wset_size]; exact Nat.le_trans h.size hkl.size
theorem rangeJ_rounds (hT : TyOk P T) (cfg : VCfg) (N : Nat) (hJ : J.stable) {xs : List (List AV)} {ks : List Nat} (hks : ∀ t ∈ ks, t ∉ lc.ps.toList ∧ t < lc.tmps.size) (hlen : ∀ k (h : k < xs.length), (xs[k]).length = lc.ps.size)
  (hWa : codeW ks true lc.a = true) (hWb : codeW ks true lc.b = true) (hDa : codeD P cfg lc.a = true) (hDb : codeD P cfg lc.b = true)
  (hround : ∀ k (hk : k < xs.length) stk, I k stk → vc P T cfg noY N g [.code lc.a] (setPs stk lc.ps.toList xs[k]) (asgQ (vc P T cfg noY N) lc.b (rangeQ I D k lc.tmps.size ks))) :
  Rounds P ⟨lc.l, xs⟩ (rangeJ J g I D lc cx β st ds w0) := by
 rintro k hk w1 Cc Ci vs ⟨βk, stk, S0, pend, rfl, h⟩ hlv hpv
 obtain ⟨rfl, hI⟩ := h.go rfl
 have hrc : w1.heap[lc.l]? = some (.loop (lc.lp .ready none)) := h.rc
 have hk : k < xs.length := hk
 have hsz : vs.size = lc.ps.size := by rw [← hlen k hk]; exact hlv.symm
 refine ⟨_, _, _, _, yield_run hrc hsz, ?_⟩
 have hlL := lt_of_heap hrc
 have hblk := blkOf_claim h.fr
 have hexlt : ∀ b, exB ds lc b → b < w1.heap.size ∧ ¬ ownB βk b ∧ ¬ blkOf S0 b := fun b e => ⟨by
  rcases e with e | rfl | rfl
  ·exact lt_of_heap (h.marks _ e)
  ·exact lt_of_heap h.rc
  ·exact lt_of_heap h.mark, (h.ex b e).1, (h.ex b e).2.1⟩
 have hCi : ∀ b, blkOf Ci b → b < w1.heap.size ∧ ¬ ownB βk b ∧ ¬ blkOf S0 b := fun b ⟨o, hb⟩ => ⟨(h.fr.s0 b o (.inr ⟨o, hb⟩)).1, (h.fr.s0 b o (.inr ⟨o, hb⟩)).2, h.dis b ⟨o, hb⟩⟩
 have hlo : ¬ ownB βk lc.l := (h.ex _ (.inr (.inl rfl))).1
 have hlC : ¬ blkOf Ci lc.l := (h.ex _ (.inr (.inl rfl))).2.2
 have hstab : ∀ x, (roundJ J g lc ds S0 Ci βk x w1).stable := fun x => roundJ_stable hJ hlL hlo hexlt hCi
 -- the frame
 have etm : (lc.ps.zip vs).foldl (fun tmps (t, a) => tmps.setIfInBounds t a) lc.tmps = (lc.ps.toList.zip vs.toList).foldl (fun tmps (t, a) => tmps.setIfInBounds t a) lc.tmps := by
  rw [← Array.foldl_toList, Array.toList_zip]
 have hfr1 : FR ⟨w1, fun b o => S0 b o ∨ blkOf Ci b, ownB βk⟩ βk (setPs stk lc.ps.toList xs[k]) ((lc.ps.zip vs).foldl (fun tmps (t, a) => tmps.setIfInBounds t a) lc.tmps) w1 := by
  rw [etm]
  refine FR.setPs _ _ _ _ _ h.fr (by simpa using hlv) fun c hc hc' => ?_
  have := hpv c hc
  rw [getElem!_pos vs c (by simpa using hc')] at this
  refine this.keeps (Keeps.refl _ _) fun b o v _ hn hs => ?_
  rcases hs with (hs | hs) | hs
  ·exact hn (.inl (.inl hs))
  ·exact hn (.inr hs)
  ·exact hn (.inl (.inr hs))
 have hobjs : (setPs stk lc.ps.toList xs[k]).objs = stk.objs := setPs_objs _ _ _
 let tmR := (lc.ps.zip vs).foldl (fun tmps (t, a) => tmps.setIfInBounds t a) lc.tmps
 have htmR : ∀ t, t ∈ ks → tmR[t]? = lc.tmps[t]? := fun t ht => by
  show ((lc.ps.zip vs).foldl (fun tmps (t, a) => tmps.setIfInBounds t a) lc.tmps)[t]? = _
  rw [etm]
  exact foldl_get _ _ _ (hks t ht).1
 let pn : Pins := ks.map fun t => (t, lc.tmps[t]!)
 have hpk : pn.ks = ks := by simp [pn, Pins.ks, Function.comp_def]
 have hpinv : ∀ {tm : Array Value}, Pin pn tm → ∀ t ∈ ks, tm[t]? = lc.tmps[t]? := fun hp t ht => by
  have := hp (t, lc.tmps[t]!) (List.mem_map.2 ⟨t, ht, rfl⟩)
  simp only at this
  rw [this, getElem!_pos lc.tmps t (hks t ht).2]
  exact (Array.getElem?_eq_getElem _).symm
 have hpin1 : Pin pn tmR := fun tv ht => by
  obtain ⟨t, hk9, rfl⟩ := List.mem_map.1 ht
  have ht := hk9
  simp only
  rw [htmR t ht, getElem!_pos lc.tmps t (hks t ht).2]
  exact Array.getElem?_eq_getElem _
 have hR0 : ∀ x, Rounds P noY (roundJ J g lc ds S0 Ci βk x w1) := fun x k hk => absurd hk (Nat.not_lt_zero _)
 have hj1 : roundJ J g lc ds S0 Ci βk (lc.lp .ready none) w1 g w1 (fun b o => S0 b o ∨ blkOf Ci b) (claimM βk (setPs stk lc.ps.toList xs[k]).objs []) := by
  refine ⟨rfl, hJ g w1 w1 S0 _ _ h.j (KeepL.refl _ _) (fun b hb _ => ?_) (fun b hb => ?_) (fun b hb hs => ?_), KeepL.refl _ _, fun b hb => ?_, hrc⟩
  ·rw [blkOfR] at hb ⊢
   rw [blkOf_claimM, hobjs] at hb
   rcases hb with hb | hb | hb
   ·exact .inl hb
   ·exact .inr (.inl (hb.resolve_right mkB_nil))
   ·exact .inr (.inr hb)
  ·rw [blkOfR, blkOf_claimM, hobjs] at hb
   rcases hb with hb | hb | hb
   ·exact (hCi b hb).1
   ·obtain ⟨i, j, e⟩ := (hblk b).2 (hb.resolve_right mkB_nil)
    exact (h.fr.rng _ _ _ e).1
   ·exact (hexlt b hb).1
  ·rw [blkOfR, blkOf_claimM, hobjs] at hb
   rcases hb with hb | hb | hb
   ·exact (hCi b hb).2.2 hs
   ·obtain ⟨o, hs⟩ := hs
    exact (h.fr.s0 b o (.inl hs)).2 ((hblk b).2 (hb.resolve_right mkB_nil))
   ·exact (hexlt b hb).2.2 hs
  ·rw [blkOf_claimM, hobjs] at hb
   exact .inl ((hblk b).2 (hb.resolve_right mkB_nil))
 refine roundIn_of_wpIn (F := FW none) trivial ?_
 have hF : (FW none).inRound lc.l = FW (some lc.l) := rfl
 rw [hF]
 refine wpIn_mono (awp_vc hT cfg N hDa (hround k hk stk hI) _ (hstab _) (hR0 _) pn true (by rw [hpk]; exact hWa) (some lc.l) (fun e => by cases e) w1.heap.size _ _ _ w1 [] hfr1 (Mk.nil (Nat.le_refl _)) hj1 hpin1) (fun e a1 w2 hq => ?_)
 obtain ⟨cx2, β2, g2, st2, hq2, hfr2, hm2, hj2, hp2⟩ := hq
 cases e with
 | normal =>
  have hq2 : vc P T cfg noY N g2 [.code lc.b] st2 (rangeQ I D k lc.tmps.size ks) := hq2
  obtain ⟨hS2, hjj2, hkl2, hnew2, hx2⟩ := hj2
  have hlt2 := lt_of_heap hx2
  refine ⟨_, beginRound_run hx2 rfl, ?_⟩
  have hlo2 : ¬ ownB β2 lc.l := fun ho => by
   rcases hnew2 _ (blkOf_claimM.2 (.inl ((blkOf_claim hfr2 _).1 ho))) with ho | ho
   ·exact hlo ho
   ·omega
  have hfr3 := hfr2.setBlk hlo2 (fun o v => cell_loop hx2) (.loop (lc.lp .busy none))
  have hmkl : ¬ mkB a1.defers lc.l := fun hb => by have := (hm2.blk hb).2.1; rw [hx2] at this; cases this
  have hm3 : Mk w1.heap.size β2 cx2.S0 a1.defers (wset w2 lc.l (.loop (lc.lp .busy none))) := by
   refine ⟨by rw [wset_size]; exact hm2.bs, hm2.one, fun d hd => ?_⟩
   obtain ⟨r, q1, q2, q3, q4, q5⟩ := hm2.ok d hd
   refine ⟨r, q1, q2, ?_, q4, q5⟩
   rw [wset_ne fun e => hmkl ⟨d, hd, by rw [q1, e]⟩]; exact q3
  have hj3 : roundJ J g lc ds S0 Ci βk (lc.lp .busy none) w1 g2 (wset w2 lc.l (.loop (lc.lp .busy none))) cx2.S0 (claimM β2 st2.objs a1.defers) := by
   refine ⟨hS2, hJ g w2 _ S0 _ _ hjj2 ⟨rfl, rfl, rfl, Nat.le_refl _, by rw [wset_size]; exact Nat.le_refl _, fun b hlt hn => wset_ne fun e => hn (blkOfR.2 (.inr (.inr (.inr (.inl e)))))⟩ (fun b hb _ => hb) (fun b hb => ?_) (fun b hb hs => ?_), ⟨hkl2.os, hkl2.tape, hkl2.output, hkl2.drawn, by rw [wset_size]; exact hkl2.size, fun b hlt hn => ?_⟩, hnew2, wset_same hlt2⟩
   ·rw [wset_size]
    rw [blkOfR, blkOf_claimM] at hb
    rcases hb with hb | (hb | hb) | hb
    ·exact Nat.lt_of_lt_of_le (hCi b hb).1 hkl2.size
    ·obtain ⟨i, j, e⟩ := (blkOf_claim hfr2 b).2 hb
     exact (hfr2.rng _ _ _ e).1
    ·exact lt_of_heap (hm2.blk hb).2.1
    ·exact Nat.lt_of_lt_of_le (hexlt b hb).1 hkl2.size
   ·rw [blkOfR, blkOf_claimM] at hb
    have hs2 : blkOf cx2.S0 b := by rw [hS2]; obtain ⟨o, hs⟩ := hs; exact ⟨o, .inl hs⟩
    rcases hb with hb | (hb | hb) | hb
    ·exact (hCi b hb).2.2 hs
    ·obtain ⟨i, j, e⟩ := (blkOf_claim hfr2 b).2 hb
     obtain ⟨o, hs2⟩ := hs2
     exact hfr2.notS0 e o hs2
    ·exact (hm2.blk hb).2.2.2 hs2
    ·exact (hexlt b hb).2.2 hs
   ·rw [wset_ne fun e => hn (.inr e)]; exact hkl2.block b hlt hn
  refine wpIn_mono (awp_vc hT cfg N hDb hq2 _ (hstab _) (hR0 _) pn true (by rw [hpk]; exact hWb) (some lc.l) (fun e => by cases e) w1.heap.size _ _ a1.tmps _ a1.defers hfr3 hm3 hj3 hp2) (fun e a3 w4 hq => ?_)
  obtain ⟨cx4, β4, g4, st4, hq4, hfr4, hm4, hj4, hp4⟩ := hq
  have fin := fun jump h1 h2 => round_finish (P := P) (ks := ks) hJ h hfr4 hj4 (hpinv hp4) jump h1 h2
  cases e with
  | normal => exact fin none (fun _ => hq4) (fun c e => by cases e)
  | ret => exact fin (some .ret) (fun e => by cases e) (fun c e => by cases e; exact ⟨.ret, hq4, rfl⟩)
  | exit id => exact fin (some (.exit id)) (fun e => by cases e) (fun c e => by cases e; exact ⟨.exit id, hq4, rfl⟩)
  | _ => exact hq4.elim
 | _ => exact hq2.elim
end
end Go.AM
end

section
namespace Go.AM
open Go
def keptS (st : St) (sel : List Nat) : St := ⟨st.n, mapE (AV.mapH (renJ st.objs sel [] st.objs.length) 3) st.env, joinO st.objs sel (renJ st.objs sel [] st.objs.length) []⟩
def renK (objs : List AObj) (ps : List (Bool × Nat × Nat)) (n : Nat) : AV → AV
 | .own i => match lookO i ps, szOk objs i with
  | some j, true => .own (n + j)
  | _, _ => .junk
 | .ref i o => match lookP i ps, isTrie objs i with
  | some j, false => .ref (n + j) o
  | _, _ => .junk
 | .mapr i => match lookP i ps, isTrie objs i with
  | some j, false => .mapr (n + j)
  | _, _ => .junk
 | .eref _ _ _ => .junk
 | .mh _ _ => .junk
 | av => av
def lentOnly (sel : List Nat) (a : AV) : Bool :=
 match a.hs 3 with
 | [] => false
 | l => l.all (elemN · sel)
def mergeV (objs : List AObj) (ps : List (Bool × Nat × Nat)) (n : Nat) (a : AV) (d : AV) : Bool → AV
 | true => a.mapH (renK objs ps n) 3
 | false => d
def mergeE (st : St) (sel : List Nat) (ps : List (Bool × Nat × Nat)) (n : Nat) (dyn : List (Nat × AV)) : List Nat → List (Nat × AV)
 | [] => []
 | t :: r => (t, mergeV st.objs ps n (getE t st.env) (getE t dyn) (lentOnly sel (getE t st.env))) :: mergeE st sel ps n dyn r
def joinR (st : St) (sel : List Nat) (caps : List AV) (ks : List Nat) (stn : St) (as : List AV) (os : List AObj) : St :=
 ⟨stn.n, mergeE st sel (pairsL caps as.tail) stn.objs.length (mapE (AV.mapH (renJ stn.objs [] [] stn.objs.length) 3) stn.env) ks, joinO stn.objs [] (renJ stn.objs [] [] stn.objs.length) os⟩
theorem getE_mergeE (st : St) (sel : List Nat) (ps : List (Bool × Nat × Nat)) (n : Nat) (dyn : List (Nat × AV)) (t : Nat) : ∀ ks : List Nat, getE t (mergeE st sel ps n dyn ks) = (getE t st.env).mapH (renK st.objs ps n) 3 ∨ getE t (mergeE st sel ps n dyn ks) = getE t dyn ∨ getE t (mergeE st sel ps n dyn ks) = .junk
 | [] => .inr (.inr rfl)
 | k :: r => by
  have h1 : getE t (mergeE st sel ps n dyn (k :: r)) = match Nat.beq k t with
   | true => mergeV st.objs ps n (getE k st.env) (getE k dyn) (lentOnly sel (getE k st.env))
   | false => getE t (mergeE st sel ps n dyn r) := rfl
  rw [h1]
  rcases beq_cases k t with ⟨e, rfl⟩ | ⟨e, _⟩
  ·rw [e]
   cases lentOnly sel (getE k st.env) with
   | true => exact .inl rfl
   | false => exact .inr (.inl rfl)
  ·rw [e]; exact getE_mergeE st sel ps n dyn t r
theorem renK_ok {w w' : World} {S S2 Sn : CellSet} {β β' Bt : Nat → Nat → Option Nat} {objs os O : List AObj} {n : Nat} {ps : List (Bool × Nat × Nat)} (hps : ∀ p ∈ ps, PairOk w w' S S2 β β' objs os p)
  (hT : ∀ av v, TV w' S2 β' os av v → TV w' Sn Bt O (av.mapH (shiftL n) 3) v) (hB : ∀ k j, Bt (n + k) j = β' k j) {av : AV} {v : Value} (hh : av.isH = true) (h : TV w S β objs av v) : TV w' Sn Bt O (renK objs ps n av) v := by
 rcases isH_cases hh with ⟨i, rfl⟩ | ⟨i, o, rfl⟩ | ⟨i, j, c, rfl⟩ | ⟨i, rfl⟩ | ⟨i, x, rfl⟩
 ·simp only [renK]
  cases hlo : lookO i ps with
  | none => exact .pure (.junk _)
  | some j =>
   cases hsz : szOk objs i with
   | false => exact .pure (.junk _)
   | true =>
    simp only []
    obtain ⟨v1, p1, p2⟩ := (hps _ (lookO_mem hlo)).resolve_right fun ⟨⟨m, T, e0⟩, _⟩ => by
     obtain ⟨p, ai, e1⟩ := own_arr h
     rw [e0] at e1; cases e1
    have e : v = v1 := by
     cases h with
     | pure h => cases h
     | own ho hlen hnz hn hbb =>
      cases p1 with
      | pure h => cases h
      | own ho' hlen' hnz' hn' hbb' =>
       rw [ho] at ho'
       cases ho'
       obtain ⟨p9, ai9, ho9, hz⟩ : ∃ p ai, objs[i]? = some (.arr p ai) ∧ 1 ≤ p.sz := by
        unfold szOk at hsz
        split at hsz
        ·rename_i p ai ho9; exact ⟨p, ai, ho9, Nat.le_of_ble_eq_true hsz⟩
        ·cases hsz
       rw [ho] at ho9
       cases ho9
       cases hβ : β i 0 with
       | none =>
        obtain ⟨rfl, rfl⟩ := hn hβ
        obtain ⟨rfl, rfl⟩ := hn' hβ
        rw [← hlen, ← hlen']
       | some b =>
        obtain ⟨rfl, _, _, q4⟩ := hbb b hβ
        obtain ⟨rfl, _, _, q4'⟩ := hbb' b hβ
        rw [q4] at q4'
        simp only [Option.some.injEq, Prod.mk.injEq, true_and] at q4'
        have := Nat.eq_of_mul_eq_mul_right (by omega) q4'
        rw [← hlen, ← hlen', this]
    rw [e]
    exact hT (.own j) v1 p2
 ·simp only [renK]
  cases hlo : lookP i ps with
  | none => exact .pure (.junk _)
  | some j =>
   cases htr : isTrie objs i with
   | true => exact .pure (.junk _)
   | false =>
   simp only []
   cases h with
   | pure h => cases h
   | ref hbb =>
    refine .ref ?_
    rw [hB]
    obtain ⟨o', hm⟩ := lookP_mem hlo
    have hpk := hps _ hm
    cases o' with
    | false =>
     obtain ⟨b', e1, e2⟩ := hpk
     rw [hbb] at e1; cases e1; exact e2
    | true =>
     obtain ⟨v1, p1, p2⟩ := hpk.resolve_right fun ⟨⟨m, T, e0⟩, _⟩ => by simp [isTrie, e0] at htr
     cases p1 with
     | pure h => cases h
     | own ho' hlen' hnz' hn' hbb' =>
      obtain ⟨rfl, _⟩ := hbb' _ hbb
      cases p2 with
      | pure h => cases h
      | own ho2 hlen2 hnz2 hn2 hbb2 =>
       cases hβ : β' j 0 with
       | none => have := (hn2 hβ).1; cases this
       | some b2 => have := (hbb2 b2 hβ).1; simp only [Option.some.injEq, Addr.mk.injEq] at this; rw [this.1]
 ·exact .pure (.junk _)
 ·simp only [renK]
  cases hlo : lookP i ps with
  | none => exact .pure (.junk _)
  | some j =>
   cases htr : isTrie objs i with
   | true => exact .pure (.junk _)
   | false =>
   simp only []
   cases h with
   | pure h => cases h
   | mapr hbb =>
    refine .mapr ?_
    rw [hB]
    obtain ⟨o', hm⟩ := lookP_mem hlo
    have hpk := hps _ hm
    cases o' with
    | false =>
     obtain ⟨b', e1, e2⟩ := hpk
     rw [hbb] at e1; cases e1; exact e2
    | true =>
     obtain ⟨v1, p1, p2⟩ := hpk.resolve_right fun ⟨⟨m, T, e0⟩, _⟩ => by simp [isTrie, e0] at htr
     cases p1 with
     | pure h => cases h
     | own ho' hlen' hnz' hn' hbb' =>
      obtain ⟨rfl, _⟩ := hbb' _ hbb
      cases p2 with
      | pure h => cases h
      | own ho2 hlen2 hnz2 hn2 hbb2 =>
       cases hβ : β' j 0 with
       | none => have := (hn2 hβ).1; cases this
       | some b2 => have := (hbb2 b2 hβ).1; simp only [Option.some.injEq, Addr.mk.injEq] at this; rw [this.1]
 ·exact .pure (.junk _)
theorem selB_own {β : Nat → Nat → Option Nat} {sel : List Nat} {b : Nat} (h : ownB (selB β sel) b) : ∃ i j, i ∈ sel ∧ β i j = some b := by
 obtain ⟨k, j, e⟩ := h
 obtain ⟨i, hi, e⟩ := selB_some e
 exact ⟨i, j, List.mem_of_getElem? hi, e⟩
theorem FR.kept {cx : Cx} {β : Nat → Nat → Option Nat} {st : St} {tmps : Array Value} {w : World} (h : FR cx β st tmps w) (sel : List Nat) (hnd : sel.Nodup) :
  ∃ βk, FR ⟨w, fun b o => cx.S0 b o ∨ blkOf (claim (selB β sel) (selO st.objs sel)) b, ownB βk⟩ βk (keptS st sel) tmps w ∧ (∀ b o, claim βk (keptS st sel).objs b o ↔ keptC β st.objs sel b o) := by
 have hsel : ∀ b, blkOf (claim (selB β sel) (selO st.objs sel)) b → ∃ i j, i ∈ sel ∧ β i j = some b := fun b hb => selB_own ((blkOf_claim (h.select sel hnd) b).2 hb)
 have hb : BackL cx β st sel w w (fun b o => cx.S0 b o ∨ blkOf (claim (selB β sel) (selO st.objs sel)) b) (fun _ _ => none) [] := by
  refine ⟨fun _ _ _ _ _ => rfl, Keeps.refl _ _, Nat.le_refl _, fun b o hs => ?_, fun b o v hc hn => ⟨fun hs => ?_, fun ⟨i, ob, h1, _⟩ => (by simp at h1)⟩, fun b ⟨o, hs⟩ => ⟨fun ⟨_, _, e⟩ => (by cases e), fun i j hi e => ?_⟩, fun b ⟨_, _, e⟩ => (by cases e)⟩
  ·rcases hs with hs | hs
   ·exact Nat.lt_of_lt_of_le (h.s0 b o hs).1 h.keep.size
   ·obtain ⟨i, j, _, e⟩ := hsel b hs
    exact (h.rng _ _ _ e).1
  ·rcases hs with hs | hs
   ·exact hn (.inl hs)
   ·obtain ⟨i, j, _, e⟩ := hsel b hs
    obtain ⟨ob, h1, h2⟩ := h.claims e
    exact hn (.inr ⟨i, ob, h1, h2 o⟩)
  ·rcases hs with hs | hs
   ·exact h.notS0 e o hs
   ·obtain ⟨i', j', hi', e'⟩ := hsel b hs
    obtain ⟨rfl, _⟩ := h.inj _ _ _ _ _ e e'
    exact hi hi'
 have h2 : FR ⟨w, lendS (fun b o => cx.S0 b o ∨ blkOf (claim (selB β sel) (selO st.objs sel)) b) β st.objs sel, ownB fun _ _ => none⟩ (fun _ _ => none) ⟨0, [], []⟩ #[] w := by
  refine ⟨KeepL.refl _ _, fun b o hs => ⟨?_, fun ⟨_, _, e⟩ => by cases e⟩, fun _ _ _ _ _ e => (by cases e), fun _ _ _ e => (by cases e), fun _ _ _ => rfl, fun i o ho => by simp at ho, rfl, fun t => .pure (.junk _)⟩
  rcases hs with hs | hs
  ·exact hb.lt b o hs
  ·obtain ⟨i, hi, jk, e⟩ := kept_some h ⟨o, hs⟩
   exact (h.rng _ _ _ e).1
 obtain ⟨hF, _, hC⟩ := h.joinO sel hb h2 (ps := []) (fun p hp => by cases hp)
 refine ⟨_, hF, fun b o => ?_⟩
 rw [show (keptS st sel).objs = AM.joinO st.objs sel (renJ st.objs sel [] st.objs.length) [] from rfl, hC]
 exact ⟨fun hh => hh.resolve_right fun ⟨i, ob, h1, _⟩ => by simp at h1, .inl⟩
end Go.AM
end

section
namespace Go.AM
open Go
section
variable {P : Program} {T : Tys}
theorem awp_range (hT : TyOk P T) (cfg : VCfg) (N : Nat) {g : Gh} {st : St} {f : Operand} {ps : Array Tmp} {a b : Code} {Q : Gh → Exit → St → Prop} {fid : FuncId} {caps : List AV} (xs : List (List AV)) (ks : List Nat) (I : Nat → St → Prop) (D : Nat → Exit → St → Prop) (Qend : QG)
  (hev : st.ev f = .clo fid caps) (hks : ks.all (fun t => !(elemN t ps.toList) && Nat.blt t st.n) = true) (hlen : ∀ k (h : k < xs.length), (xs[k]).length = ps.size)
  (hWa : codeW ks true a = true) (hWb : codeW ks true b = true) (hDa : codeD P cfg a = true) (hDb : codeD P cfg b = true)
  (hit : ∀ l, GCall P ⟨l, xs⟩ fid (false, 0) (.lit (.func (.yield l) #[] #[]) :: caps.map (renA (selOf st caps))) (selO st.objs (selOf st caps)) Qend)
  (hI0 : I 0 ((keptS st (selOf st caps)).gcN st.n ks))
  (hround : ∀ k (hk : k < xs.length) stk, I k stk → vc P T cfg noY N g [.code a] (setPs stk ps.toList xs[k]) (asgQ (vc P T cfg noY N) b (rangeQ I D k st.n ks)))
  (hend : ∀ g' r as os, Qend g' r as os → (g'.1 = false → ∀ stn, I g'.2 stn → Q g .normal (joinR st (selOf st caps) caps ks stn as os)) ∧ (g'.1 = true → ∀ e stn, D g'.2 e stn → Q g e (joinR st (selOf st caps) caps ks stn as os))) :
  AWP P noY g (.rangeFunc f ps a b) st Q := by
 intro J hJ hR pn nr hpn ro hro B cx β tmps w ds hfr hm hj hpin
 have hnr : nr = false := by simpa [codeW] using hpn
 obtain rfl := hro hnr
 have hnd : (selOf st caps).Nodup := reach3_nodup _ _
 generalize hsel : selOf st caps = sel at *
 have hszt : tmps.size = st.n := hfr.size
 -- the function that is ranged over
 have hcv := hfr.ev ds f
 rw [hev] at hcv
 obtain ⟨vs, hcv, hcl, hcr⟩ : ∃ vs : Array Value, ({ tmps, defers := ds } : Act).eval f = .func (.func fid) #[] vs ∧ caps.length = vs.size ∧ ∀ k (hk : k < caps.length), TV w (cx.S β st.objs) β st.objs (caps[k]) (vs[k]!) := by
  revert hcv
  generalize ({ tmps, defers := ds } : Act).eval f = v
  intro hc
  cases hc with
  | pure hc => cases hc with
   | clo hl hr => exact ⟨_, rfl, hl, fun k hk => .pure (hr k hk)⟩
  | clo hl hr => exact ⟨_, rfl, hl, hr⟩
 refine wpIn_rangeFunc fun fn _ => ?_
 let lc : LoopC := ⟨fn, tmps, ps, a, b, w.heap.size + 1, w.heap.size⟩
 let w1 : World := (w.alloc (.deferred (some []))).alloc (.loop (lc.lp .ready none))
 have hk1 : KeepL (fun _ => False) w w1 := (keepL_alloc w _).trans (keepL_alloc _ _) (fun _ _ => id)
 have hsz1 : w1.heap.size = w.heap.size + 2 := by show ((w.alloc _).alloc _).heap.size = _; rw [size_alloc, size_alloc]
 have hrc : w1.heap[lc.l]? = some (.loop (lc.lp .ready none)) := by
  have := heap_new (w.alloc (.deferred (some []))) (.loop (lc.lp .ready none))
  rw [size_alloc] at this
  exact this
 have hmk : w1.heap[lc.r]? = some (.deferred (some [])) := by
  have h1 := (keepL_alloc (w.alloc (.deferred (some []))) (.loop (lc.lp .ready none))).block w.heap.size (by rw [size_alloc]; omega) id
  have h2 := heap_new w (.deferred (some []))
  show ((w.alloc _).alloc _).heap[w.heap.size]? = _
  rw [h1, h2]
 have hold : ∀ b, b < w.heap.size → w1.heap[b]? = w.heap[b]? := fun b hb => hk1.block b hb id
 -- what is lent, and what is kept
 have hlend := hfr.lend sel hnd hcl hcr
 obtain ⟨βk, hkept, hkC⟩ := hfr.kept sel hnd
 obtain ⟨βg, hgc⟩ := hkept.gc ks
 have hgB : ∀ b, ownB βg b → ownB βk b := fun b ⟨i, j, e⟩ => (hgc.rng i j b e).2 (hgc.rng i j b e).1
 have hst0 : FR ⟨w, fun b o => cx.S0 b o ∨ blkOf (claim (selB β sel) (selO st.objs sel)) b, ownB βk⟩ βg ((keptS st sel).gcN st.n ks) tmps w := hgc.reenv (st := (keptS st sel).gc ks) hszt fun t => hgc.env t
 have hclB : ∀ b, blkOf (claim (selB β sel) (selO st.objs sel)) b → ∃ i j, i ∈ sel ∧ β i j = some b := fun b hb => selB_own ((blkOf_claim hlend b).2 hb)
 have hkB : ∀ b, ownB βg b → ∃ i, i ∉ sel ∧ ∃ j, β i j = some b := fun b hb => by
  obtain ⟨o, hc⟩ := (blkOf_claim hkept b).1 (hgB b hb)
  exact kept_some hfr ⟨o, (hkC b o).1 hc⟩
 have hCc : lendS cx.S0 β st.objs sel = fun b o => cx.S0 b o ∨ keptC β st.objs sel b o := rfl
 -- the caller's hold
 let J' := rangeJ J g I D lc cx β st ds w
 have hstab : J'.stable := rangeJ_stable hJ
 have hrounds : Rounds P ⟨lc.l, xs⟩ J' := rangeJ_rounds hT cfg N hJ (ks := ks) (fun t ht => by
  have := List.all_eq_true.1 hks t ht
  simp only [Bool.and_eq_true, Bool.not_eq_true'] at this
  refine ⟨fun hm => ?_, ?_⟩
  ·rw [elemN_mem hm] at this; exact absurd this.1 (by simp)
  ·show t < tmps.size
   rw [hszt]; simpa using this.2) hlen hWa hWb hDa hDb (fun k hk stk hI => by
  show vc P T cfg noY N g [.code a] (setPs stk ps.toList xs[k]) (asgQ (vc P T cfg noY N) b (rangeQ I D k tmps.size ks))
  rw [hszt]; exact hround k hk stk hI)
 have hgsub : ∀ b o, claim βg ((keptS st sel).gcN st.n ks).objs b o → keptC β st.objs sel b o := fun b o hc => by
  obtain ⟨o', hc'⟩ := (blkOf_claim hkept b).1 (hgB b ((blkOf_claim hst0 b).2 ⟨o, hc⟩))
  exact (hkC b o).1 (claim_any ⟨o', hc'⟩)
 have hcallee : FR ⟨w1, fun b o => cx.S0 b o ∨ claim βg ((keptS st sel).gcN st.n ks).objs b o, ownB (selB β sel)⟩ (selB β sel) ⟨(AV.lit (.func (.yield lc.l) #[] #[]) :: caps.map (renA sel)).length, enumE 0 (.lit (.func (.yield lc.l) #[] #[]) :: caps.map (renA sel)), selO st.objs sel⟩ (#[Value.func (.yield lc.l) #[] #[]] ++ vs) w1 := by
  have h1 := (hlend.grow hk1)
  have h2 := h1.other (w' := w1) (S0' := fun b o => cx.S0 b o ∨ claim βg ((keptS st sel).gcN st.n ks).objs b o) (Keeps.refl _ _) (fun _ _ _ _ => rfl) (Nat.le_refl _) (fun b o hs => ?_) (fun b o hs ho => ?_) (fun b o v _ hn hs => ?_)
  ·refine h2.reenv (st := ⟨(caps.map (renA sel)).length, enumE 0 (caps.map (renA sel)), selO st.objs sel⟩) (by simp [hcl]; omega) fun t => ?_
   cases t with
   | zero =>
    have e1 : getE 0 (enumE 0 (AV.lit (.func (.yield lc.l) #[] #[]) :: caps.map (renA sel))) = .lit (.func (.yield lc.l) #[] #[]) := rfl
    have e2 : (#[Value.func (.yield lc.l) #[] #[]] ++ vs).getD 0 undef = .func (.yield lc.l) #[] #[] := by
     rw [Array.getD_eq_getD_getElem?, Array.getElem?_append_left (by simp)]; rfl
    rw [e1, e2]
    exact .pure (.lit _)
   | succ t =>
    have e2 : (#[Value.func (.yield lc.l) #[] #[]] ++ vs).getD (t + 1) undef = vs.getD t undef := by
     rw [Array.getD_eq_getD_getElem?, Array.getElem?_append_right (by simp), Array.getD_eq_getD_getElem?]; rfl
    rw [e2]
    by_cases ht : t < (caps.map (renA sel)).length
    ·have e3 := getE_enum_lt (AV.lit (.func (.yield lc.l) #[] #[]) :: caps.map (renA sel)) 0 (t + 1) (by simpa using ht)
     rw [Nat.zero_add] at e3
     rw [e3]
     have h4 := h2.env t
     have e4 := getE_enum_lt (caps.map (renA sel)) 0 t ht
     rw [Nat.zero_add] at e4
     rw [e4] at h4
     simpa using h4
    ·rcases getE_enumE (AV.lit (.func (.yield lc.l) #[] #[]) :: caps.map (renA sel)) 0 (t + 1) with ⟨c, hc, q1, q2⟩ | q2
     ·simp at hc ht; omega
     ·rw [q2]; exact .pure (.junk _)
  ·rcases hs with hs | hs
   ·exact Nat.lt_of_lt_of_le (Nat.lt_of_lt_of_le (hfr.s0 b o hs).1 hfr.keep.size) hk1.size
   ·obtain ⟨i, hi, jk, e⟩ := kept_some hfr ⟨o, hgsub b o hs⟩
    exact Nat.lt_of_lt_of_le (hfr.rng _ _ _ e).1 hk1.size
  ·refine h1.notS0 (i := ho.choose) (j := ho.choose_spec.choose) ho.choose_spec.choose_spec o ?_
   rcases hs with hs | hs
   ·exact .inl hs
   ·exact .inr (hgsub b o hs)
  ·rcases hs with hs | hs
   ·exact hn (.inl hs)
   ·exact hn (.inr (hgsub b o hs))
 have hkeptlt : ∀ b, ownB βg b → b < w.heap.size := fun b hb => by obtain ⟨i, _, jk, e⟩ := hkB b hb; exact (hfr.rng _ _ _ e).1
 have hsellt : ∀ b, blkOf (claim (selB β sel) (selO st.objs sel)) b → b < w.heap.size := fun b hb => by obtain ⟨i, j, _, e⟩ := hclB b hb; exact (hfr.rng _ _ _ e).1
 have hS0lt : ∀ b, blkOf cx.S0 b → b < w.heap.size := fun b ⟨o, hs⟩ => Nat.lt_of_lt_of_le (hfr.s0 b o hs).1 hfr.keep.size
 have hgC := blkOf_claim hst0
 have hj1 : J' (false, 0) w1 (fun b o => cx.S0 b o ∨ claim βg ((keptS st sel).gcN st.n ks).objs b o) (claim (selB β sel) (selO st.objs sel)) := by
  refine ⟨βg, _, cx.S0, none, rfl, fun _ => ⟨rfl, hI0⟩, fun e => (by cases e), (hst0.grow hk1).anchor, ?_, hrc, hmk, fun b hb => ?_, fun b hb => ?_, fun b o v _ hc => ?_, fun b o v hc hn => ⟨fun hs => hn (.inl hs), fun hs => ?_, fun hs => ?_⟩, hk1.size, fun b hb ⟨o, hs⟩ => ?_⟩
  ·refine hJ g w w1 cx.S0 _ _ hj ⟨hk1.os, hk1.tape, hk1.output, hk1.drawn, hk1.size, fun b hlt _ => hold b hlt⟩ (fun b hb hlt => ?_) (fun b hb => ?_) (fun b hb hs => ?_)
   ·rw [blkOfR] at hb
    rw [blkOf_claimM]
    rcases hb with hb | hb | hb | rfl | rfl
    ·obtain ⟨i, j, _, e⟩ := hclB b hb
     exact .inl ((blkOf_claim hfr b).1 ⟨i, j, e⟩)
    ·obtain ⟨i, _, jk, e⟩ := hkB b ((hgC b).2 hb)
     exact .inl ((blkOf_claim hfr b).1 ⟨i, jk, e⟩)
    ·exact .inr hb
    ·exact absurd hlt (by show ¬ w.heap.size + 1 < w.heap.size; omega)
    ·exact absurd hlt (by show ¬ w.heap.size < w.heap.size; omega)
   ·rw [blkOfR] at hb
    rw [hsz1]
    rcases hb with hb | hb | hb | rfl | rfl
    ·have := hsellt b hb; omega
    ·have := hkeptlt b ((hgC b).2 hb); omega
    ·have := lt_of_heap (hm.blk hb).2.1; omega
    ·show w.heap.size + 1 < w.heap.size + 2; omega
    ·show w.heap.size < w.heap.size + 2; omega
   ·rw [blkOfR] at hb
    have hslt := hS0lt b hs
    rcases hb with hb | hb | hb | rfl | rfl
    ·obtain ⟨i, j, _, e⟩ := hclB b hb
     obtain ⟨o, hs⟩ := hs
     exact hfr.notS0 e o hs
    ·obtain ⟨i, _, jk, e⟩ := hkB b ((hgC b).2 hb)
     obtain ⟨o, hs⟩ := hs
     exact hfr.notS0 e o hs
    ·exact (hm.blk hb).2.2.2 hs
    ·exact absurd hslt (by show ¬ w.heap.size + 1 < w.heap.size; omega)
    ·exact absurd hslt (by show ¬ w.heap.size < w.heap.size; omega)
  ·obtain ⟨_, h2, _⟩ := hm.blk hb
   rw [hold b (lt_of_heap h2)]; exact h2
  ·rcases hb with hb | rfl | rfl
   ·obtain ⟨_, _, h3, h4⟩ := hm.blk hb
    refine ⟨fun ho => ?_, h4, fun hs => ?_⟩
    ·obtain ⟨i, _, jk, e⟩ := hkB b ho; exact h3 ⟨i, jk, e⟩
    ·obtain ⟨i, j, _, e⟩ := hclB b hs; exact h3 ⟨i, j, e⟩
   ·refine ⟨fun ho => ?_, fun hs => ?_, fun hs => ?_⟩
    ·have : w.heap.size + 1 < w.heap.size := hkeptlt _ ho; omega
    ·have : w.heap.size + 1 < w.heap.size := hS0lt _ hs; omega
    ·have : w.heap.size + 1 < w.heap.size := hsellt _ hs; omega
   ·refine ⟨fun ho => ?_, fun hs => ?_, fun hs => ?_⟩
    ·have : w.heap.size < w.heap.size := hkeptlt _ ho; omega
    ·have : w.heap.size < w.heap.size := hS0lt _ hs; omega
    ·have : w.heap.size < w.heap.size := hsellt _ hs; omega
  ·rw [cell?_of_heap (hold b (lt_of_cell? hc))]; exact hc
  ·obtain ⟨i, j, _, e⟩ := hclB b hs
   obtain ⟨ob, h1, h2⟩ := hfr.claims e
   exact hn (.inr ⟨i, ob, h1, h2 o⟩)
  ·obtain ⟨i, _, jk, e⟩ := hkB b hs
   obtain ⟨ob, h1, h2⟩ := hfr.claims e
   exact hn (.inr ⟨i, ob, h1, h2 o⟩)
  ·obtain ⟨i, j, _, e⟩ := hclB b hb
   exact hfr.notS0 e o hs
 -- the call
 have hres : (resolve ({ tmps, defers := ds } : Act).eval (rangeCall f lc.l) 0).run P w1 = .ok { target := .fn (.func fid) vs, args := #[.func (.yield lc.l) #[] #[]] } w1 := by
  simp only [resolve, rangeCall, hcv, Deferred.ofValue, Sem.run_bind, Sem.run_pure, Result.andThen_ok]
  simp [Act.eval]
 have hinv : (invoke (.fn (.func fid) vs) #[.func (.yield lc.l) #[] #[]]).run P w1 = .ok (.enter fid (#[.func (.yield lc.l) #[] #[]] ++ vs)) w1 := by
  have := (hit lc.l).enters (#[.func (.yield lc.l) #[] #[]] ++ vs) w1
  simpa [invoke] using this
 refine ⟨lc.l, [{ target := .collected lc.r, args := #[] }], w1, _, w1, fid, _, w1, enterLoop_run fn tmps ps a b, hres, fun _ _ => trivial, hinv, fun e => by simp [FW, Fence.wide] at e, ?_⟩
 refine ((hit lc.l).calls J' hstab hrounds w1 _ _ _ hcallee hj1).mono fun e w3 he => ?_
 cases e with
 | returned v =>
  obtain ⟨g', rr, as, os, S0'', β', hq, hal, hf', βn, stn, S0, pend, rfl, h⟩ := he
  have hlt3 := lt_of_heap h.rc
  have hcl' : ∀ b, ownB β' b ↔ blkOf (claim β' os) b := fun b => blkOf_claim hf' b
  have hkn := blkOf_claim h.fr
  have hlo' : ∀ b, ownB β' b → ¬ ownB βn b := fun b hb ho => by
   obtain ⟨o, hc⟩ := (hcl' b).1 hb
   exact (h.fr.s0 b o (.inr ⟨o, hc⟩)).2 ho
  have hset : lendS S0 βn stn.objs [] = fun b o => S0 b o ∨ claim βn stn.objs b o := by
   funext b o
   refine propext ⟨fun hs => ?_, fun hs => ?_⟩
   ·rcases hs with hs | ⟨i, ob, _, h1, h2⟩
    ·exact .inl hs
    ·exact .inr ⟨i, ob, h1, h2⟩
   ·rcases hs with hs | ⟨i, ob, h1, h2⟩
    ·exact .inl hs
    ·exact .inr ⟨i, ob, by simp, h1, h2⟩
  have hbl : BackL ⟨w3, fun b o => S0 b o ∨ blkOf (claim β' os) b, ownB βn⟩ βn stn [] w3 w3 S0 β' os := by
   refine ⟨fun _ _ _ _ _ => rfl, Keeps.refl _ _, Nat.le_refl _, fun b o hs => (h.fr.s0 b o (.inl hs)).1, fun b o v _ hn => ⟨fun hs => hn (.inl (.inl hs)), fun hs => hn (.inl (.inr ⟨o, hs⟩))⟩, fun b ⟨o, hs⟩ => ⟨fun ho => h.dis b ((hcl' b).1 ho) ⟨o, hs⟩, fun i j _ e => (h.fr.s0 b o (.inl hs)).2 ⟨i, j, e⟩⟩, fun b ho i j _ e => hlo' b ho ⟨i, j, e⟩⟩
  obtain ⟨hF, hTs, hC⟩ := h.fr.joinO [] hbl (by rw [hset]; exact hf') (ps := []) (fun p hp => by cases hp)
  generalize hBt : joinLB βn β' stn.objs.length [] = Bt at *
  have hpairs : ∀ p ∈ pairsL caps as.tail, PairOk w w3 (cx.S β st.objs) ((⟨w3, lendS S0 βn stn.objs [], ownB β'⟩ : Cx).S β' os) β β' st.objs os p := fun p hp => by
   obtain ⟨⟨x, x'⟩, hz, hp⟩ := List.mem_flatMap.1 hp
   obtain ⟨c, hcc, e⟩ := List.getElem_of_mem hz
   have hc1 : c < caps.length := by simp at hcc; omega
   have hc2 : c < as.tail.length := by simp at hcc ⊢; omega
   simp only [List.getElem_zip, Prod.mk.injEq] at e
   refine pairs_ok h.keeps 3 x x' (vs[c]!) (by rw [← e.1]; exact hcr c hc1) ?_ p hp
   have h3 := hf'.env (0 + (c + 2))
   rw [getE_enum_lt (rr :: as) 0 (c + 2) (by simp at hc2 ⊢; omega)] at h3
   have e4 : (#[v] ++ (#[Value.func (.yield lc.l) #[] #[]] ++ vs)).getD (0 + (c + 2)) undef = vs[c]! := by
    rw [getElem!_pos vs c (by omega), Array.getD_eq_getD_getElem?, Array.getElem?_append_right (by simp), Array.getElem?_append_right (by simp)]
    simp [show c < vs.size by omega]
   rw [e4] at h3
   rw [← e.2, hset]
   simpa using h3
  have hnewS : ∀ b o v, w.cell? ⟨b, o, none⟩ = some v → ¬ cx.S β st.objs b o → ¬ (⟨w3, S0, ownB Bt⟩ : Cx).S Bt (joinO stn.objs [] (renJ stn.objs [] [] stn.objs.length) os) b o := fun b o v hc hn hs => by
   obtain ⟨n1, n2, n3⟩ := h.new b o v hc hn
   rcases hs with hs | hs
   ·exact n1 hs
   ·rcases (hC b o).1 hs with ⟨i, ob, _, h1, h2⟩ | hs
    ·exact n3 ⟨i, _, (claims_block h2).2.choose_spec⟩
    ·exact n2 ⟨o, hs⟩
  have hFe : FR ⟨w3, S0, ownB Bt⟩ Bt (joinR st sel caps ks stn as os) tmps w3 := by
   refine hF.reenv (st := ⟨stn.n, _, _⟩) hF.size fun t => ?_
   rcases getE_mergeE st sel (pairsL caps as.tail) stn.objs.length (mapE (AV.mapH (renJ stn.objs [] [] stn.objs.length) 3) stn.env) t ks with e | e | e
   ·show TV _ _ _ _ (getE t (mergeE _ _ _ _ _ _)) _
    rw [e]
    exact TV.mapH (fun av v hh ht => renK_ok hpairs hTs (fun k j => by rw [← hBt]; exact joinLB_ge k j) hh ht) (fun av v hp => hp.keeps h.keeps hnewS) 3 _ _ (hfr.env t)
   ·show TV _ _ _ _ (getE t (mergeE _ _ _ _ _ _)) _
    rw [e]; exact hF.env t
   ·show TV _ _ _ _ (getE t (mergeE _ _ _ _ _ _)) _
    rw [e]; exact .pure (.junk _)
  have hBo : ∀ b, ownB Bt b → ownB βn b ∨ ownB β' b := fun b hb => by
   obtain ⟨o, hc⟩ := (blkOf_claim hFe b).1 hb
   rcases (hC b o).1 hc with ⟨i, ob, _, h1, h2⟩ | hc
   ·exact .inl ⟨i, _, (claims_block h2).2.choose_spec⟩
   ·exact .inr ((hcl' b).2 ⟨o, hc⟩)
  have hexB : ∀ b, exB ds lc b → ¬ ownB Bt b := fun b he hb => by
   obtain ⟨e1, e2, e3⟩ := h.ex b he
   rcases hBo b hb with hb | hb
   ·exact e1 hb
   ·exact e3 ((hcl' b).1 hb)
  have hF4 := hFe.setBlk (hexB _ (.inr (.inl rfl))) (fun o v => cell_loop h.rc) (.loop { lc.lp (if g'.1 then .done else .ready) pend with state := .exhausted })
  have hlr : lc.r ≠ lc.l := by show w.heap.size ≠ w.heap.size + 1; omega
  have hmkd : mkB ({ target := .collected lc.r, args := #[] } :: ds) = fun b => b = lc.r ∨ mkB ds b := by
   funext b
   refine propext ⟨fun ⟨d, hd, e⟩ => ?_, fun hb => ?_⟩
   ·rcases List.mem_cons.1 hd with rfl | hd
    ·cases e; exact .inl rfl
    ·exact .inr ⟨d, hd, e⟩
   ·rcases hb with rfl | ⟨d, hd, e⟩
    ·exact ⟨{ target := .collected lc.r, args := #[] }, List.mem_cons_self, rfl⟩
    ·exact ⟨d, by simp [hd], e⟩
  have hmkl : ∀ b, mkB ds b → b < w.heap.size := fun b hb => lt_of_heap (hm.blk hb).2.1
  have hM4 : Mk B Bt S0 ({ target := .collected lc.r, args := #[] } :: ds) (wset w3 lc.l (.loop { lc.lp (if g'.1 then .done else .ready) pend with state := .exhausted })) := by
   refine ⟨by rw [wset_size]; exact Nat.le_trans hm.bs h.size, ?_, fun d hd => ?_⟩
   ·rw [List.pairwise_cons]
    refine ⟨fun d hd e => ?_, hm.one⟩
    have : w.heap.size < w.heap.size := hmkl _ ⟨d, hd, e.symm⟩
    omega
   ·rcases List.mem_cons.1 hd with rfl | hd
    ·exact ⟨lc.r, rfl, hm.bs, by rw [wset_ne hlr]; exact h.mark, hexB _ (.inr (.inr rfl)), (h.ex _ (.inr (.inr rfl))).2.1⟩
    ·obtain ⟨r, q1, q2, q3, q4, q5⟩ := hm.ok d hd
     have hmr : mkB ds r := ⟨d, hd, q1⟩
     have hne : r ≠ lc.l := fun e => by
      have : w.heap.size + 1 < w.heap.size := by rw [show w.heap.size + 1 = r from e.symm]; exact hmkl r hmr
      omega
     exact ⟨r, q1, q2, by rw [wset_ne hne]; exact h.marks r hmr, hexB _ (.inl hmr), (h.ex _ (.inl hmr)).2.1⟩
  have hJ4 : J g (wset w3 lc.l (.loop { lc.lp (if g'.1 then .done else .ready) pend with state := .exhausted })) S0 (claimM Bt (joinR st sel caps ks stn as os).objs ({ target := .collected lc.r, args := #[] } :: ds)) := by
   refine hJ g w3 _ S0 _ _ h.j ⟨rfl, rfl, rfl, Nat.le_refl _, by rw [wset_size]; exact Nat.le_refl _, fun b _ hn => wset_ne fun e => hn (blkOfR.2 (.inr (.inr (.inr (.inl e)))))⟩ (fun b hb _ => ?_) (fun b hb => ?_) (fun b hb hs => ?_)
   ·rw [blkOf_claimM, hmkd] at hb
    rw [blkOfR]
    rcases hb with hb | hb | hb
    ·rcases hBo b ((blkOf_claim hFe b).2 hb) with hb | hb
     ·exact .inr (.inl ((hkn b).1 hb))
     ·exact .inl ((hcl' b).1 hb)
    ·exact .inr (.inr (.inr (.inr hb)))
    ·exact .inr (.inr (.inl hb))
   ·rw [wset_size]
    rw [blkOf_claimM, hmkd] at hb
    rcases hb with hb | hb | hb
    ·obtain ⟨i, j, e⟩ := (blkOf_claim hFe b).2 hb
     exact (hFe.rng _ _ _ e).1
    ·rw [hb]; exact lt_of_heap h.mark
    ·exact lt_of_heap (h.marks b hb)
   ·rw [blkOf_claimM, hmkd] at hb
    rcases hb with hb | hb | hb
    ·obtain ⟨i, j, e⟩ := (blkOf_claim hFe b).2 hb
     obtain ⟨o, hs⟩ := hs
     exact hFe.notS0 e o hs
    ·exact (h.ex b (.inr (.inr hb))).2.1 hs
    ·exact (h.ex b (.inl hb)).2.1 hs
  obtain ⟨hgo, hstop⟩ := hend g' rr as os hq
  refine ⟨pend, _, endLoop_run h.rc (by cases g'.1 <;> simp [LoopC.lp]), ?_⟩
  cases hg1 : g'.1 with
  | false =>
   obtain ⟨rfl, hI⟩ := h.go hg1
   exact ⟨_, Bt, g, _, hgo hg1 stn hI, hF4, hM4, hJ4, hpin⟩
  | true =>
   obtain ⟨e, c, hD, hc, rfl⟩ := h.stop hg1
   have hfin : QV J pn B Q e ⟨tmps, { target := .collected lc.r, args := #[] } :: ds⟩ (wset w3 lc.l (.loop { lc.lp (if g'.1 then .done else .ready) (some c) with state := .exhausted })) := ⟨_, Bt, g, _, hstop hg1 e stn hD, hF4, hM4, hJ4, hpin⟩
   cases e with
   | ret => cases hc; exact wpIn_ret hfin
   | exit id => cases hc; exact wpIn_exit hfin
   | _ => cases hc
 | panicked => exact he.elim
 | outgrown => exact he.elim
end
end Go.AM
end

section
namespace Go.AM
open Go
def tkOf : TypeDesc → Option TK
 | .int k => some (.int k)
 | .bool => some .bool
 | .string => some .str
 | .slice e => some (.slice e)
 | .pointer e => some (.ptr e)
 | .struct fields => some (.struct (fields.toList.map fun f => (f.offset, f.type)))
 | .array n e => some (.array n e)
 | .map k e => some (.map k e)
 | .func _ _ _ => some .func
 | .interface _ => some .iface
 | _ => none
def tyP (P : Program) : Tys := fun t =>
 match P.info? t, P.underlying t with
 | some inf, some d => match inf.zero, tkOf d with
  | some z, some k => some ⟨inf.size, inf.bytes, k, avOf z⟩
  | _, _ => none
 | _, _ => none
theorem tyP_ok (P : Program) : TyOk P (tyP P) := by
 intro t i h
 unfold tyP at h
 split at h
 ·rename_i inf d h1 h2
  split at h
  ·rename_i z k hz hk
   cases h
   refine ⟨⟨inf, h1, rfl, rfl, z, hz, rfl⟩, d, h2, ?_⟩
   cases d <;> simp only [tkOf] at hk <;> first | (cases hk; done) | (cases hk; simp [TKok])
  ·cases h
 ·cases h
end Go.AM
end

section
namespace Go.AM
open Go
section
variable {P : Program} {T : Tys} {cfg : VCfg} {y : Yc} {V : VC} {n : Nat} {g : Gh} {r : List Item} {st : St} {Q : Gh → Exit → St → Prop}
theorem vc_op {o gd k} : vc P T cfg y (n + 1) g (.op o gd k :: r) st Q = vcR P cfg y (vc P T cfg y n) g o gd k r st Q (stepO T cfg o gd k st) := rfl
theorem vcR_st {o gd k} {s : St} : vcR P cfg y V g o gd k r st Q (.st s) = V g r s Q := rfl
theorem vcR_ob {o gd k} {p : Prop} {s : St} : vcR P cfg y V g o gd k r st Q (.ob p s) = (p ∧ V g r s Q) := rfl
theorem vcR_new {o gd k} {p : Prop} {F : Nat → Prop} {s : Nat → St} : vcR P cfg y V g o gd k r st Q (.new p F s) = (p ∧ ∀ b, F b → V g r (s b) Q) := rfl
theorem vcR_split {o gd k} {b : Bool} {d : Nat} : vcR P cfg y V g o gd k r st Q (.split b d) =
 ((b = true → V g (.op o gd k :: r) (st.setB d true) Q) ∧ (b = false → V g (.op o gd k :: r) (st.setB d false) Q)) := rfl
theorem vcR_splitT {o gd k} {d : Nat} : vcR P cfg y V g o gd k r st Q (.split true d) = V g (.op o gd k :: r) (st.setB d true) Q := by rw [vcR_split]; simp
theorem vcR_splitF {o gd k} {d : Nat} : vcR P cfg y V g o gd k r st Q (.split false d) = V g (.op o gd k :: r) (st.setB d false) Q := by rw [vcR_split]; simp
theorem vcR_call {o gd k} {f : FuncId} {args : List AV} {s0 s : St} : vcR P cfg y V g o gd k r st Q (.call f args s0 s) = CallW P f args (callF V g r o.dst s0 s Q) := rfl
theorem vcR_lcall {o gd k} {f : FuncId} {args : List AV} : vcR P cfg y V g o gd k r st Q (.lcall f args) =
 (ldY cfg.yd o = true ∧ LCallW P y f g (args.map (renA (selOf st args))) (selO st.objs (selOf st args)) (lcallF V r o.dst st (selOf st args) args Q)) := rfl
theorem vcR_yield {o gd k} {v : Value} {args : List AV} {s : St} : vcR P cfg y V g o gd k r st Q (.yield v args s) =
 (v = .func (.yield y.l) #[] #[] ∧ ldY cfg.yd o = true ∧ g.1 = false ∧ args.all (AV.noH 3) = true ∧ (∃ h : g.2 < y.xs.length, args = y.xs[g.2]) ∧
   V (false, g.2 + 1) r (s.put o.dst (.bool true)) Q ∧ V (true, g.2) r (s.put o.dst (.bool false)) Q) := rfl
theorem vc_nil : vc P T cfg y (n + 1) g [] st Q = Q g .normal st := rfl
theorem vc_blk {id} : vc P T cfg y (n + 1) g (.blk id :: r) st Q = vc P T cfg y n g r st Q := rfl
theorem vc_skip : vc P T cfg y (n + 1) g (.code .skip :: r) st Q = vc P T cfg y n g r st Q := rfl
theorem vc_label {l} : vc P T cfg y (n + 1) g (.code (.label l) :: r) st Q = vc P T cfg y n g r st Q := rfl
theorem vc_seq {a b} : vc P T cfg y (n + 1) g (.code (.seq a b) :: r) st Q = vc P T cfg y n g (.code a :: .code b :: r) st Q := rfl
theorem vc_block {id c} : vc P T cfg y (n + 1) g (.code (.block id c) :: r) st Q = vc P T cfg y n g (.code c :: .blk id :: r) st Q := rfl
theorem vc_ret : vc P T cfg y (n + 1) g (.code .ret :: r) st Q = Q g .ret st := rfl
theorem vc_loop {c} : vc P T cfg y (n + 1) g (.code (.loop c) :: r) st Q = AWP P y g (.loop c) st (aftV (vc P T cfg y n) r Q) := rfl
theorem vc_rangeFunc {f ps a b} : vc P T cfg y (n + 1) g (.code (.rangeFunc f ps a b) :: r) st Q = AWP P y g (.rangeFunc f ps a b) st (aftV (vc P T cfg y n) r Q) := rfl
theorem vc_region {id ops} : vc P T cfg y (n + 1) g (.code (.region id ops false) :: r) st Q = vc P T cfg y n g (lexItems cfg.c ops.toList ops.toList ++ .scrub :: r) st Q := rfl
theorem exitI_some {id : Nat} : exitI V g id st Q (some r) = V g r st Q := rfl
theorem exitI_none {id : Nat} : exitI V g id st Q none = Q g (.exit id) st := rfl
theorem vc_exit {id} : vc P T cfg y (n + 1) g (.code (.exit id) :: r) st Q = exitI (vc P T cfg y n) g id st Q (dropTo id r) := rfl
theorem vc_cond {c a b} : vc P T cfg y (n + 1) g (.code (.cond c a b) :: r) st Q = condI (vc P T cfg y n) g a b r st Q (st.ev c) := rfl
theorem condI_true {a b} : condI V g a b r st Q (.lit (.bool true)) = V g (.code a :: r) st Q := rfl
theorem condI_false {a b} : condI V g a b r st Q (.lit (.bool false)) = V g (.code b :: r) st Q := rfl
theorem condI_bool {a b v} : condI V g a b r st Q (.bool v) = ((v = true → V g (.code a :: r) st Q) ∧ (v = false → V g (.code b :: r) st Q)) := rfl
theorem condI_boolT {a b} : condI V g a b r st Q (.bool true) = V g (.code a :: r) st Q := by rw [condI_bool]; simp
theorem condI_boolF {a b} : condI V g a b r st Q (.bool false) = V g (.code b :: r) st Q := by rw [condI_bool]; simp
theorem vc_draw {id ops} : vc P T cfg y (n + 1) g (.code (.region id ops true) :: r) st Q = drawI (vc P T cfg y n) g ops r st Q (lookSch id cfg.sch) := rfl
theorem drawI_some {ops t} : drawI V g ops r st Q (some t) = V g (.tree ops t :: .scrub :: r) st Q := rfl
theorem vc_tree {ops t} : vc P T cfg y (n + 1) g (.tree ops t :: r) st Q = treeI (vc P T cfg y n) g ops r st Q t := rfl
theorem treeI_nil {ops} : treeI V g ops r st Q .nil = V g r st Q := rfl
theorem treeI_op {ops i k t} : treeI V g ops r st Q (.op i k t) = opI V g ops k t r st Q (nthO i ops.toList) := rfl
theorem treeI_alt {ops t u} : treeI V g ops r st Q (.alt t u) = (V g (.tree ops t :: r) st Q ∧ V g (.tree ops u :: r) st Q) := rfl
theorem opI_some {ops k t o} : opI V g ops k t r st Q (some o) = V g (.op o (gdOf ops.toList o) k :: .tree ops t :: r) st Q := rfl
def putM (t : Nat) (v : AV) (env : List (Nat × AV)) : Bool → List (Nat × AV)
 | true => putE t v env
 | false => env
theorem put_none (st : St) (v : AV) : st.put none v = st := rfl
theorem put_some (n : Nat) (env : List (Nat × AV)) (objs : List AObj) (t : Nat) (v : AV) : St.put ⟨n, env, objs⟩ (some t) v = ⟨n, putM t v env (Nat.ble (t + 1) n), objs⟩ := by
 unfold St.put
 cases h : Nat.ble (t + 1) n with
 | true =>
  have : t < n := Nat.le_of_ble_eq_true h
  simp [this, putM]
 | false =>
  have : ¬ t < n := fun hl => by rw [show Nat.ble (t + 1) n = true from Nat.ble_eq_true_of_le hl] at h; cases h
  simp [this, putM]
def filtK (kp : List Nat) : List (Nat × AV) → List (Nat × AV)
 | [] => []
 | (t, x) :: r => match elemN t kp with
  | true => (t, x) :: filtK kp r
  | false => filtK kp r
theorem filtK_eq (kp : List Nat) : ∀ env, filtE (fun x => elemN x kp) env = filtK kp env
 | [] => rfl
 | (t, x) :: r => by
  simp only [filtE, filtK, filtK_eq kp r]
  cases elemN t kp <;> rfl
theorem vc_scrubK {n' : Nat} {env : List (Nat × AV)} {objs : List AObj} :
  vc P T cfg y (n + 1) g (.scrub :: r) ⟨n', env, objs⟩ Q = vc P T cfg y n g r ⟨n', filtK cfg.c.kp env, objs⟩ Q := by
 rw [← filtK_eq]; rfl
theorem loopQ_normal {I : Nat → Gh → St → Prop} {m : Nat} {keys : List Nat} : loopQ I m keys Q g .normal st = ∃ k, k < m ∧ I k g (st.gc keys) := rfl
theorem loopQ_exit {I : Nat → Gh → St → Prop} {m : Nat} {keys : List Nat} {id : Nat} : loopQ I m keys Q g (.exit id) st = Q g (.exit id) st := rfl
theorem loopQ_ret {I : Nat → Gh → St → Prop} {m : Nat} {keys : List Nat} : loopQ I m keys Q g .ret st = Q g .ret st := rfl
theorem uptoQ_normal {g0 : Gh} {m : Nat} {R : Nat → Prop} {S : Nat → St} {keys : List Nat} {i : Nat} : uptoQ g0 m R S keys i Q g .normal st = (g = g0 ∧ i < m ∧ R (i + 1) ∧ st.gc keys = S (i + 1)) := rfl
theorem uptoQ_exit {g0 : Gh} {m : Nat} {R : Nat → Prop} {S : Nat → St} {keys : List Nat} {i id : Nat} : uptoQ g0 m R S keys i Q g (.exit id) st = Q g (.exit id) st := rfl
theorem uptoQ_ret {g0 : Gh} {m : Nat} {R : Nat → Prop} {S : Nat → St} {keys : List Nat} {i : Nat} : uptoQ g0 m R S keys i Q g .ret st = Q g .ret st := rfl
theorem aftV_normal : aftV V r Q g .normal st = V g r st Q := rfl
theorem aftV_exit {id : Nat} : aftV V r Q g (.exit id) st = exitI V g id st Q (dropTo id r) := by
 unfold aftV
 simp only []
 cases dropTo id r <;> rfl
theorem aftV_ret : aftV V r Q g .ret st = Q g .ret st := rfl
theorem retC_ret {rs : List ResultVar} {Q : AV → List AObj → Prop} : retC T rs Q g .ret st = retC1 Q st (resA T st rs) := rfl
theorem retC_normal {rs : List ResultVar} {Q : AV → List AObj → Prop} : retC T rs Q g .normal st = retC1 Q st (resA T st rs) := rfl
theorem retG_ret {rs : List ResultVar} {ks m} {Q : QG} : retG T rs ks m Q g .ret st = retG1 Q g ks m st (resA T st rs) := rfl
theorem retG_normal {rs : List ResultVar} {ks m} {Q : QG} : retG T rs ks m Q g .normal st = retG1 Q g ks m st (resA T st rs) := rfl
theorem rangeQ_normal {I : Nat → St → Prop} {D : Nat → Exit → St → Prop} {k m : Nat} {ks : List Nat} : rangeQ I D k m ks g .normal st = I (k + 1) (st.gcN m ks) := rfl
theorem rangeQ_ret {I : Nat → St → Prop} {D : Nat → Exit → St → Prop} {k m : Nat} {ks : List Nat} : rangeQ I D k m ks g .ret st = D k .ret (st.gcN m ks) := rfl
theorem rangeQ_exit {I : Nat → St → Prop} {D : Nat → Exit → St → Prop} {k m id : Nat} {ks : List Nat} : rangeQ I D k m ks g (.exit id) st = D k (.exit id) (st.gcN m ks) := rfl
theorem asgQ_normal {c : Code} : asgQ V c Q g .normal st = V g [.code c] st Q := rfl
theorem headQ_cons {Q : AV → List AV → List AObj → Prop} {os : List AObj} {a : AV} {l : List AV} : headQ Q os (a :: l) = Q a l os := rfl
end
theorem oc_slice {a l c} : (Value.slice a l c).oneCell' = true := rfl
theorem oc_ptr {a} : (Value.pointer a).oneCell' = true := rfl
theorem oc_map {a} : (Value.map a).oneCell' = true := rfl
theorem oc_func {f a b} : (Value.func f a b).oneCell' = true := rfl
theorem oc_nilf : (Value.nilFunc).oneCell' = true := rfl
theorem oc_nili : (Value.nilIface).oneCell' = true := rfl
theorem oc_bool {b} : (Value.bool b).oneCell' = true := rfl
attribute [push_cast] oc_slice oc_ptr oc_map oc_func oc_nilf oc_nili oc_bool
theorem wrap_in {n : Int} (h : -9223372036854775808 ≤ n ∧ n ≤ 9223372036854775807) : IntKind.i64.wrap n = n := by
 obtain ⟨h1, h2⟩ := h
 simp only [IntKind.wrap, IntKind.signed, IntKind.bits]
 simp
 omega
theorem nat_beq_self (n : Nat) : Nat.beq n n = true := Nat.beq_refl n
theorem int_beq (a b : Int) : ((a == b) = true) = (a = b) := by simp
theorem int_beqf (a b : Int) : ((a == b) = false) = (a ≠ b) := by simp
theorem int_bne (a b : Int) : ((a != b) = true) = (a ≠ b) := by simp
theorem int_bnef (a b : Int) : ((a != b) = false) = (a = b) := by simp
attribute [push_cast high] vcR_splitT vcR_splitF condI_boolT condI_boolF Int.cast_ofNat_Int
attribute [push_cast] Bool.not_true Bool.not_false undef Oper.loud Pay.onesOk false_implies true_implies implies_true Int.natCast_pos rangeQ_normal rangeQ_ret rangeQ_exit asgQ_normal setPs keptS St.gcN renK lentOnly mergeV mergeE joinR joinO List.tail_cons ldY
 uptoQ_normal uptoQ_exit uptoQ_ret wrap_in nat_beq_self int_beq int_beqf int_bne int_bnef
 decide_eq_true_eq decide_eq_false_iff_not Int.ofNat_lt Int.ofNat_le Int.not_lt Int.not_le Nat.not_lt Nat.not_le Bool.not_eq_true' Bool.not_eq_false' Int.toNat_natCast true_and and_true ne_eq not_true_eq_false not_false_eq_true Decidable.not_not Int.natCast_inj
 AV.int.injEq AV.bool.injEq AV.str.injEq AV.pay.injEq AV.agg.injEq AV.tup.injEq AV.own.injEq AV.ref.injEq AV.fref.injEq AV.clo.injEq AV.mapr.injEq AV.lit.injEq Pay.ints.injEq Pay.bools.injEq Pay.rows.injEq Pay.gen.injEq Pay.strs.injEq
 AObj.arr.injEq AObj.box.injEq AObj.mapB.injEq AObj.mapI.injEq AObj.nest.injEq AObj.trie.injEq AV.mh.injEq MH.tn.injEq MH.tk.injEq AV.full.injEq Option.some.injEq Option.getD_some List.cons.injEq St.mk.injEq Prod.mk.injEq and_self Int.natCast_nonneg
attribute [push_cast] vc_op vcR_st vcR_ob vcR_new vcR_split vcR_call vcR_lcall vcR_yield vc_nil vc_scrubK vc_blk vc_skip vc_label vc_seq vc_block vc_ret vc_loop vc_rangeFunc vc_region exitI_some exitI_none vc_exit vc_cond condI_true condI_false condI_bool vc_draw drawI_some vc_tree treeI_nil treeI_op treeI_alt opI_some
 loopQ_normal loopQ_exit loopQ_ret aftV_normal aftV_exit aftV_ret retC_ret retC_normal retG_ret retG_normal retC1 retG1 headQ_cons sndE endS resA resR pinE keysOf
 lookupA lookupK lookupS makeMapSR updSR isStrMap strA keyA keyInts makeMapKR updKR isArrMap intA makeMapE updE boolA joinC effS prS callC litS callS intVals effK stepK stepG stepO SK.s effR prE callR allocR boxFR boxMR virtR buildSliceR makeSliceR storeR appCoreR appendR guardR St.setB gdOf nthO lexItems schItems isEff inO elemN lookSch dropTo filtK putM put_none put_some
 getE putE St.ev ofConst leafC pureOp coerce emptyPay pickA eqNil nilOp convS minA binA unA fieldAddrA fieldA indexAddrA indexA loadA extractA nilA convA sliceA buildA lenA cellsA partA fillA placeS payOf toInts zeroPay
 Pay.len Pay.sz Pay.at Pay.setAt Pay.app Pay.sub srcA strPay sameOp AV.one AV.noH AV.hs addNew dedup revL hsOf St.freezeL St.freeze St.remap frzL frzM killL makeNestR allocNestR appRowR appNilsR buildNestR buildNilsR nilParts nilsP storeRowR storeTrieR nilPs absO absL subR eqlR clearR appFullR isTrie takeS takeO takeL putO putL nilsA mapE AV.mapH AObj.mapH TK.agg hsE hsIn reach St.gc keepE St.select selO idxF renL St.join shiftL St.addArr enumE
 reach3 selOf renA pairsA pairsL lookP lookO szOk trieP fstTrie renJ deadL joinL lcallF callF
 loadCellsA sbyte St.mapH killO intOr toBools toStrs toRows chunks aliasFree AV.free AObj.free Pay.flat
 List.cons_append List.nil_append List.append_nil List.map_cons List.map_nil List.flatMap_cons List.flatMap_nil List.foldl_cons List.foldl_nil List.length_cons List.length_nil List.all_cons List.all_nil List.getElem?_cons_zero List.getElem?_cons_succ Option.map_some Option.map_none Option.isSome_some Option.isSome_none
 List.elem_cons List.elem_nil List.set_cons_zero List.set_cons_succ List.getD_cons_zero List.getD_cons_succ List.take_succ_cons List.drop_succ_cons List.take_zero List.drop_zero List.replicate_succ List.replicate_zero List.toList_toArray
 List.zip_cons_cons List.zip_nil_left List.zip_nil_right
 decide_true decide_false
 Bool.and_true Bool.true_and Bool.or_true Bool.true_or Bool.or_false Bool.false_or Bool.false_and Bool.and_false Nat.zero_add Nat.add_zero
section
variable {P : Program} {y : Yc} {V : VC} {g : Gh} {r : List Item} {Q : Gh → Exit → St → Prop}
theorem callW_eq {f : FuncId} {args : List AV} {d : Option Tmp} {s0 s : St} (R : AV) (O : List AObj) (h : ACall P f args (fun r objs => r = R ∧ objs = O))
  (hk : V g r (joinC s0 s d R O) Q) : CallW P f args (callF V g r d s0 s Q) :=
 ⟨_, h, fun _ _ ⟨h1, h2⟩ => by subst h1; subst h2; exact hk⟩
theorem callW_rel {f : FuncId} {args : List AV} {d : Option Tmp} {s0 s : St} {C : AV → List AObj → Prop} (h : ACall P f args C)
  (hk : ∀ R O, C R O → V g r (joinC s0 s d R O) Q) : CallW P f args (callF V g r d s0 s Q) :=
 ⟨_, h, hk⟩
theorem lcallW_eq {f : FuncId} {args : List AV} {objs : List AObj} {d : Option Tmp} {st : St} {sel : List Nat} {avs : List AV} (R : AV) (A : List AV) (O : List AObj) (h : GCall P y f g args objs (fun g' r as os => g' = g ∧ r = R ∧ as = A ∧ os = O))
  (hk : V g r (joinL st sel avs d R A O) Q) : LCallW P y f g args objs (lcallF V r d st sel avs Q) :=
 ⟨_, h, fun _ _ _ _ ⟨h0, h1, h2, h3⟩ => by subst h0; subst h1; subst h2; subst h3; exact hk⟩
theorem lcallW_rel {f : FuncId} {args : List AV} {objs : List AObj} {d : Option Tmp} {st : St} {sel : List Nat} {avs : List AV} {C : QG} (h : GCall P y f g args objs C)
  (hk : ∀ g' R A O, C g' R A O → V g' r (joinL st sel avs d R A O) Q) : LCallW P y f g args objs (lcallF V r d st sel avs Q) :=
 ⟨_, h, hk⟩
end
end Go.AM
end

section
namespace Go.AM
open Go Go.ChangeShapes Go.WideShapes Go.RowKit Go.WideElems
def varsOk (P : Program) (ns : List String) : Bool := ns.all fun n => ((P.globalNamed n).bind (P.globals[·]?)).all fun gl => P.readableRec gl.type && decide (gl.type < P.types.size)
def paramsRowed (P : Program) (ts : List TypeId) : Bool := ts.all fun t => P.readableRec t && decide (t < P.types.size)
theorem trodAll_below {H : Type} {enc : TypeId × Value → H} {P : Program} (hl : laidOutB P = true) {W W' : World} (hb : Below W.heap.size W W') {sp : Nat → Bool} :
  ∀ {ts : List TypeId} {vs : List Value} {ds : List (DataW H)} {ps : List MemPlace}, paramsRowed P ts = true → DataW.TrodAll enc P W 0 (fun _ => true) true ts vs ds ps → (∀ x ∈ ps, x.block < W.heap.size) → (∀ x ∈ ps, sp x.block = true) →
   DataW.TrodAll enc P W' 0 sp true ts vs ds ps
 | [], [], [], _, _, h, _, _ => h
 | [], _ :: _, _, _, _, h, _, _ => h.elim
 | [], [], _ :: _, _, _, h, _, _ => h.elim
 | _ :: _, [], _, _, _, h, _, _ => h.elim
 | _ :: _, _ :: _, [], _, _, h, _, _ => h.elim
 | t :: ts, v :: vs, d :: ds, ps, hr, h, hlt, hsp => by
  obtain ⟨p, q, h1, h2, rfl⟩ := h
  simp only [paramsRowed, List.all_cons, Bool.and_eq_true, decide_eq_true_eq] at hr
  refine ⟨p, q, WideElems.Trod_stays hl hr.1.1 hr.1.2 h1 (fun x hx => hb.same (hlt x (by simp [hx]))) (fun x hx => hsp x (by simp [hx])), ?_, rfl⟩
  exact trodAll_below hl hb hr.2 h2 (fun x hx => hlt x (by simp [hx])) (fun x hx => hsp x (by simp [hx]))
theorem trodVars_below {H : Type} {enc : TypeId × Value → H} {P : Program} (hl : laidOutB P = true) {W W' : World} (hb : Below W.heap.size W W') {sp : Nat → Bool} :
  ∀ {ns : List String} {gs : List (DataW H)} {ps : List MemPlace}, varsOk P ns = true → DataW.TrodVars enc P W (fun _ => true) ns gs ps → (∀ x ∈ ps, sp x.block = true) → DataW.TrodVars enc P W' sp ns gs ps
 | [], [], _, _, h, _ => h
 | [], _ :: _, _, _, h, _ => h.elim
 | _ :: _, [], _, _, h, _ => h.elim
 | n :: ns, d :: ds, ps, hv, h, hsp => by
  have hlt := h.lt
  obtain ⟨g, t, cs, fuel, p, q, h1, h2, h3, h4, hs, e⟩ := h
  simp only [varsOk, List.all_cons, Bool.and_eq_true] at hv
  have ht : P.readableRec t = true ∧ t < P.types.size := by
   have := hv.1
   rw [h1] at this
   cases hg : P.globals[g]? with
   | none => rw [hg] at h2; cases h2
   | some gl =>
    rw [hg] at h2
    obtain rfl : gl.type = t := Option.some.inj h2
    simpa [hg] using this
  have hp : ∀ x ∈ p, x.block < W.heap.size := fun x hx => hlt x (by rw [e]; simp [hx])
  have h3' : W'.var? P n = some cs := by
   unfold World.var? at h3 ⊢
   rw [h1] at h3 ⊢
   simp only [Option.bind_some] at h3 ⊢
   have hg : g < W.heap.size := by
    cases hh : W.heap[g]? with
    | none => rw [hh] at h3; cases h3
    | some o => exact (Array.getElem?_eq_some_iff.1 hh).1
   rw [hb.block g hg]; exact h3
  exact ⟨g, t, cs, fuel, p, q, h1, h2, h3', DataW.trod_stays (kids_book hl ht.1) (book_sized ht.1) (fun h => by cases h) ⟨ht.2, book_self t⟩ h4 (fun x hx => hb.same (hp x hx)) (fun x hx => hsp x (by rw [e]; simp [hx])),
   trodVars_below hl hb (by simpa [varsOk] using hv.2) hs (fun x hx => hsp x (by rw [e]; simp [hx])), e⟩
theorem post_true {H : Type} {enc : TypeId × Value → H} {P : Program} {f : Func} {s : ChangeSpec} {apart fresh handsOn again : Bool} {W W' : World} {args : Array Value} {ds gs : List (DataW H)} {before : List MemPlace} {tb : TypeId}
  (hl : laidOutB P = true) (hp : paramsRowed P f.params.toList = true) (hv : varsOk P s.vars = true) (hr : f.resultTypes = #[tb]) (htb : P.underlying tb = some .bool)
  (hW : DataW.Whole enc P f.params.toList s.vars apart W args.toList ds gs before) (hb : Below W.heap.size W W') (hs : s.fn H (ds ++ gs) = ⟨[.lit (.bool true)], ds, gs⟩) :
  s.post enc P f apart fresh handsOn again W args (.bool true) W' := by
 have hlt := hW.lt
 have hW0 := hW
 obtain ⟨p, q, hA, hV, rfl, hz, hn⟩ := hW0
 have hres : ∀ (b : Nat) (sp : Nat → Bool) (hd : Bool), DataW.TrodAll enc P W' b sp hd f.resultTypes.toList ((Value.bool true).resultList f.resultTypes.size) (s.fn H (ds ++ gs)).results [] := fun b sp hd => by
  rw [hs, hr]
  exact trodAll_mk1 (shut_bool htb true)
 have hargs : ∀ sp : Nat → Bool, (∀ x ∈ p ++ q, sp x.block = true) → DataW.TrodAll enc P W' 0 sp true f.params.toList args.toList (s.fn H (ds ++ gs)).args p := fun sp hsp => by
  rw [hs]
  exact trodAll_below hl hb hp hA (fun x hx => hlt x (by simp [hx])) (fun x hx => hsp x (by simp [hx]))
 have hvars : ∀ sp : Nat → Bool, (∀ x ∈ p ++ q, sp x.block = true) → DataW.TrodVars enc P W' sp s.vars (s.fn H (ds ++ gs)).vars q := fun sp hsp => by
  rw [hs]
  exact trodVars_below hl hb hv hV (fun x hx => hsp x (by simp [hx]))
 have hold : ∀ x ∈ p ++ q, (fun b => decide (b < W.heap.size)) x.block = true := fun x hx => by simpa using hlt x hx
 refine ⟨ds, gs, p ++ q, [], p, q, hW, hres _ _ _, hargs _ hold, hvars _ hold, hb.frame _, fun _ => ?_⟩
 refine ⟨ok_one hr rfl (by simp [Value.okWide, htb, Cell.okWide, Cell.ok]), _, _, ([] ++ p) ++ q, ⟨[] ++ p, q, trodAll_append (hargs _ (fun _ _ => rfl)) (hres _ _ _), hvars _ (fun _ _ => rfl), rfl, ?_, ?_⟩, ?_⟩
 ·intro b off hp'
  have := hlt _ (by simpa using hp')
  rw [hb.frozen (p := ⟨b, off, none⟩) this]
  exact hz b off (by simpa using hp')
 ·intro ha
  simpa using hn ha
 ·intro x hx _
  simpa using hx
theorem below_of_keepL {w w' : World} (h : KeepL (fun _ => False) w w') : Below w.heap.size w w' := ⟨h.os, h.tape, h.output, h.size, fun k hk => h.block k hk id⟩
theorem calls_true {P : Program} {f : FuncId} {args : List AV} {W : World} {vs : Array Value} {R : Ending → World → Prop} (h : ACall P f args (fun r _ => r = .bool true)) (hl : args.length = vs.size)
  (ha : ∀ c (h : c < args.length), PV W (fun _ _ => False) (args[c]) (vs[c]!)) (hR : ∀ W', Below W.heap.size W W' → R (.returned (.bool true)) W') : Calls P f vs W R := by
 refine Calls.mono' (h.calls (fun _ _ => False) W vs (fun _ _ h => h.elim) hl ha) fun e W' hr => ?_
 cases e with
 | returned v =>
  obtain ⟨r, objs, β, rfl, hk, hf⟩ := hr
  have := hf.env 0
  have hv : v = .bool true := by
   have e : getE 0 [(0, AV.bool true)] = .bool true := rfl
   rw [e] at this
   have e2 : (#[v] : Array Value).getD 0 undef = v := rfl
   rw [e2] at this
   cases this with | pure h => cases h; rfl
  subst hv
  exact hR W' (below_of_keepL hk)
 | _ => exact hr.elim
end Go.AM
end

section
namespace Go.AM
open Go Go.ChangeShapes Go.WideShapes Go.RowKit Go.WideElems Go.Joins Go.Deep
def intsWf (l : List Int) : Prop := ∀ n ∈ l, (Lit.int .i64 n).wf = true
def rowsWf (R : List (List Int)) : Prop := ∀ r ∈ R, intsWf r
section
variable {H : Type} {enc : TypeId × Value → H} {P : Program} {W : World} {S : CellSet}
theorem add_cell {a : Addr} (hs : a.spot = none) (k : Nat) : W.cell? ⟨a.block, a.off + k, none⟩ = W.cell? (a.add k) := by
 obtain ⟨b, o, s⟩ := a
 simp only at hs
 subst hs
 rw [Addr.add_lit]
theorem spot_of_cell {a : Addr} {v : Value} (h : W.cell? (a.add 0) = some v) : a.spot = none := by
 have : a.add 0 = a := by simp [Addr.add]
 rw [this] at h
 exact World.cell?_spot h
theorem pv_ints {a : Option Addr} {len cap : Nat} {k : IntKind} (l : List Int) (hl : l.length = len) (hcap : len ≤ cap)
  (h : len ≠ 0 → ∃ ad, a = some ad ∧ ∀ c, c < len → W.cell? (ad.add c) = some (.int k (l.getD c 0))) : PV W (fun _ _ => False) (.pay (.ints k l) false) (.slice a len cap) := by
 by_cases h0 : len = 0
 ·subst h0
  exact .pay ⟨0, 0, none⟩ (fun _ _ => .bool false) hl hcap (Pay.wf_ints _ _) (fun e => by cases e) (fun e => absurd rfl e) rfl (fun j c hj => by omega) (fun j c hj => by omega) (fun j c _ hj => by omega)
 ·obtain ⟨ad, ha, hc⟩ := h h0
  have hs := spot_of_cell (hc 0 (by omega))
  refine .pay ad (fun j _ => .int k (l.getD j 0)) hl hcap (Pay.wf_ints _ _) (fun e => by cases e) (fun _ => ha) hs (fun j c hj hc0 => ?_) (fun j c hj _ h => h) (fun j c hc0 hj => ?_)
  ·simp only [Pay.sz] at hc0
   rw [add_cell hs]
   simp only [Pay.sz]
   rw [show j * 1 + c = j by omega]
   exact hc j hj
  ·simp only [Pay.at, List.length_singleton] at hc0
   have : c = 0 := by omega
   subst this
   exact .int _ _
theorem pv_rows {t e q : TypeId} {fuel : Nat} {v : Value} {x : DataW H × List MemPlace} {base : Nat} {held : Bool} (ht : P.underlying t = some (.slice e)) (he : P.underlying e = some (.slice q)) (hq : P.underlying q = some (.int .i64))
  (ce : P.cellsOf e = 1) (cq : P.cellsOf q = 1) (h : DataW.trod enc P W base (fun _ => true) held fuel t [v] = some x) :
  ∃ R, PV W (fun _ _ => False) (.pay (.rows R) false) v ∧ rowsWf R := by
 rcases open_int_rows ht he hq ce cq h with ⟨h1, h2⟩ | ⟨a, len, cap, A, L, C, Z, h1, h2, h3, h4, h5, h6⟩
 ·simp only [List.cons.injEq, and_true] at h1
  subst h1
  exact ⟨[], PV.empty rfl _, fun r hr => by cases hr⟩
 ·simp only [List.cons.injEq, and_true] at h1
  subst h1
  refine ⟨(List.range len).map fun r => (Z r).take (L r), ?_, fun r hr => ?_⟩
  ·by_cases h0 : len = 0
   ·subst h0
    exact .pay ⟨0, 0, none⟩ (fun _ _ => .bool false) (by simp [Pay.len]) h3 (Pay.wf_rows _) (fun e => by cases e) (fun e => absurd rfl e) rfl (fun j c hj => by omega) (fun j c hj => by omega) (fun j c _ hj => by omega)
   ·have hs := spot_of_cell (h6 0 (by omega)).1
    refine .pay a (fun r _ => .slice (A r) (L r) (C r)) (by simp [Pay.len]) h3 (Pay.wf_rows _) (fun e => by cases e) (fun _ => rfl) hs (fun j c hj hc0 => ?_) (fun j c hj _ h => h) (fun j c hc0 hj => ?_)
    ·simp only [Pay.sz] at hc0
     rw [add_cell hs]
     simp only [Pay.sz]
     rw [show j * 1 + c = j by omega]
     exact (h6 j (by omega)).1
    ·simp only [Pay.at, List.length_singleton] at hc0
     have : c = 0 := by omega
     subst this
     obtain ⟨g1, g2, g3, g4, g5, g6, g7⟩ := h6 j (by omega)
     have e1 : ((List.range len).map fun r => (Z r).take (L r)).getD j [] = (Z j).take (L j) := by
      simp [List.getD, hj]
     simp only [Pay.at, e1, List.getElem_cons_zero]
     refine pv_ints _ (by rw [List.length_take]; omega) g2 fun hL => ?_
     cases hA : A j with
     | none => have := g6 hA; omega
     | some a' =>
      refine ⟨a', rfl, fun c hc => ?_⟩
      rw [(g7 a' hA).2 c (by omega)]
      simp [List.getD, List.getElem?_take, hc]
  ·simp only [List.mem_map, List.mem_range] at hr
   obtain ⟨j, hj, rfl⟩ := hr
   obtain ⟨g1, g2, g3, g4, g5, g6, g7⟩ := h6 j (by omega)
   exact fun n hn => g5 n (List.mem_of_mem_take hn)
def mach (nx ot : List (List Int)) : AV := .agg [.pay (.rows nx) false, .pay (.rows ot) false]
theorem pv_mach {r : Reach} {b0 base : Nat} {held : Bool} {t e q : TypeId} {f0 f1 : Field} {v : Value} {d : DataW H} {p : List MemPlace} (hs : P.underlying t = some (.struct #[f0, f1])) (hone : oneCellFields P #[f0, f1] = true) (hC : P.cellsOf t = 2)
  (hf0 : P.underlying f0.type = some (.slice e)) (hf1 : P.underlying f1.type = some (.slice e)) (he : P.underlying e = some (.slice q)) (hq : P.underlying q = some (.int .i64)) (ce : P.cellsOf e = 1) (cq : P.cellsOf q = 1)
  (hv : Value.okWide P W r b0 t v) (h : DataW.Trod enc P W base (fun _ => true) held t v d p) :
  ∃ nx ot, PV W (fun _ _ => False) (mach nx ot) v ∧ rowsWf nx ∧ rowsWf ot := by
 obtain ⟨v0, v1, y0, y1, n, rfl, rfl, rfl, h0, h1⟩ := open_agg2 hs hone hC hv h
 obtain ⟨nx, p0, w0⟩ := pv_rows hf0 he hq ce cq h0
 obtain ⟨ot, p1, w1⟩ := pv_rows hf1 he hq ce cq h1
 refine ⟨nx, ot, .agg rfl fun c hc => ?_, w0, w1⟩
 match c, hc with
 | 0, _ => exact p0
 | 1, _ => exact p1
end
end Go.AM
end

section
namespace Go.AM
open Go
theorem wrap_i64 {n : Int} (h1 : -9223372036854775808 ≤ n) (h2 : n ≤ 9223372036854775807) : IntKind.i64.wrap n = n := by
 simp only [IntKind.wrap, IntKind.signed, IntKind.bits]
 simp
 omega
theorem wrap_nat {n : Int} (h1 : 0 ≤ n) (h2 : n ≤ 9223372036854775807) : IntKind.i64.wrap n = n := wrap_i64 (by omega) h2
theorem rows_eq {x y : List (List Int)} (hl : x.length = y.length) (h : ∀ j, j < x.length → x.getD j [] = y.getD j []) : x = y := by
 refine List.ext_getElem hl fun j h1 h2 => ?_
 have := h j h1
 simpa [List.getD, h1, h2] using this
theorem ints_eq {x y : List Int} (hl : x.length = y.length) (h : ∀ j, j < x.length → x.getD j 0 = y.getD j 0) : x = y := by
 refine List.ext_getElem hl fun j h1 h2 => ?_
 have := h j h1
 simpa [List.getD, h1, h2] using this
end Go.AM
end

section
namespace Go.AM
open Go
theorem cyc {i n : Int} (hn : 0 < n) (hn2 : n ≤ 4611686018427387904) : (IntKind.i64.wrap (i.tmod n + n)).tmod n = i % n := by
 have h1 := Int.tmod_lt_of_pos i hn
 have h2 : -n < i.tmod n := Int.lt_tmod_of_pos i hn
 rw [wrap_i64 (by omega) (by omega), Int.tmod_eq_emod_of_nonneg (by omega)]
 have h3 : i.tmod n = i - n * (i.tdiv n) := by have := Int.tmod_add_mul_tdiv i n; omega
 rw [h3]
 have : i - n * i.tdiv n + n = i + n * (1 - i.tdiv n) := by rw [Int.mul_sub]; omega
 rw [this, Int.add_mul_emod_self_left]
theorem le_of_blt {a b : Nat} (h : decide ((a : Int) < b) = true) : a < b := by simpa using h
theorem ge_of_blt {a b : Nat} (h : decide ((a : Int) < b) = false) : b ≤ a := by simpa using h
end Go.AM
namespace Go.AM
open Go
theorem u16_and {a b : Nat} (ha : a < 65536) (hb : b < 65536) : IntKind.u16.wrap ((BitVec.ofInt IntKind.u16.bits (a : Int) &&& BitVec.ofInt IntKind.u16.bits (b : Int)).toNat : Int) = ((a &&& b : Nat) : Int) := by
 have e : (BitVec.ofInt IntKind.u16.bits (a : Int) &&& BitVec.ofInt IntKind.u16.bits (b : Int)).toNat = a &&& b := by
  rw [BitVec.toNat_and]
  simp only [IntKind.bits, BitVec.toNat_ofInt]
  congr 1 <;> omega
 rw [e]
 have : a &&& b ≤ a := Nat.and_le_left
 simp only [IntKind.wrap, IntKind.signed, IntKind.bits]
 simp
 omega
theorem u16_or {a b : Nat} (ha : a < 65536) (hb : b < 65536) : IntKind.u16.wrap ((BitVec.ofInt IntKind.u16.bits (a : Int) ||| BitVec.ofInt IntKind.u16.bits (b : Int)).toNat : Int) = ((a ||| b : Nat) : Int) := by
 have e : (BitVec.ofInt IntKind.u16.bits (a : Int) ||| BitVec.ofInt IntKind.u16.bits (b : Int)).toNat = a ||| b := by
  rw [BitVec.toNat_or]
  simp only [IntKind.bits, BitVec.toNat_ofInt]
  congr 1 <;> omega
 rw [e]
 have : a ||| b < 2 ^ 16 := Nat.or_lt_two_pow (by omega) (by omega)
 simp only [IntKind.wrap, IntKind.signed, IntKind.bits]
 simp
 omega
theorem u16_shr {a b : Nat} : ((a : Int).fdiv (2 ^ (min b IntKind.u16.bits))) = ((a >>> (min b 16) : Nat) : Int) := by
 rw [Nat.shiftRight_eq_div_pow]
 simp only [IntKind.bits]
 rw [Int.fdiv_eq_ediv_of_nonneg _ (Int.pow_nonneg (by omega))]
 simp
end Go.AM
namespace Go.AM
open Go
structure NoH (caps : List AV) : Prop where
 hs : caps.flatMap (AV.hs 2) = []
 mp : ∀ f, caps.map (AV.mapH f 2) = caps
 no2 : caps.all (AV.noH 2) = true
 no3 : caps.all (AV.noH 3) = true
theorem noH_hs : ∀ (d : Nat) (a : AV), a.noH d = true → a.hs d = [] := by
 have core : ∀ d, (∀ a : AV, a.noH d = true → a.hs d = []) → ∀ cs : List AV, cs.all (AV.noH d) = true → cs.flatMap (AV.hs d) = [] := fun d ih cs h => by
  rw [List.flatMap_eq_nil_iff]
  exact fun a ha => ih a (List.all_eq_true.1 h a ha)
 intro d
 induction d with
 | zero =>
  intro a h
  cases a <;> first | rfl | (have h : false = true := h; cases h)
 | succ d ih =>
  intro a h
  cases a with
  | agg cs => exact core d ih cs h
  | tup cs => exact core d ih cs h
  | clo g cs => exact core d ih cs h
  | hbox x => exact ih x h
  | own i => have h : false = true := h; cases h
  | ref i o => have h : false = true := h; cases h
  | eref i j c => have h : false = true := h; cases h
  | mapr i => have h : false = true := h; cases h
  | mh i x => have h : false = true := h; cases h
  | _ => rfl
theorem noH_mapH (f : AV → AV) : ∀ (d : Nat) (a : AV), a.noH d = true → a.mapH f d = a := by
 have core : ∀ d, (∀ a : AV, a.noH d = true → a.mapH f d = a) → ∀ cs : List AV, cs.all (AV.noH d) = true → cs.map (AV.mapH f d) = cs := fun d ih cs h => by
  conv => rhs; rw [← List.map_id cs]
  exact List.map_congr_left fun a ha => ih a (List.all_eq_true.1 h a ha)
 intro d
 induction d with
 | zero =>
  intro a h
  cases a <;> first | rfl | (have h : false = true := h; cases h)
 | succ d ih =>
  intro a h
  cases a with
  | agg cs => exact congrArg AV.agg (core d ih cs h)
  | tup cs => exact congrArg AV.tup (core d ih cs h)
  | clo g cs => exact congrArg (AV.clo g) (core d ih cs h)
  | hbox x => exact congrArg AV.hbox (ih x h)
  | own i => have h : false = true := h; cases h
  | ref i o => have h : false = true := h; cases h
  | eref i j c => have h : false = true := h; cases h
  | mapr i => have h : false = true := h; cases h
  | mh i x => have h : false = true := h; cases h
  | _ => rfl
theorem NoH.of {caps : List AV} (h2 : caps.all (AV.noH 2) = true) (h3 : caps.all (AV.noH 3) = true) : NoH caps := by
 refine ⟨?_, fun f => ?_, h2, h3⟩
 ·rw [List.flatMap_eq_nil_iff]
  exact fun a ha => noH_hs 2 a (List.all_eq_true.1 h2 a ha)
 ·conv => rhs; rw [← List.map_id caps]
  exact List.map_congr_left fun a ha => noH_mapH f 2 a (List.all_eq_true.1 h2 a ha)
end Go.AM
end

section
namespace Go.AM
open Go Go.ChangeShapes Go.WideShapes Go.RowKit Go.WideElems Go.Joins Go.Deep
theorem weightsAll_mem {H : Type} {P : Program} {e : TypeId} {d : DataW H} {n : Nat} : ∀ {l : List (DataW H)}, d ∈ l → n ∈ d.weights P e → n ∈ DataW.weightsAll P e l
 | [], h, _ => by cases h
 | x :: l, h, hn => by
  simp only [DataW.weightsAll, List.mem_append]
  rcases List.mem_cons.1 h with rfl | h
  ·exact .inl hn
  ·exact .inr (weightsAll_mem h hn)
def Light {H : Type} (P : Program) (t : TypeId) (d : DataW H) : Prop := ∀ n ∈ d.weights P t, n ≤ reachBytes
theorem light_of {H : Type} {P : Program} {ts : List TypeId} {ds : List (DataW H)} (h : (DataW.weightsEach P ts ds).all (· ≤ reachBytes) = true) {j : Nat} {t : TypeId} {d : DataW H} (ht : ts[j]? = some t) (hd : ds[j]? = some d) : Light P t d := fun n hn => by
 have := List.all_eq_true.1 h _ (DataW.weights_mem_each ht hd n hn)
 simpa using this
section
variable {H : Type} {enc : TypeId × Value → H} {P : Program} {W : World}
theorem row_light {e q : TypeId} (he : P.underlying e = some (.slice q)) (bq : P.bytesOf q = 8) {A : Option Addr} {L C : Nat} {Z : List Int} (hz : Z.length = C) (hA : A = none → C = 0) (h : Light P e (intRow (H := H) .i64 A L Z)) : C ≤ 17592186044416 := by
 cases A with
 | none => rw [hA rfl]; omega
 | some a =>
  have := h (((lits (H := H) .i64 (Z.take L)).length + (lits (H := H) .i64 (Z.drop L)).length) * 8) (by simp [intRow, DataW.weights, he, bq])
  have hr := reachBytes_lt
  simp [lits] at this
  omega
theorem pv_ints_light {t e : TypeId} {fuel : Nat} {v : Value} {x : DataW H × List MemPlace} {base : Nat} {held : Bool} (ht : P.underlying t = some (.slice e)) (he : P.underlying e = some (.int .i64)) (ce : P.cellsOf e = 1) (be : P.bytesOf e = 8)
  (h : DataW.trod enc P W base (fun _ => true) held fuel t [v] = some x) (hl : Light P t x.1) :
  ∃ R, PV W (fun _ _ => False) (.pay (.ints .i64 R) false) v ∧ intsWf R ∧ R.length ≤ 17592186044416 := by
 rcases open_ints ht he ce h with ⟨h1, h2⟩ | ⟨a, len, cap, zs, h1, h2, h3, h4, h5, h6, h7, h8⟩
 ·simp only [List.cons.injEq, and_true] at h1
  subst h1
  exact ⟨[], PV.empty rfl _, fun r hr => by simp at hr, by simp⟩
 ·simp only [List.cons.injEq, and_true] at h1
  subst h1
  simp only [if_true] at h5
  refine ⟨zs.take len, pv_ints _ (by rw [List.length_take]; omega) h3 fun hL => ⟨a, rfl, fun c hc => ?_⟩, fun n hn => h8 n (List.mem_of_mem_take hn), ?_⟩
  ·rw [h7 c (by omega)]
   simp [List.getD, List.getElem?_take, hc]
  ·have := hl (((lits (H := H) .i64 (zs.take len)).length + (lits (H := H) .i64 (zs.drop len)).length) * 8) (by rw [h6]; simp [DataW.weights, ht, be])
   have hr := reachBytes_lt
   simp [lits] at this
   rw [List.length_take]
   omega
theorem pv_rows_light {t e q : TypeId} {fuel : Nat} {v : Value} {x : DataW H × List MemPlace} {base : Nat} {held : Bool} (ht : P.underlying t = some (.slice e)) (he : P.underlying e = some (.slice q)) (hq : P.underlying q = some (.int .i64))
  (ce : P.cellsOf e = 1) (cq : P.cellsOf q = 1) (be : P.bytesOf e = 24) (bq : P.bytesOf q = 8) (h : DataW.trod enc P W base (fun _ => true) held fuel t [v] = some x) (hl : Light P t x.1) :
  ∃ R, PV W (fun _ _ => False) (.pay (.rows R) false) v ∧ rowsWf R ∧ R.length ≤ 17592186044416 ∧ ∀ r ∈ R, r.length ≤ 17592186044416 := by
 rcases open_int_rows ht he hq ce cq h with ⟨h1, h2⟩ | ⟨a, len, cap, A, L, C, Z, h1, h2, h3, h4, h5, h6⟩
 ·simp only [List.cons.injEq, and_true] at h1
  subst h1
  exact ⟨[], PV.empty rfl _, fun r hr => by simp at hr, by simp, fun r hr => by simp at hr⟩
 ·simp only [List.cons.injEq, and_true] at h1
  subst h1
  refine ⟨(List.range len).map fun r => (Z r).take (L r), ?_, fun r hr => ?_, ?_, fun r hr => ?_⟩
  ·by_cases h0 : len = 0
   ·subst h0
    exact .pay ⟨0, 0, none⟩ (fun _ _ => .bool false) (by simp [Pay.len]) h3 (Pay.wf_rows _) (fun e => by cases e) (fun e => absurd rfl e) rfl (fun j c hj => by omega) (fun j c hj => by omega) (fun j c _ hj => by omega)
   ·have hs := spot_of_cell (h6 0 (by omega)).1
    refine .pay a (fun r _ => .slice (A r) (L r) (C r)) (by simp [Pay.len]) h3 (Pay.wf_rows _) (fun e => by cases e) (fun _ => rfl) hs (fun j c hj hc0 => ?_) (fun j c hj _ h => h) (fun j c hc0 hj => ?_)
    ·simp only [Pay.sz] at hc0
     rw [add_cell hs]
     simp only [Pay.sz]
     rw [show j * 1 + c = j by omega]
     exact (h6 j (by omega)).1
    ·simp only [Pay.at, List.length_singleton] at hc0
     have : c = 0 := by omega
     subst this
     obtain ⟨g1, g2, g3, g4, g5, g6, g7⟩ := h6 j (by omega)
     have e1 : ((List.range len).map fun r => (Z r).take (L r)).getD j [] = (Z j).take (L j) := by
      simp [List.getD, hj]
     simp only [Pay.at, e1, List.getElem_cons_zero]
     refine pv_ints _ (by rw [List.length_take]; omega) g2 fun hL => ?_
     cases hA : A j with
     | none => have := g6 hA; omega
     | some a' =>
      refine ⟨a', rfl, fun c hc => ?_⟩
      rw [(g7 a' hA).2 c (by omega)]
      simp [List.getD, List.getElem?_take, hc]
  ·simp only [List.mem_map, List.mem_range] at hr
   obtain ⟨j, hj, rfl⟩ := hr
   obtain ⟨g1, g2, g3, g4, g5, g6, g7⟩ := h6 j (by omega)
   exact fun n hn => g5 n (List.mem_of_mem_take hn)
  ·have := hl ((len + (cap - len)) * 24) (by rw [h5]; simp [DataW.weights, ht, be])
   have hr := reachBytes_lt
   simp
   omega
  ·simp only [List.mem_map, List.mem_range] at hr
   obtain ⟨j, hj, rfl⟩ := hr
   obtain ⟨g1, g2, g3, g4, g5, g6, g7⟩ := h6 j (by omega)
   have hlj : Light P e (intRow (H := H) .i64 (A j) (L j) (Z j)) := fun n hn => hl n (by
    rw [h5]
    simp only [DataW.weights, ht, List.mem_cons, List.mem_append]
    exact .inr (.inl (weightsAll_mem (List.mem_map.2 ⟨j, List.mem_range.2 hj, rfl⟩) hn)))
   have := row_light he bq g4 g6 hlj
   rw [List.length_take]; omega
theorem pv_ints_at {r : Reach} {b0 base : Nat} {held : Bool} {t e : TypeId} {v : Value} {d : DataW H} {p : List MemPlace} (ht : P.underlying t = some (.slice e)) (he : P.underlying e = some (.int .i64)) (ce : P.cellsOf e = 1) (be : P.bytesOf e = 8)
  (hv : Value.okWide P W r b0 t v) (h : DataW.Trod enc P W base (fun _ => true) held t v d p) (hl : Light P t d) :
  ∃ R, PV W (fun _ _ => False) (.pay (.ints .i64 R) false) v ∧ intsWf R ∧ R.length ≤ 17592186044416 := by
 obtain ⟨a, l, c, rfl⟩ := okWide_slice ht hv
 obtain ⟨fuel, hf⟩ := h
 exact pv_ints_light ht he ce be hf hl
theorem trod_struct1 {t : TypeId} {f0 : Field} {spare : Nat → Bool} {base : Nat} {held : Bool} {fuel : Nat} {cs : List Value} {x : DataW H × List MemPlace} (ht : P.underlying t = some (.struct #[f0])) (h : DataW.trod enc P W base spare held fuel t cs = some x) :
  ∃ y0 n, x = (.agg [y0.1], y0.2) ∧ cs.length = P.cellsOf t ∧ DataW.trod enc P W base spare held n f0.type ((cs.drop f0.offset).take (P.cellsOf f0.type)) = some y0 := by
 obtain ⟨xs, n, _, rfl, hl, hlen, hf⟩ := DataW.trod_struct ht h
 match xs, hlen with
 | [y0], _ => exact ⟨y0, n, by simp, hl, by simpa using hf 0 f0 rfl⟩
theorem pv_auto {r : Reach} {b0 base : Nat} {held : Bool} {t e q : TypeId} {f0 : Field} {v : Value} {d : DataW H} {p : List MemPlace} (hs : P.underlying t = some (.struct #[f0])) (hone : oneCellFields P #[f0] = true) (hC : P.cellsOf t = 1)
  (hf0 : P.underlying f0.type = some (.slice e)) (he : P.underlying e = some (.slice q)) (hq : P.underlying q = some (.int .i64)) (ce : P.cellsOf e = 1) (cq : P.cellsOf q = 1) (be : P.bytesOf e = 24) (bq : P.bytesOf q = 8)
  (hv : Value.okWide P W r b0 t v) (h : DataW.Trod enc P W base (fun _ => true) held t v d p) (hl : Light P t d) :
  ∃ R, PV W (fun _ _ => False) (.agg [.pay (.rows R) false]) v ∧ rowsWf R ∧ R.length ≤ 17592186044416 ∧ ∀ r ∈ R, r.length ≤ 17592186044416 := by
 obtain ⟨cs, rfl, hsz⟩ := okWide_struct hs hv
 obtain ⟨c0, rfl⟩ : ∃ c0, cs = #[c0] := by
  obtain ⟨l⟩ := cs
  rw [hC] at hsz
  match l, hsz with
  | [c0], _ => exact ⟨c0, rfl⟩
 obtain ⟨fuel, hf⟩ := h
 obtain ⟨y0, n, hx, _, h0⟩ := trod_struct1 hs hf
 obtain ⟨o0, k0⟩ := hone_of hone 0 f0 rfl
 simp only [Prod.mk.injEq] at hx
 rw [hx.1] at hl
 have h0' : DataW.trod enc P W base (fun _ => true) held n f0.type [c0] = some y0 := by simpa [Value.cells, o0, k0] using h0
 obtain ⟨R, p0, w0, w1, w2⟩ := pv_rows_light hf0 he hq ce cq be bq h0' fun n hn => hl n (by simp [DataW.weights, hs, DataW.weightsEach, hn])
 refine ⟨R, .agg rfl fun c hc => ?_, w0, w1, w2⟩
 match c, hc with
 | 0, _ => exact p0
theorem pv_intarr {r : Reach} {b0 base n : Nat} {held : Bool} {t e : TypeId} {v : Value} {d : DataW H} {p : List MemPlace} (ht : P.underlying t = some (.array n e)) (he : P.underlying e = some (.int .i64)) (ce : P.cellsOf e = 1) (hC : P.cellsOf t = n)
  (hv : Value.okWide P W r b0 t v) (h : DataW.Trod enc P W base (fun _ => true) held t v d p) :
  ∃ l : List Int, l.length = n ∧ PV W (fun _ _ => False) (.agg (l.map (.int .i64))) v ∧ intsWf l := by
 simp only [Value.okWide, ht] at hv
 obtain ⟨cs, rfl, hsz, _⟩ := hv
 rw [hC] at hsz
 obtain ⟨fuel, hf⟩ := h
 obtain ⟨xs, m, _, _, hl, hxl, hf⟩ := DataW.trod_array ht hf
 have key : ∀ i, i < n → ∃ z, cs[i]! = .int .i64 z ∧ (Lit.int .i64 z).wf = true := fun i hi => by
  have h1 := hf i hi
  rw [ce, Nat.mul_one, List.getElem?_eq_getElem (by omega)] at h1
  obtain ⟨z, hz, _, hw⟩ := DataW.trod_int he h1
  refine ⟨z, ?_, hw⟩
  have hlt : i < cs.size := by omega
  have e1 : ((Value.agg cs).cells.toList.drop i).take 1 = [cs[i]] := by
   show ((cs.toList.drop i).take 1) = _
   rw [List.drop_eq_getElem_cons (by simpa using hlt)]
   simp
  rw [e1] at hz
  rw [getElem!_pos cs i hlt]
  exact List.cons.inj hz |>.1
 have ch : ∃ Z : Nat → Int, ∀ i, i < n → cs[i]! = .int .i64 (Z i) ∧ (Lit.int .i64 (Z i)).wf = true := choose_lt key
 obtain ⟨Z, hZ⟩ := ch
 refine ⟨(List.range n).map Z, by simp, ?_, fun z hz => ?_⟩
 ·refine .agg (by simp [hsz]) fun c hc => ?_
  have hcn : c < n := by simpa using hc
  rw [(hZ c hcn).1]
  simp only [List.getElem_map, List.getElem_range]
  exact .int _ _
 ·simp only [List.mem_map, List.mem_range] at hz
  obtain ⟨i, hi, rfl⟩ := hz
  exact (hZ i hi).2
end
end Go.AM
end

section
namespace Go.AM
open Go Go.ChangeMaps Go.ChangeShapes Go.WideShapes Go.RowKit Go.WideElems Go.Joins Go.Deep
section
variable {H : Type} {enc : TypeId × Value → H} {P : Program} {W : World}
theorem pv_rows_at {r : Reach} {b0 base : Nat} {held : Bool} {t e q : TypeId} {v : Value} {d : DataW H} {p : List MemPlace} (ht : P.underlying t = some (.slice e)) (he : P.underlying e = some (.slice q)) (hq : P.underlying q = some (.int .i64)) (ce : P.cellsOf e = 1) (cq : P.cellsOf q = 1) (be : P.bytesOf e = 24) (bq : P.bytesOf q = 8)
  (hv : Value.okWide P W r b0 t v) (h : DataW.Trod enc P W base (fun _ => true) held t v d p) (hl : Light P t d) :
  ∃ R, PV W (fun _ _ => False) (.pay (.rows R) false) v ∧ rowsWf R ∧ R.length ≤ 17592186044416 ∧ ∀ r ∈ R, r.length ≤ 17592186044416 := by
 obtain ⟨a, l, c, rfl⟩ := okWide_slice ht hv
 obtain ⟨fuel, hf⟩ := h
 exact pv_rows_light ht he hq ce cq be bq hf hl
theorem pv_mealy {r : Reach} {b0 base : Nat} {held : Bool} {t e q : TypeId} {f0 f1 : Field} {v : Value} {d : DataW H} {p : List MemPlace} (hs : P.underlying t = some (.struct #[f0, f1])) (hone : oneCellFields P #[f0, f1] = true) (hC : P.cellsOf t = 2)
  (hf0 : P.underlying f0.type = some (.slice e)) (he : P.underlying e = some (.slice q)) (hq : P.underlying q = some (.int .i64)) (ce : P.cellsOf e = 1) (cq : P.cellsOf q = 1) (be : P.bytesOf e = 24) (bq : P.bytesOf q = 8) (hf1 : f1.type = f0.type)
  (hv : Value.okWide P W r b0 t v) (h : DataW.Trod enc P W base (fun _ => true) held t v d p) (hl : Light P t d) :
  ∃ N O, PV W (fun _ _ => False) (.agg [.pay (.rows N) false, .pay (.rows O) false]) v ∧ N.length ≤ 17592186044416 ∧ (∀ r ∈ N, r.length ≤ 17592186044416) ∧ O.length ≤ 17592186044416 ∧ ∀ r ∈ O, r.length ≤ 17592186044416 := by
 obtain ⟨v0, v1, y0, y1, n, rfl, rfl, rfl, h0, h1⟩ := open_agg2 hs hone hC hv h
 obtain ⟨N, p0, w0, w1, w2⟩ := pv_rows_light hf0 he hq ce cq be bq h0 fun n hn => hl n (by simp [DataW.weights, hs, DataW.weightsEach, hn])
 obtain ⟨O, p1, u0, u1, u2⟩ := pv_rows_light (hf1 ▸ hf0) he hq ce cq be bq h1 fun n hn => hl n (by simp [DataW.weights, hs, DataW.weightsEach, hn])
 refine ⟨N, O, .agg rfl fun c hc => ?_, w1, w2, u1, u2⟩
 match c, hc with
 | 0, _ => exact p0
 | 1, _ => exact p1
theorem pv_str_at {r : Reach} {b0 base : Nat} {held : Bool} {t : TypeId} {v : Value} {d : DataW H} {p : List MemPlace} (ht : P.underlying t = some .string)
  (hv : Value.okWide P W r b0 t v) (h : DataW.Trod enc P W base (fun _ => true) held t v d p) (hl : Light P t d) :
  ∃ s : ByteArray, v = .string s ∧ s.data.toList.length ≤ 140737488355328 := by
 obtain ⟨s, rfl, rfl, rfl, _⟩ := open_string ht hv h
 refine ⟨s, rfl, ?_⟩
 have := hl s.data.toList.length (by simp [DataW.weights])
 have hr := reachBytes_lt
 omega
end
end Go.AM
end

section
namespace Go.AM
open Go Go.ChangeMaps Go.ChangeShapes Go.WideShapes Go.RowKit Go.WideElems Go.Joins Go.Deep
section
variable {H : Type} {enc : TypeId × Value → H} {P : Program} {W : World}
theorem pv_box {r : Reach} {b0 base : Nat} {held : Bool} {t e q : TypeId} {f0 f1 g0 : Field} {v : Value} {d : DataW H} {p : List MemPlace} (hs : P.underlying t = some (.struct #[f0, f1])) (hone : oneCellFields P #[f0, f1] = true) (hC : P.cellsOf t = 2)
  (hf0 : P.underlying f0.type = some (.struct #[g0])) (hone0 : oneCellFields P #[g0] = true) (hg0 : P.underlying g0.type = some (.slice e)) (he : P.underlying e = some (.slice q)) (hq : P.underlying q = some (.int .i64)) (ce : P.cellsOf e = 1) (cq : P.cellsOf q = 1) (be : P.bytesOf e = 24) (bq : P.bytesOf q = 8) (hf1 : P.underlying f1.type = some (.slice q))
  (hv : Value.okWide P W r b0 t v) (h : DataW.Trod enc P W base (fun _ => true) held t v d p) (hl : Light P t d) :
  ∃ R w, PV W (fun _ _ => False) (.agg [.pay (.rows R) false, .pay (.ints .i64 w) false]) v ∧ R.length ≤ 17592186044416 ∧ (∀ r ∈ R, r.length ≤ 17592186044416) ∧ w.length ≤ 17592186044416 := by
 obtain ⟨v0, v1, y0, y1, n, rfl, rfl, rfl, h0, h1⟩ := open_agg2 hs hone hC hv h
 have l0 : ∀ n ∈ y0.1.weights P f0.type, n ≤ reachBytes := fun n hn => hl n (by simp [DataW.weights, hs, DataW.weightsEach, hn])
 obtain ⟨z0, m, hx, _, g1⟩ := trod_struct1 hf0 h0
 obtain ⟨o0, k0⟩ := hone_of hone0 0 g0 rfl
 have hx1 : y0.1 = .agg [z0.1] := by rw [hx]
 rw [hx1] at l0
 have h0' : DataW.trod enc P W base (fun _ => true) held m g0.type [v0] = some z0 := by simpa [o0, k0] using g1
 obtain ⟨R, p0, w0, w1, w2⟩ := pv_rows_light hg0 he hq ce cq be bq h0' fun n hn => l0 n (by simp [DataW.weights, hf0, DataW.weightsEach, hn])
 obtain ⟨w, p1, u0, u1⟩ := pv_ints_light hf1 hq cq bq h1 fun n hn => hl n (by simp [DataW.weights, hs, DataW.weightsEach, hn])
 refine ⟨R, w, .agg rfl fun c hc => ?_, w1, w2, u1⟩
 match c, hc with
 | 0, _ => exact p0
 | 1, _ => exact p1
theorem pv_try {r : Reach} {b0 base : Nat} {held : Bool} {t q : TypeId} {f0 f1 : Field} {v : Value} {d : DataW H} {p : List MemPlace} (hs : P.underlying t = some (.struct #[f0, f1])) (hone : oneCellFields P #[f0, f1] = true) (hC : P.cellsOf t = 2)
  (hf0 : P.underlying f0.type = some (.int .i64)) (hf1 : P.underlying f1.type = some (.slice q)) (hq : P.underlying q = some (.int .i64)) (cq : P.cellsOf q = 1) (bq : P.bytesOf q = 8)
  (hv : Value.okWide P W r b0 t v) (h : DataW.Trod enc P W base (fun _ => true) held t v d p) (hl : Light P t d) :
  ∃ (x : Int) (w : List Int), PV W (fun _ _ => False) (.agg [.int .i64 x, .pay (.ints .i64 w) false]) v ∧ w.length ≤ 17592186044416 := by
 obtain ⟨v0, v1, y0, y1, n, rfl, rfl, rfl, h0, h1⟩ := open_agg2 hs hone hC hv h
 obtain ⟨x, hx, _, _⟩ := DataW.trod_int hf0 h0
 obtain ⟨w, p1, u0, u1⟩ := pv_ints_light hf1 hq cq bq h1 fun n hn => hl n (by simp [DataW.weights, hs, DataW.weightsEach, hn])
 have hx0 : v0 = .int .i64 x := List.cons.inj hx |>.1
 subst hx0
 refine ⟨x, w, .agg rfl fun c hc => ?_, u1⟩
 match c, hc with
 | 0, _ => exact .int _ _
 | 1, _ => exact p1
theorem pv_way {r : Reach} {b0 base : Nat} {held : Bool} {t q : TypeId} {f0 f1 f2 : Field} {v : Value} {d : DataW H} {p : List MemPlace} (hs : P.underlying t = some (.struct #[f0, f1, f2])) (hone : oneCellFields P #[f0, f1, f2] = true) (hC : P.cellsOf t = 3)
  (hf0 : P.underlying f0.type = some (.int .i64)) (hf1 : P.underlying f1.type = some (.int .i64)) (hf2 : P.underlying f2.type = some (.slice q)) (hq : P.underlying q = some (.int .i64)) (cq : P.cellsOf q = 1) (bq : P.bytesOf q = 8)
  (hv : Value.okWide P W r b0 t v) (h : DataW.Trod enc P W base (fun _ => true) held t v d p) (hl : Light P t d) :
  ∃ (x y : Int) (w : List Int), PV W (fun _ _ => False) (.agg [.int .i64 x, .int .i64 y, .pay (.ints .i64 w) false]) v ∧ w.length ≤ 17592186044416 := by
 obtain ⟨v0, v1, v2, y0, y1, y2, n, rfl, rfl, rfl, h0, h1, h2⟩ := open_agg3 hs hone hC hv h
 obtain ⟨x, hx, _, _⟩ := DataW.trod_int hf0 h0
 obtain ⟨y, hy, _, _⟩ := DataW.trod_int hf1 h1
 obtain ⟨w, p1, u0, u1⟩ := pv_ints_light hf2 hq cq bq h2 fun n hn => hl n (by simp [DataW.weights, hs, DataW.weightsEach, hn])
 have hx0 : v0 = .int .i64 x := List.cons.inj hx |>.1
 have hy0 : v1 = .int .i64 y := List.cons.inj hy |>.1
 subst hx0
 subst hy0
 refine ⟨x, y, w, .agg rfl fun c hc => ?_, u1⟩
 match c, hc with
 | 0, _ => exact .int _ _
 | 1, _ => exact .int _ _
 | 2, _ => exact p1
end
end Go.AM
end
