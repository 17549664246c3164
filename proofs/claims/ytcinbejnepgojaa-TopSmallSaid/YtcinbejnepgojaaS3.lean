/-
  A check of all automata with two letters and at most four states, and that it is sound; no condition.
-/
import Derived.Test.YtcinbejnepgojaaS2
set_option linter.unusedVariables false
set_option linter.unusedSimpArgs false
set_option linter.unusedSectionVars false

/-! text TaS -/
section
namespace Go.AM
open Go

/-! a table of images of sets of at most four states, packed -/
def imF (fs : List Nat) (S : Nat) : Nat → Nat
  | 0 => 0
  | m + 1 => if S.testBit m then imF fs S m ||| 2 ^ (fs.getD m 0) else imF fs S m
theorem imF_lt {fs : List Nat} {n S : Nat} (h : ∀ f ∈ fs, f < n) (hn : 1 ≤ n) : ∀ m, imF fs S m < 2 ^ n
  | 0 => Nat.two_pow_pos n
  | m + 1 => by
    unfold imF
    split
    · refine Nat.or_lt_two_pow (imF_lt h hn m) (Nat.pow_lt_pow_right (by omega) ?_)
      rw [List.getD_eq_getElem?_getD]
      cases e : fs[m]? with
      | none => exact hn
      | some f => exact h f (List.mem_of_getElem? e)
    · exact imF_lt h hn m
def tabS (fs : List Nat) (n : Nat) : Nat → Nat
  | 0 => 0
  | s + 1 => tabS fs n s ||| (imF fs s n <<< (4 * s))
theorem tabS_bit {fs : List Nat} {n : Nat} (h : ∀ f ∈ fs, f < n) (hn : 1 ≤ n) (h4 : n ≤ 4) {S i : Nat} (hi : i < 4) : ∀ m, (tabS fs n m).testBit (4 * S + i) = (decide (S < m) && (imF fs S n).testBit i)
  | 0 => by simp [tabS]
  | m + 1 => by
    have ih := tabS_bit h hn h4 (S := S) hi m
    unfold tabS
    rw [Nat.testBit_or, ih, Nat.testBit_shiftLeft]
    have hlt : ∀ S, imF fs S n < 2 ^ 4 := fun S => Nat.lt_of_lt_of_le (imF_lt h hn n) (Nat.pow_le_pow_right (by omega) h4)
    rcases Nat.lt_trichotomy S m with h1 | rfl | h1
    · have e1 : ¬ (4 * S + i ≥ 4 * m) := by omega
      have e2 : S < m + 1 := by omega
      simp [e1, h1, e2]
    · have e1 : 4 * S + i ≥ 4 * S := by omega
      have e2 : 4 * S + i - 4 * S = i := by omega
      simp [e1]
    · have e2 : ¬ S < m := by omega
      have e3 : ¬ S < m + 1 := by omega
      have e4 : (imF fs m n).testBit (4 * S + i - 4 * m) = false := Nat.testBit_lt_two_pow (Nat.lt_of_lt_of_le (hlt m) (Nat.pow_le_pow_right (by omega) (by omega)))
      simp [e2, e3, e4]
def tab (n : Nat) (fs : List Nat) : Nat := tabS fs n (2 ^ n)
theorem tab_at {fs : List Nat} {n : Nat} (h : ∀ f ∈ fs, f < n) (hn : 1 ≤ n) (h4 : n ≤ 4) {S : Nat} (hS : S < 2 ^ n) : Nat.mod (Nat.shiftRight (tab n fs) (4 * S)) 16 = imF fs S n := by
  show (tab n fs >>> (4 * S)) % 2 ^ 4 = _
  refine Nat.eq_of_testBit_eq fun i => ?_
  rw [Nat.testBit_mod_two_pow, Nat.testBit_shiftRight]
  by_cases hi : i < 4
  · rw [tab, tabS_bit h hn h4 hi]; simp [hi, hS]
  · have : (imF fs S n).testBit i = false := Nat.testBit_lt_two_pow (Nat.lt_of_lt_of_le (imF_lt h hn n) (Nat.pow_le_pow_right (by omega) (by omega)))
    simp [hi, this]

/-! the sets that lead to one state in few letters, packed -/
def stpL (F G M : Nat) : List Nat → Nat
  | [] => M
  | s :: l => Nat.lor (stpL F G M l) (Nat.shiftLeft (Nat.mod (Nat.lor (Nat.shiftRight M (Nat.mod (Nat.shiftRight F (Nat.mul 4 s)) 16)) (Nat.shiftRight M (Nat.mod (Nat.shiftRight G (Nat.mul 4 s)) 16))) 2) s)
def frc (n : Nat) (k : Nat → Bool) : Bool := Nat.rec (k 0) (fun m _ => k (Nat.succ m)) n
def itr (st : Nat → Nat → Nat → Nat) (full F G : Nat) : Nat → Nat → Bool
  | 0, _ => false
  | k + 1, M => frc (st F G M) fun M' => Nat.rec (Nat.beq M' M || itr st full F G k M') (fun _ _ => true) (Nat.mod (Nat.shiftRight M' full) 2)
theorem stpL_bit {F G M : Nat} (S : Nat) : ∀ l : List Nat, (stpL F G M l).testBit S = (M.testBit S || (decide (S ∈ l) && (M.testBit (Nat.mod (Nat.shiftRight F (4 * S)) 16) || M.testBit (Nat.mod (Nat.shiftRight G (4 * S)) 16))))
  | [] => by simp [stpL]
  | s :: l => by
    have ih := stpL_bit (F := F) (G := G) (M := M) S l
    show ((stpL F G M l) ||| (((M >>> (Nat.mod (Nat.shiftRight F (4 * s)) 16)) ||| (M >>> (Nat.mod (Nat.shiftRight G (4 * s)) 16))) % 2 ^ 1) <<< s).testBit S = _
    rw [Nat.testBit_or, ih, Nat.testBit_shiftLeft, Nat.testBit_mod_two_pow, Nat.testBit_or, Nat.testBit_shiftRight, Nat.testBit_shiftRight]
    rcases Nat.lt_trichotomy S s with h1 | rfl | h1
    · have e1 : ¬ S ≥ s := by omega
      have e2 : S ≠ s := by omega
      simp [e1, e2]
    · cases M.testBit S <;> by_cases hm : S ∈ l <;> simp [hm]
    · have e1 : ¬ S - s < 1 := by omega
      have e2 : S ≠ s := by omega
      simp [e1, e2]
theorem frc_eq (n : Nat) (k : Nat → Bool) : frc n k = k n := by cases n <;> rfl
def stpD (l : List Nat) (F G M : Nat) : Nat := stpL F G M l
theorem itr_eq (l : List Nat) (full F G k M : Nat) : itr (stpD l) full F G (k + 1) M = ((stpL F G M l).testBit full || (stpL F G M l == M) || itr (stpD l) full F G k (stpL F G M l)) := by
  show frc _ _ = _
  rw [frc_eq, stpD]
  have e : Nat.mod (Nat.shiftRight (stpL F G M l) full) 2 = ((stpL F G M l).testBit full).toNat := by
    show (stpL F G M l >>> full) % 2 = _
    rw [Nat.testBit, Nat.one_and_eq_mod_two]
    have := Nat.mod_two_eq_zero_or_one (stpL F G M l >>> full)
    rcases this with h | h <;> rw [h] <;> rfl
  rw [e]
  cases (stpL F G M l).testBit full
  · show (Nat.beq (stpL F G M l) M || itr (stpD l) full F G k (stpL F G M l)) = _
    rw [Bool.false_or]
    congr 1
    rw [Bool.eq_iff_iff]
    simp [Nat.beq_eq]
  · show true = _
    rw [Bool.true_or, Bool.true_or]
/-- a word of at most k letters leads from S to one state -/
def Wn (δ : Nat → Nat → Nat) (k S : Nat) : Prop := ∃ w : List Int, w.length ≤ k ∧ (∀ x ∈ w, 0 ≤ x ∧ x < (2 : Nat)) ∧ popN (runW δ S w) = 1
theorem Wn_zero {δ : Nat → Nat → Nat} {S : Nat} : Wn δ 0 S ↔ popN S = 1 := by
  constructor
  · rintro ⟨w, h1, _, h3⟩
    cases w with
    | nil => exact h3
    | cons x w => simp at h1
  · intro h; exact ⟨[], Nat.le_refl _, by simp, h⟩
theorem Wn_succ {δ : Nat → Nat → Nat} {k S : Nat} : Wn δ (k + 1) S ↔ Wn δ k S ∨ Wn δ k (δ S 0) ∨ Wn δ k (δ S 1) := by
  constructor
  · rintro ⟨w, h1, h2, h3⟩
    cases w with
    | nil => exact .inl ⟨[], by simp, by simp, h3⟩
    | cons x w =>
      have hx := h2 x (by simp)
      have hw : ∀ y ∈ w, 0 ≤ y ∧ y < (2 : Nat) := fun y hy => h2 y (by simp [hy])
      have : x = 0 ∨ x = 1 := by omega
      rcases this with rfl | rfl
      · exact .inr (.inl ⟨w, by simpa using h1, hw, h3⟩)
      · exact .inr (.inr ⟨w, by simpa using h1, hw, h3⟩)
  · rintro (⟨w, h1, h2, h3⟩ | ⟨w, h1, h2, h3⟩ | ⟨w, h1, h2, h3⟩)
    · exact ⟨w, by omega, h2, h3⟩
    · exact ⟨0 :: w, by simpa using h1, by simpa using h2, h3⟩
    · exact ⟨1 :: w, by simpa using h1, by simpa using h2, h3⟩
theorem Wn_mono {δ : Nat → Nat → Nat} {k k' S : Nat} (h : k ≤ k') : Wn δ k S → Wn δ k' S := fun ⟨w, h1, h2, h3⟩ => ⟨w, by omega, h2, h3⟩
structure Tabs (n : Nat) (δ : Nat → Nat → Nat) (l : List Nat) (F G : Nat) : Prop where
  f : ∀ S, S < 2 ^ n → Nat.mod (Nat.shiftRight F (4 * S)) 16 = δ S 0
  g : ∀ S, S < 2 ^ n → Nat.mod (Nat.shiftRight G (4 * S)) 16 = δ S 1
  lt : ∀ S x, S < 2 ^ n → x < 2 → δ S x < 2 ^ n
  l : ∀ S, S < 2 ^ n → S ∈ l ∨ popN S = 1 ∨ S = 0
  z : ∀ x, δ 0 x = 0
theorem Tabs.no {n : Nat} {δ : Nat → Nat → Nat} {l : List Nat} {F G : Nat} (h : Tabs n δ l F G) : ∀ k, ¬ Wn δ k 0
  | 0 => by rw [Wn_zero]; decide
  | k + 1 => by rw [Wn_succ, h.z, h.z]; exact fun hh => h.no k (by rcases hh with hh | hh | hh <;> exact hh)
theorem Tabs.step {n : Nat} {δ : Nat → Nat → Nat} {l : List Nat} {F G M j : Nat} (h : Tabs n δ l F G) (hM : ∀ S, S < 2 ^ n → (M.testBit S = true ↔ Wn δ j S)) : ∀ S, S < 2 ^ n → ((stpL F G M l).testBit S = true ↔ Wn δ (j + 1) S) := fun S hS => by
  rw [stpL_bit, h.f S hS, h.g S hS, Wn_succ, Bool.or_eq_true, Bool.and_eq_true, Bool.or_eq_true, hM S hS, hM _ (h.lt S 0 hS (by omega)), hM _ (h.lt S 1 hS (by omega)), decide_eq_true_eq]
  rcases h.l S hS with hl | hp | rfl
  · simp [hl]
  · have : Wn δ j S := Wn_mono (Nat.zero_le _) (Wn_zero.2 hp)
    simp [this]
  · have := h.no j
    simp [h.z, this]
theorem Tabs.sound {n : Nat} {δ : Nat → Nat → Nat} {l : List Nat} {F G : Nat} (h : Tabs n δ l F G) {full : Nat} (hfull : full < 2 ^ n) : ∀ (k j M : Nat), (∀ S, S < 2 ^ n → (M.testBit S = true ↔ Wn δ j S)) → itr (stpD l) full F G k M = true → (∃ q, Wn δ q full) → Wn δ (j + k) full
  | 0, _, _, _, hi, _ => by cases hi
  | k + 1, j, M, hM, hi, hq => by
    rw [itr_eq, Bool.or_eq_true, Bool.or_eq_true] at hi
    have hs := h.step hM
    rcases hi with (hi | hi) | hi
    · exact Wn_mono (by omega) ((hs full hfull).1 hi)
    · have he : stpL F G M l = M := by simpa using hi
      rw [he] at hs
      have hst : ∀ i S, S < 2 ^ n → Wn δ (j + i) S → Wn δ j S := fun i => by
        induction i with
        | zero => intro S _ hw; exact hw
        | succ i ih =>
          intro S hS hw
          refine (hM S hS).1 ((hs S hS).2 ?_)
          rw [show j + (i + 1) = (j + i) + 1 by omega, Wn_succ] at hw
          rw [Wn_succ]
          rcases hw with hw | hw | hw
          · exact .inl (ih S hS hw)
          · exact .inr (.inl (ih _ (h.lt S 0 hS (by omega)) hw))
          · exact .inr (.inr (ih _ (h.lt S 1 hS (by omega)) hw))
      obtain ⟨q, hq⟩ := hq
      exact Wn_mono (by omega) (hst q full hfull (Wn_mono (by omega) hq))
    · have := Tabs.sound h hfull k (j + 1) (stpL F G M l) hs hi hq
      rw [show j + (k + 1) = j + 1 + k by omega]; exact this

/-! the small automata -/
def lst : Nat → List Nat
  | 2 => [3]
  | 3 => [3, 5, 6, 7]
  | 4 => [3, 5, 6, 7, 9, 10, 11, 12, 13, 14, 15]
  | _ => []
def sing : Nat → Nat
  | 1 => 2
  | 2 => 6
  | 3 => 22
  | 4 => 278
  | _ => 0
/-- all maps of n states, as tables -/
def fns (n : Nat) : Nat → List (List Nat)
  | 0 => [[]]
  | m + 1 => (fns n m).flatMap fun fs => (List.range n).map fun x => x :: fs
theorem mem_fns {n : Nat} : ∀ {fs : List Nat}, (∀ f ∈ fs, f < n) → fs ∈ fns n fs.length
  | [], _ => by simp [fns]
  | f :: fs, h => by
    have ih := mem_fns (n := n) (fs := fs) fun x hx => h x (by simp [hx])
    simp only [fns, List.length_cons, List.mem_flatMap, List.mem_map, List.mem_range]
    exact ⟨fs, ih, f, h f (by simp), rfl⟩
def tabs2 : List Nat := [4368, 12576, 12816, 8736]
def tabs3 : List Nat := [286331152, 825307424, 1364283712, 856764944, 858858016, 1934713408, 1427198992, 1966171168, 1431389248, 858919184, 857878816, 1935823168, 842150416, 572662304, 1650614848,
  1983009808, 1713529888, 1717716032, 1431572752, 1969500448, 1430540608, 1985229328, 1717838368, 1715757632, 1414812688, 1684300832, 1145324608]
def tabs4 : List Nat := [1229782938247303440, 3544668469065756960, 5859553999884210496, 10489325061521117568, 3679778519502631440, 3688785856198418976, 8309549581139534400, 12939320642776441472,
  6129774100757959696, 8444659631576409120, 6147788774149538880, 15389316224031769728, 11029765263268616208, 13344650794087065632, 15659536324905519168, 11065794610051778688,
  3689311285317603600, 3689346607127605536, 8319082346953462080, 12948853408590369152, 3689348668696179216, 3689348805865644576, 8319119730063598144, 12948890791700505216,
  8589302447811482640, 8589337769353045024, 8607317120933577792, 17848844570815808640, 13489293610322139152, 13489328931863701536, 18119064671689558080, 13525322956835817600,
  6148839632387969296, 8463725163205374240, 6148910276009021760, 15408381755660734848, 8598835213626520080, 8607842550052823584, 8598905856979132992, 17858377336630846080,
  6148914399161898000, 8463799929710863392, 6148914673770316864, 15408456522166224000, 15948821957392504848, 18263707487941470240, 15948892600745117760, 15984851303906183296,
  11067896326528700688, 13382781857346105632, 15697667388164559168, 11068037613771854208, 13517891907767251472, 13526899244193554976, 18147662969134670400, 13518033194741965440,
  15967887489022579728, 18282773019571545120, 15985902162144674880, 15968028775997293696, 11068045860093335568, 13382931390642300960, 15697816921460754496, 11068046409579661440,
  3689348809874280720, 3689348741693780256, 8319119802791711040, 12948890864428618112, 3689347710933086736, 3689330050029658656, 8319101111664468544, 12948872173301375616,
  8589338872873309200, 8589321212506760224, 8607335885359367232, 17848863335241598080, 13489330035383965712, 13489312375017416736, 18119083436115347520, 13525341721261607040,
  3689067335470158096, 3684563667122270496, 8314334728759169344, 12944105790396076416, 3617008641903833616, 2459565876494606880, 7089336938131513920, 11719107999768420992,
  8516999804414481424, 7359557039005262880, 7377571712396837952, 16619099162279068800, 13416990966925137936, 12259548201515919392, 16889319263152818240, 12295577548299077760,
  8608124029038235920, 8603620361229316384, 8603691004312441152, 17863162483964154240, 8536065336042336784, 7378622570635207200, 7378693214255211072, 16638164693906924160,
  8536140102262608912, 7378697337392358432, 7378697611731289152, 16638239460127196288, 18336047660493215760, 17178604895622965280, 17178675538706090048, 17214634241867155584,
  13527180723178967312, 13522677055370047776, 18152448116467978560, 13522818342075273600, 13455122030183068176, 12297679264775938592, 16927450326410748480, 12297820552018043520,
  18355113192123290640, 17197670427253040160, 17215685100105647168, 17197811713958265984, 13455271563194046480, 12297828798323796000, 16927599859421726784, 12297829347540633728,
  6148914685796225296, 8463800147895202080, 6148914618154701120, 15408456740350562688, 8598909167539925520, 8607898843330191904, 8598891507712352832, 17858433629908214400,
  6148913587425465360, 8463781457338393632, 6148895926524134464, 15408438049793754240, 15948895911305910288, 18263763781218838560, 15948878251478337600, 15984907597183551616,
  8608161557889814800, 8603693211352969504, 8603657890619871552, 17863200012815733120, 8536140247718834704, 7378697619748561440, 7378697483387560512, 16638239605583422080,
  8536102865464349712, 7378695421866173472, 7378660100059317312, 16638202223328937088, 18336085189344794640, 17178677745746618400, 17178642425013520448, 17214671770718734464,
  6148633211964756240, 8459015074435313952, 6144129543616876864, 15403671666890674560, 8526570099653751312, 7378134670940316192, 7369127334244540992, 16628669457518338688,
  6076574518398440464, 7234017283807667232, 4919131752989213760, 14178673876263027840, 15876556843419736080, 17033999608828962848, 14719114078010525760, 14755143424793675904,
  15986746599100911888, 18297128461571469600, 15982242931830968640, 15982384217997218176, 18364683486789906960, 17216248058076471840, 17207240722458632768, 17207382008624882304,
  15914687906675446800, 17072130672084673568, 14757245141270414400, 14757386428510422144, 15914837439115991056, 17072280204525217824, 14757394674784716864, 14757395223462578304,
  11068046437640114448, 13382931899739091232, 15697817430557544768, 11068046371076542848, 13518040919383814672, 13527030595174081056, 18147794320115196480, 13518023260634194560,
  15968036500639142928, 18282904370552071200, 15986033513125200960, 15968018841889522816, 11068045340410222608, 13382913210323150880, 15697798741141604416, 11068027679513086080,
  13527293309733703952, 13522824963196858656, 18152560703022715200, 13522789643541713280, 13455271999562723856, 12297829371592450592, 16927600295790404160, 12297829236309402240,
  18355225778678027280, 17197818335079851040, 17215797686660383808, 17197783015424705664, 13455234618449106960, 12297827174850930720, 16927562914676787264, 12297791853048268928,
  15986821656804069648, 18297203519274627360, 15982388632078274880, 15982317990612078976, 18364758544493064720, 17216323115779629600, 17207386422705939008, 17207315781239743104,
  15914837730028442640, 17072280495437669408, 14757395239497122880, 14757394966775121024, 15914762965519472656, 17072205730928699424, 14757390843732346944, 14757320200118634624,
  11067764964953952528, 13378146827424510240, 15693032358242963776, 11063261296606089600, 13445701852642947600, 12297266423929512480, 16918030148870627904, 12288259087233753728,
  15895697433898275856, 17053140199307502624, 14756269341880632384, 14738254668489081984, 10995706271387654160, 12153149036796880928, 14468034567615334464, 9838263505978427520]
theorem tabs2_eq : (fns 2 2).map (tab 2) = tabs2 := by decide +kernel
theorem tabs3_eq : (fns 3 3).map (tab 3) = tabs3 := by decide +kernel
theorem tabs4_eq : (fns 4 4).map (tab 4) = tabs4 := by decide +kernel
def stp4 (F G M : Nat) : Nat := (Nat.lor
  (Nat.lor
  (Nat.lor
  (Nat.lor
  (Nat.lor
  (Nat.lor
  (Nat.lor
  (Nat.lor
  (Nat.lor
  (Nat.lor
  (Nat.lor
  M (Nat.shiftLeft (Nat.mod (Nat.lor (Nat.shiftRight M (Nat.mod (Nat.shiftRight F 60) 16)) (Nat.shiftRight M (Nat.mod (Nat.shiftRight G 60) 16))) 2) 15)) (Nat.shiftLeft (Nat.mod (Nat.lor (Nat.shiftRight M (Nat.mod (Nat.shiftRight F 56) 16)) (Nat.shiftRight M (Nat.mod (Nat.shiftRight G 56) 16))) 2) 14)) (Nat.shiftLeft (Nat.mod (Nat.lor (Nat.shiftRight M (Nat.mod (Nat.shiftRight F 52) 16)) (Nat.shiftRight M (Nat.mod (Nat.shiftRight G 52) 16))) 2) 13)) (Nat.shiftLeft (Nat.mod (Nat.lor (Nat.shiftRight M (Nat.mod (Nat.shiftRight F 48) 16)) (Nat.shiftRight M (Nat.mod (Nat.shiftRight G 48) 16))) 2) 12)) (Nat.shiftLeft (Nat.mod (Nat.lor (Nat.shiftRight M (Nat.mod (Nat.shiftRight F 44) 16)) (Nat.shiftRight M (Nat.mod (Nat.shiftRight G 44) 16))) 2) 11)) (Nat.shiftLeft (Nat.mod (Nat.lor (Nat.shiftRight M (Nat.mod (Nat.shiftRight F 40) 16)) (Nat.shiftRight M (Nat.mod (Nat.shiftRight G 40) 16))) 2) 10)) (Nat.shiftLeft (Nat.mod (Nat.lor (Nat.shiftRight M (Nat.mod (Nat.shiftRight F 36) 16)) (Nat.shiftRight M (Nat.mod (Nat.shiftRight G 36) 16))) 2) 9)) (Nat.shiftLeft (Nat.mod (Nat.lor (Nat.shiftRight M (Nat.mod (Nat.shiftRight F 28) 16)) (Nat.shiftRight M (Nat.mod (Nat.shiftRight G 28) 16))) 2) 7)) (Nat.shiftLeft (Nat.mod (Nat.lor (Nat.shiftRight M (Nat.mod (Nat.shiftRight F 24) 16)) (Nat.shiftRight M (Nat.mod (Nat.shiftRight G 24) 16))) 2) 6)) (Nat.shiftLeft (Nat.mod (Nat.lor (Nat.shiftRight M (Nat.mod (Nat.shiftRight F 20) 16)) (Nat.shiftRight M (Nat.mod (Nat.shiftRight G 20) 16))) 2) 5)) (Nat.shiftLeft (Nat.mod (Nat.lor (Nat.shiftRight M (Nat.mod (Nat.shiftRight F 12) 16)) (Nat.shiftRight M (Nat.mod (Nat.shiftRight G 12) 16))) 2) 3))
theorem stp4_eq : stp4 = stpD (lst 4) := by funext F G M; rfl
theorem chk2 : tabs2.all (fun F => tabs2.all fun G => itr (stpD (lst 2)) 3 F G 1 (sing 2)) = true := by decide +kernel
theorem chk3 : tabs3.all (fun F => tabs3.all fun G => itr (stpD (lst 3)) 7 F G 4 (sing 3)) = true := by decide +kernel
theorem chk4_0 : ((tabs4.drop 0).take 32).all (fun F => tabs4.all fun G => itr stp4 15 F G 9 (sing 4)) = true := by decide +kernel
theorem chk4_1 : ((tabs4.drop 32).take 32).all (fun F => tabs4.all fun G => itr stp4 15 F G 9 (sing 4)) = true := by decide +kernel
theorem chk4_2 : ((tabs4.drop 64).take 32).all (fun F => tabs4.all fun G => itr stp4 15 F G 9 (sing 4)) = true := by decide +kernel
theorem chk4_3 : ((tabs4.drop 96).take 32).all (fun F => tabs4.all fun G => itr stp4 15 F G 9 (sing 4)) = true := by decide +kernel
theorem chk4_4 : ((tabs4.drop 128).take 32).all (fun F => tabs4.all fun G => itr stp4 15 F G 9 (sing 4)) = true := by decide +kernel
theorem chk4_5 : ((tabs4.drop 160).take 32).all (fun F => tabs4.all fun G => itr stp4 15 F G 9 (sing 4)) = true := by decide +kernel
theorem chk4_6 : ((tabs4.drop 192).take 32).all (fun F => tabs4.all fun G => itr stp4 15 F G 9 (sing 4)) = true := by decide +kernel
theorem chk4_7 : ((tabs4.drop 224).take 32).all (fun F => tabs4.all fun G => itr stp4 15 F G 9 (sing 4)) = true := by decide +kernel
end Go.AM
end
