/-
  No cell of these rows narrows 'for every input' (looked for: loops, veiled, ifaces, maps, wideKeys, modest, calm, conditions, laid).
  DERIVED. THE GIVEN ROWS OF THIS SEAT. 9 by the template 'for every input the law returns true; each argument reads behind the call as it read before'; 0 by the template 'total and deterministic' (their statements: YtkpoffjimfiabaaTotals.lean).
  GIVEN WITH THE SEED: the statements are not yours to turn. If you find one false, say at which input.
  Laid BY PROGRAM, IN A SANDBOX (cutbox-rows.mjs): the forced cells as the released guide's own fill.sh prints them over the translation 6d298a144610649f… (all of the seat's roots in one cut). By AI agents, Wed Nov 11 2026. No macro, syntax, notation, axiom, sorry.
-/
import Derived.Test.YtkpoffjimfiabaaChecked
import GoSem.Claim
import GoSem.ClaimJoined
import GoSem.ClaimMapViews
import Derived.JoinedTies
import Derived.KernelRfl
namespace Go.Proofs.Ytkpoffjimfiabaa
/- THE CELL 'sum', in the pinned program and in every row, IS THE sha256 OF THE DUMP (.gsa) THAT YtkpoffjimfiabaaProg.lean LOADS. Nothing in Lean hashes anything: it is a label: what it is worth is what the hold of that sum in a sandbox is worth. -/
noncomputable def Try.pinned : Pinned := { name := "ytkpoffjimfiabaa", sum := "6d298a144610649f0df3f851a3b1aa4ec8f9600ea8dd09f12e76ca4c307bcce3", checked := Try.checked }
namespace Rows
def none {H : Type} : Left H := { results := [], args := [] }

/-- 'mizmazelaw08.HomeWords': WHATEVER THE INPUT: true; the input reads as it did. -/
def homeWordsSpec : ChangeSpec := { name := "homeWords", fn := fun _ => fun
  | [d1, d2] => { results := [.lit (.bool true)], args := [d1, d2] }
  | _ => none }
def homeWordsRow : OpenClaim := { program := "ytkpoffjimfiabaa", sum := "6d298a144610649f0df3f851a3b1aa4ec8f9600ea8dd09f12e76ca4c307bcce3", func := "mizmaze/mizmazelaw08.HomeWords", spec := "homeWords", unfollowed := true, recurses := true, plainKeys := false, apart := false }
def HomeWordsSaid : Prop := homeWordsRow.holds Try.pinned (OpenSpec.ofChange homeWordsSpec)

/-- ITS FALSE NEIGHBOUR: 'it returns false'. Refute it at one input. -/
def homeWordsWrong : ChangeSpec := { name := "homeWords", fn := fun _ => fun
  | [d1, d2] => { results := [.lit (.bool false)], args := [d1, d2] }
  | _ => none }
def HomeWordsWrongFalsely : Prop := homeWordsRow.holds Try.pinned (OpenSpec.ofChange homeWordsWrong)

/-- 'mizmazelaw08.HomeFinds': WHATEVER THE INPUT: true; the input reads as it did. -/
def homeFindsSpec : ChangeSpec := { name := "homeFinds", fn := fun _ => fun
  | [d] => { results := [.lit (.bool true)], args := [d] }
  | _ => none }
def homeFindsRow : OpenClaim := { program := "ytkpoffjimfiabaa", sum := "6d298a144610649f0df3f851a3b1aa4ec8f9600ea8dd09f12e76ca4c307bcce3", func := "mizmaze/mizmazelaw08.HomeFinds", spec := "homeFinds", unfollowed := true, recurses := true, plainKeys := false, apart := false }
def HomeFindsSaid : Prop := homeFindsRow.holds Try.pinned (OpenSpec.ofChange homeFindsSpec)

/-- ITS FALSE NEIGHBOUR: 'it returns false'. Refute it at one input. -/
def homeFindsWrong : ChangeSpec := { name := "homeFinds", fn := fun _ => fun
  | [d] => { results := [.lit (.bool false)], args := [d] }
  | _ => none }
def HomeFindsWrongFalsely : Prop := homeFindsRow.holds Try.pinned (OpenSpec.ofChange homeFindsWrong)

/-- 'mizmazelaw08.HomeLonger': WHATEVER THE INPUT: true; the input reads as it did. -/
def homeLongerSpec : ChangeSpec := { name := "homeLonger", fn := fun _ => fun
  | [d1, d2, d3] => { results := [.lit (.bool true)], args := [d1, d2, d3] }
  | _ => none }
def homeLongerRow : OpenClaim := { program := "ytkpoffjimfiabaa", sum := "6d298a144610649f0df3f851a3b1aa4ec8f9600ea8dd09f12e76ca4c307bcce3", func := "mizmaze/mizmazelaw08.HomeLonger", spec := "homeLonger", unfollowed := true, recurses := true, plainKeys := false, apart := false }
def HomeLongerSaid : Prop := homeLongerRow.holds Try.pinned (OpenSpec.ofChange homeLongerSpec)

/-- ITS FALSE NEIGHBOUR: 'it returns false'. Refute it at one input. -/
def homeLongerWrong : ChangeSpec := { name := "homeLonger", fn := fun _ => fun
  | [d1, d2, d3] => { results := [.lit (.bool false)], args := [d1, d2, d3] }
  | _ => none }
def HomeLongerWrongFalsely : Prop := homeLongerRow.holds Try.pinned (OpenSpec.ofChange homeLongerWrong)

/-- 'mizmazelaw08.HomeShortest': WHATEVER THE INPUT: true; the input reads as it did. -/
def homeShortestSpec : ChangeSpec := { name := "homeShortest", fn := fun _ => fun
  | [d] => { results := [.lit (.bool true)], args := [d] }
  | _ => none }
def homeShortestRow : OpenClaim := { program := "ytkpoffjimfiabaa", sum := "6d298a144610649f0df3f851a3b1aa4ec8f9600ea8dd09f12e76ca4c307bcce3", func := "mizmaze/mizmazelaw08.HomeShortest", spec := "homeShortest", unfollowed := true, recurses := true, plainKeys := false, apart := false }
def HomeShortestSaid : Prop := homeShortestRow.holds Try.pinned (OpenSpec.ofChange homeShortestSpec)

/-- ITS FALSE NEIGHBOUR: 'it returns false'. Refute it at one input. -/
def homeShortestWrong : ChangeSpec := { name := "homeShortest", fn := fun _ => fun
  | [d] => { results := [.lit (.bool false)], args := [d] }
  | _ => none }
def HomeShortestWrongFalsely : Prop := homeShortestRow.holds Try.pinned (OpenSpec.ofChange homeShortestWrong)

/-- 'mizmazelaw08.HomeShorter': WHATEVER THE INPUT: true; the input reads as it did. -/
def homeShorterSpec : ChangeSpec := { name := "homeShorter", fn := fun _ => fun
  | [d1, d2] => { results := [.lit (.bool true)], args := [d1, d2] }
  | _ => none }
def homeShorterRow : OpenClaim := { program := "ytkpoffjimfiabaa", sum := "6d298a144610649f0df3f851a3b1aa4ec8f9600ea8dd09f12e76ca4c307bcce3", func := "mizmaze/mizmazelaw08.HomeShorter", spec := "homeShorter", unfollowed := true, recurses := true, plainKeys := false, apart := false }
def HomeShorterSaid : Prop := homeShorterRow.holds Try.pinned (OpenSpec.ofChange homeShorterSpec)

/-- ITS FALSE NEIGHBOUR: 'it returns false'. Refute it at one input. -/
def homeShorterWrong : ChangeSpec := { name := "homeShorter", fn := fun _ => fun
  | [d1, d2] => { results := [.lit (.bool false)], args := [d1, d2] }
  | _ => none }
def HomeShorterWrongFalsely : Prop := homeShorterRow.holds Try.pinned (OpenSpec.ofChange homeShorterWrong)

/-- 'mizmazelaw08.HomeAfter': WHATEVER THE INPUT: true; the input reads as it did. -/
def homeAfterSpec : ChangeSpec := { name := "homeAfter", fn := fun _ => fun
  | [d1, d2, d3, d4] => { results := [.lit (.bool true)], args := [d1, d2, d3, d4] }
  | _ => none }
def homeAfterRow : OpenClaim := { program := "ytkpoffjimfiabaa", sum := "6d298a144610649f0df3f851a3b1aa4ec8f9600ea8dd09f12e76ca4c307bcce3", func := "mizmaze/mizmazelaw08.HomeAfter", spec := "homeAfter", unfollowed := true, recurses := true, plainKeys := false, apart := false }
def HomeAfterSaid : Prop := homeAfterRow.holds Try.pinned (OpenSpec.ofChange homeAfterSpec)

/-- ITS FALSE NEIGHBOUR: 'it returns false'. Refute it at one input. -/
def homeAfterWrong : ChangeSpec := { name := "homeAfter", fn := fun _ => fun
  | [d1, d2, d3, d4] => { results := [.lit (.bool false)], args := [d1, d2, d3, d4] }
  | _ => none }
def HomeAfterWrongFalsely : Prop := homeAfterRow.holds Try.pinned (OpenSpec.ofChange homeAfterWrong)

/-- 'mizmazelaw08.HomeResets': WHATEVER THE INPUT: true; the input reads as it did. -/
def homeResetsSpec : ChangeSpec := { name := "homeResets", fn := fun _ => fun
  | [d1, d2, d3] => { results := [.lit (.bool true)], args := [d1, d2, d3] }
  | _ => none }
def homeResetsRow : OpenClaim := { program := "ytkpoffjimfiabaa", sum := "6d298a144610649f0df3f851a3b1aa4ec8f9600ea8dd09f12e76ca4c307bcce3", func := "mizmaze/mizmazelaw08.HomeResets", spec := "homeResets", unfollowed := true, recurses := true, plainKeys := false, apart := false }
def HomeResetsSaid : Prop := homeResetsRow.holds Try.pinned (OpenSpec.ofChange homeResetsSpec)

/-- ITS FALSE NEIGHBOUR: 'it returns false'. Refute it at one input. -/
def homeResetsWrong : ChangeSpec := { name := "homeResets", fn := fun _ => fun
  | [d1, d2, d3] => { results := [.lit (.bool false)], args := [d1, d2, d3] }
  | _ => none }
def HomeResetsWrongFalsely : Prop := homeResetsRow.holds Try.pinned (OpenSpec.ofChange homeResetsWrong)

/-- 'mizmazelaw08.HomeSeek': WHATEVER THE INPUT: true; the input reads as it did. -/
def homeSeekSpec : ChangeSpec := { name := "homeSeek", fn := fun _ => fun
  | [d1, d2] => { results := [.lit (.bool true)], args := [d1, d2] }
  | _ => none }
def homeSeekRow : OpenClaim := { program := "ytkpoffjimfiabaa", sum := "6d298a144610649f0df3f851a3b1aa4ec8f9600ea8dd09f12e76ca4c307bcce3", func := "mizmaze/mizmazelaw08.HomeSeek", spec := "homeSeek", unfollowed := true, recurses := true, plainKeys := false, apart := false }
def HomeSeekSaid : Prop := homeSeekRow.holds Try.pinned (OpenSpec.ofChange homeSeekSpec)

/-- ITS FALSE NEIGHBOUR: 'it returns false'. Refute it at one input. -/
def homeSeekWrong : ChangeSpec := { name := "homeSeek", fn := fun _ => fun
  | [d1, d2] => { results := [.lit (.bool false)], args := [d1, d2] }
  | _ => none }
def HomeSeekWrongFalsely : Prop := homeSeekRow.holds Try.pinned (OpenSpec.ofChange homeSeekWrong)

/-- 'mizmazetop.TopFound': WHATEVER THE INPUT: true; the input reads as it did. -/
def topFoundSpec : ChangeSpec := { name := "topFound", fn := fun _ => fun
  | [d1, d2, d3] => { results := [.lit (.bool true)], args := [d1, d2, d3] }
  | _ => none }
def topFoundRow : OpenClaim := { program := "ytkpoffjimfiabaa", sum := "6d298a144610649f0df3f851a3b1aa4ec8f9600ea8dd09f12e76ca4c307bcce3", func := "mizmaze/mizmazetop.TopFound", spec := "topFound", unfollowed := true, recurses := true, plainKeys := false, apart := false }
def TopFoundSaid : Prop := topFoundRow.holds Try.pinned (OpenSpec.ofChange topFoundSpec)

/-- ITS FALSE NEIGHBOUR: 'it returns false'. Refute it at one input. -/
def topFoundWrong : ChangeSpec := { name := "topFound", fn := fun _ => fun
  | [d1, d2, d3] => { results := [.lit (.bool false)], args := [d1, d2, d3] }
  | _ => none }
def TopFoundWrongFalsely : Prop := topFoundRow.holds Try.pinned (OpenSpec.ofChange topFoundWrong)

/- THE SECOND FORM. 'bulk': how many values and letters a reading holds, each counted each time it is reached (what is shared counts as often as it is met; a slice's spare places count too). A statement '..UptoSaid' is the law's where the arguments, and the package variables that the reading takes, are together of bulk at most 1048576: NARROWER than '..Said'. Prove '..Said' where nothing that the law and all that it calls make is longer than what came in: it says more and counts as full. Else prove '..UptoSaid'. A law counts once. -/
mutual
def uptoBulk {H : Type} : DataW H → Nat
  | .lit (.string bytes) => bytes.length + 1
  | .lit _ => 1
  | .nil => 1
  | .ptr d => uptoBulk d + 1
  | .slice elems spare => uptoBulkAll elems + uptoBulkAll spare + 1
  | .agg parts => uptoBulkAll parts + 1
  | .iface _ d => uptoBulk d + 1
  | .map entries => uptoBulkEntries entries + 1
  | .held _ => 1
def uptoBulkAll {H : Type} : List (DataW H) → Nat
  | [] => 0
  | d :: r => uptoBulk d + uptoBulkAll r
def uptoBulkEntries {H : Type} : List (Lit × DataW H) → Nat
  | [] => 0
  | x :: r => uptoBulkEntry x + uptoBulkEntries r
def uptoBulkEntry {H : Type} : Lit × DataW H → Nat
  | (.string bytes, d) => bytes.length + uptoBulk d + 1
  | (_, d) => uptoBulk d + 1
 end
def uptoSmall : (H : Type) → List (DataW H) → Bool := fun _ ds => decide (uptoBulkAll ds ≤ 1048576)
def OpenSpec.upto (s : _root_.Go.ChangeSpec) : _root_.Go.OpenSpec := { _root_.Go.OpenSpec.ofChange s with cond := some uptoSmall }

/-- 'mizmazelaw08.HomeWords', WHERE WHAT IT READS IS OF BULK AT MOST 1048576: true; the input reads as it did. -/
def homeWordsUptoRow : OpenClaim := { program := "ytkpoffjimfiabaa", sum := "6d298a144610649f0df3f851a3b1aa4ec8f9600ea8dd09f12e76ca4c307bcce3", func := "mizmaze/mizmazelaw08.HomeWords", spec := "homeWords", unfollowed := true, recurses := true, plainKeys := false, apart := false, narrowed := true }
def HomeWordsUptoSaid : Prop := homeWordsUptoRow.holds Try.pinned (OpenSpec.upto homeWordsSpec)

/-- 'mizmazelaw08.HomeFinds', WHERE WHAT IT READS IS OF BULK AT MOST 1048576: true; the input reads as it did. -/
def homeFindsUptoRow : OpenClaim := { program := "ytkpoffjimfiabaa", sum := "6d298a144610649f0df3f851a3b1aa4ec8f9600ea8dd09f12e76ca4c307bcce3", func := "mizmaze/mizmazelaw08.HomeFinds", spec := "homeFinds", unfollowed := true, recurses := true, plainKeys := false, apart := false, narrowed := true }
def HomeFindsUptoSaid : Prop := homeFindsUptoRow.holds Try.pinned (OpenSpec.upto homeFindsSpec)

/-- 'mizmazelaw08.HomeLonger', WHERE WHAT IT READS IS OF BULK AT MOST 1048576: true; the input reads as it did. -/
def homeLongerUptoRow : OpenClaim := { program := "ytkpoffjimfiabaa", sum := "6d298a144610649f0df3f851a3b1aa4ec8f9600ea8dd09f12e76ca4c307bcce3", func := "mizmaze/mizmazelaw08.HomeLonger", spec := "homeLonger", unfollowed := true, recurses := true, plainKeys := false, apart := false, narrowed := true }
def HomeLongerUptoSaid : Prop := homeLongerUptoRow.holds Try.pinned (OpenSpec.upto homeLongerSpec)

/-- 'mizmazelaw08.HomeShortest', WHERE WHAT IT READS IS OF BULK AT MOST 1048576: true; the input reads as it did. -/
def homeShortestUptoRow : OpenClaim := { program := "ytkpoffjimfiabaa", sum := "6d298a144610649f0df3f851a3b1aa4ec8f9600ea8dd09f12e76ca4c307bcce3", func := "mizmaze/mizmazelaw08.HomeShortest", spec := "homeShortest", unfollowed := true, recurses := true, plainKeys := false, apart := false, narrowed := true }
def HomeShortestUptoSaid : Prop := homeShortestUptoRow.holds Try.pinned (OpenSpec.upto homeShortestSpec)

/-- 'mizmazelaw08.HomeShorter', WHERE WHAT IT READS IS OF BULK AT MOST 1048576: true; the input reads as it did. -/
def homeShorterUptoRow : OpenClaim := { program := "ytkpoffjimfiabaa", sum := "6d298a144610649f0df3f851a3b1aa4ec8f9600ea8dd09f12e76ca4c307bcce3", func := "mizmaze/mizmazelaw08.HomeShorter", spec := "homeShorter", unfollowed := true, recurses := true, plainKeys := false, apart := false, narrowed := true }
def HomeShorterUptoSaid : Prop := homeShorterUptoRow.holds Try.pinned (OpenSpec.upto homeShorterSpec)

/-- 'mizmazelaw08.HomeAfter', WHERE WHAT IT READS IS OF BULK AT MOST 1048576: true; the input reads as it did. -/
def homeAfterUptoRow : OpenClaim := { program := "ytkpoffjimfiabaa", sum := "6d298a144610649f0df3f851a3b1aa4ec8f9600ea8dd09f12e76ca4c307bcce3", func := "mizmaze/mizmazelaw08.HomeAfter", spec := "homeAfter", unfollowed := true, recurses := true, plainKeys := false, apart := false, narrowed := true }
def HomeAfterUptoSaid : Prop := homeAfterUptoRow.holds Try.pinned (OpenSpec.upto homeAfterSpec)

/-- 'mizmazelaw08.HomeResets', WHERE WHAT IT READS IS OF BULK AT MOST 1048576: true; the input reads as it did. -/
def homeResetsUptoRow : OpenClaim := { program := "ytkpoffjimfiabaa", sum := "6d298a144610649f0df3f851a3b1aa4ec8f9600ea8dd09f12e76ca4c307bcce3", func := "mizmaze/mizmazelaw08.HomeResets", spec := "homeResets", unfollowed := true, recurses := true, plainKeys := false, apart := false, narrowed := true }
def HomeResetsUptoSaid : Prop := homeResetsUptoRow.holds Try.pinned (OpenSpec.upto homeResetsSpec)

/-- 'mizmazelaw08.HomeSeek', WHERE WHAT IT READS IS OF BULK AT MOST 1048576: true; the input reads as it did. -/
def homeSeekUptoRow : OpenClaim := { program := "ytkpoffjimfiabaa", sum := "6d298a144610649f0df3f851a3b1aa4ec8f9600ea8dd09f12e76ca4c307bcce3", func := "mizmaze/mizmazelaw08.HomeSeek", spec := "homeSeek", unfollowed := true, recurses := true, plainKeys := false, apart := false, narrowed := true }
def HomeSeekUptoSaid : Prop := homeSeekUptoRow.holds Try.pinned (OpenSpec.upto homeSeekSpec)

/-- 'mizmazetop.TopFound', WHERE WHAT IT READS IS OF BULK AT MOST 1048576: true; the input reads as it did. -/
def topFoundUptoRow : OpenClaim := { program := "ytkpoffjimfiabaa", sum := "6d298a144610649f0df3f851a3b1aa4ec8f9600ea8dd09f12e76ca4c307bcce3", func := "mizmaze/mizmazetop.TopFound", spec := "topFound", unfollowed := true, recurses := true, plainKeys := false, apart := false, narrowed := true }
def TopFoundUptoSaid : Prop := topFoundUptoRow.holds Try.pinned (OpenSpec.upto topFoundSpec)

end Rows
end Go.Proofs.Ytkpoffjimfiabaa
