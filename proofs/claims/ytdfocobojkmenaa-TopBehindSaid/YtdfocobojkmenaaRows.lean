/-
  No cell of these rows narrows 'for every input' (looked for: loops, veiled, ifaces, maps, wideKeys, modest, calm, conditions, laid).
  DERIVED. THE GIVEN ROWS OF THIS SEAT. 7 by the template 'for every input the law returns true; each argument reads behind the call as it read before'; 0 by the template 'total and deterministic' (their statements: YtdfocobojkmenaaTotals.lean).
  GIVEN WITH THE SEED: the statements are not yours to turn. If you find one false, say at which input.
  Laid BY PROGRAM, IN A SANDBOX (cutbox-rows.mjs): the forced cells as the released guide's own fill.sh prints them over the translation 518db412a0d9f75e… (all of the seat's roots in one cut). By AI agents, Wed Nov 11 2026. No macro, syntax, notation, axiom, sorry.
-/
import Derived.Test.YtdfocobojkmenaaChecked
import GoSem.Claim
import GoSem.ClaimJoined
import GoSem.ClaimMapViews
import Derived.JoinedTies
import Derived.KernelRfl
namespace Go.Proofs.Ytdfocobojkmenaa
/- THE CELL 'sum', in the pinned program and in every row, IS THE sha256 OF THE DUMP (.gsa) THAT YtdfocobojkmenaaProg.lean LOADS. Nothing in Lean hashes anything: it is a label: what it is worth is what the hold of that sum in a sandbox is worth. -/
noncomputable def Try.pinned : Pinned := { name := "ytdfocobojkmenaa", sum := "518db412a0d9f75e60e02376a8e9b9f908e13f908187af12052e4c8a46ea5e06", checked := Try.checked }
namespace Rows
def none {H : Type} : Left H := { results := [], args := [] }

/-- 'mizmazelaw09.CheckCovers': WHATEVER THE INPUT: true; the input reads as it did. -/
def checkCoversSpec : ChangeSpec := { name := "checkCovers", fn := fun _ => fun
  | [d] => { results := [.lit (.bool true)], args := [d] }
  | _ => none }
def checkCoversRow : OpenClaim := { program := "ytdfocobojkmenaa", sum := "518db412a0d9f75e60e02376a8e9b9f908e13f908187af12052e4c8a46ea5e06", func := "mizmaze/mizmazelaw09.CheckCovers", spec := "checkCovers", unfollowed := true, recurses := true, plainKeys := false, apart := false }
def CheckCoversSaid : Prop := checkCoversRow.holds Try.pinned (OpenSpec.ofChange checkCoversSpec)

/-- ITS FALSE NEIGHBOUR: 'it returns false'. Refute it at one input. -/
def checkCoversWrong : ChangeSpec := { name := "checkCovers", fn := fun _ => fun
  | [d] => { results := [.lit (.bool false)], args := [d] }
  | _ => none }
def CheckCoversWrongFalsely : Prop := checkCoversRow.holds Try.pinned (OpenSpec.ofChange checkCoversWrong)

/-- 'mizmazelaw09.CheckSuites': WHATEVER THE INPUT: true; the input reads as it did. -/
def checkSuitesSpec : ChangeSpec := { name := "checkSuites", fn := fun _ => fun
  | [d1, d2] => { results := [.lit (.bool true)], args := [d1, d2] }
  | _ => none }
def checkSuitesRow : OpenClaim := { program := "ytdfocobojkmenaa", sum := "518db412a0d9f75e60e02376a8e9b9f908e13f908187af12052e4c8a46ea5e06", func := "mizmaze/mizmazelaw09.CheckSuites", spec := "checkSuites", unfollowed := true, recurses := true, plainKeys := false, apart := false }
def CheckSuitesSaid : Prop := checkSuitesRow.holds Try.pinned (OpenSpec.ofChange checkSuitesSpec)

/-- ITS FALSE NEIGHBOUR: 'it returns false'. Refute it at one input. -/
def checkSuitesWrong : ChangeSpec := { name := "checkSuites", fn := fun _ => fun
  | [d1, d2] => { results := [.lit (.bool false)], args := [d1, d2] }
  | _ => none }
def CheckSuitesWrongFalsely : Prop := checkSuitesRow.holds Try.pinned (OpenSpec.ofChange checkSuitesWrong)

/-- 'mizmazelaw09.CheckMore': WHATEVER THE INPUT: true; the input reads as it did. -/
def checkMoreSpec : ChangeSpec := { name := "checkMore", fn := fun _ => fun
  | [d1, d2] => { results := [.lit (.bool true)], args := [d1, d2] }
  | _ => none }
def checkMoreRow : OpenClaim := { program := "ytdfocobojkmenaa", sum := "518db412a0d9f75e60e02376a8e9b9f908e13f908187af12052e4c8a46ea5e06", func := "mizmaze/mizmazelaw09.CheckMore", spec := "checkMore", unfollowed := true, recurses := true, plainKeys := false, apart := false }
def CheckMoreSaid : Prop := checkMoreRow.holds Try.pinned (OpenSpec.ofChange checkMoreSpec)

/-- ITS FALSE NEIGHBOUR: 'it returns false'. Refute it at one input. -/
def checkMoreWrong : ChangeSpec := { name := "checkMore", fn := fun _ => fun
  | [d1, d2] => { results := [.lit (.bool false)], args := [d1, d2] }
  | _ => none }
def CheckMoreWrongFalsely : Prop := checkMoreRow.holds Try.pinned (OpenSpec.ofChange checkMoreWrong)

/-- 'mizmazelaw09.CheckPasses': WHATEVER THE INPUT: true; the input reads as it did. -/
def checkPassesSpec : ChangeSpec := { name := "checkPasses", fn := fun _ => fun
  | [d1, d2, d3] => { results := [.lit (.bool true)], args := [d1, d2, d3] }
  | _ => none }
def checkPassesRow : OpenClaim := { program := "ytdfocobojkmenaa", sum := "518db412a0d9f75e60e02376a8e9b9f908e13f908187af12052e4c8a46ea5e06", func := "mizmaze/mizmazelaw09.CheckPasses", spec := "checkPasses", unfollowed := true, recurses := true, plainKeys := false, apart := false }
def CheckPassesSaid : Prop := checkPassesRow.holds Try.pinned (OpenSpec.ofChange checkPassesSpec)

/-- ITS FALSE NEIGHBOUR: 'it returns false'. Refute it at one input. -/
def checkPassesWrong : ChangeSpec := { name := "checkPasses", fn := fun _ => fun
  | [d1, d2, d3] => { results := [.lit (.bool false)], args := [d1, d2, d3] }
  | _ => none }
def CheckPassesWrongFalsely : Prop := checkPassesRow.holds Try.pinned (OpenSpec.ofChange checkPassesWrong)

/-- 'mizmazelaw09.CheckFaults': WHATEVER THE INPUT: true; the input reads as it did. -/
def checkFaultsSpec : ChangeSpec := { name := "checkFaults", fn := fun _ => fun
  | [d1, d2, d3] => { results := [.lit (.bool true)], args := [d1, d2, d3] }
  | _ => none }
def checkFaultsRow : OpenClaim := { program := "ytdfocobojkmenaa", sum := "518db412a0d9f75e60e02376a8e9b9f908e13f908187af12052e4c8a46ea5e06", func := "mizmaze/mizmazelaw09.CheckFaults", spec := "checkFaults", unfollowed := true, recurses := true, plainKeys := false, apart := false }
def CheckFaultsSaid : Prop := checkFaultsRow.holds Try.pinned (OpenSpec.ofChange checkFaultsSpec)

/-- ITS FALSE NEIGHBOUR: 'it returns false'. Refute it at one input. -/
def checkFaultsWrong : ChangeSpec := { name := "checkFaults", fn := fun _ => fun
  | [d1, d2, d3] => { results := [.lit (.bool false)], args := [d1, d2, d3] }
  | _ => none }
def CheckFaultsWrongFalsely : Prop := checkFaultsRow.holds Try.pinned (OpenSpec.ofChange checkFaultsWrong)

/-- 'mizmazelaw09.CheckOwn': WHATEVER THE INPUT: true; the input reads as it did. -/
def checkOwnSpec : ChangeSpec := { name := "checkOwn", fn := fun _ => fun
  | [d1, d2, d3] => { results := [.lit (.bool true)], args := [d1, d2, d3] }
  | _ => none }
def checkOwnRow : OpenClaim := { program := "ytdfocobojkmenaa", sum := "518db412a0d9f75e60e02376a8e9b9f908e13f908187af12052e4c8a46ea5e06", func := "mizmaze/mizmazelaw09.CheckOwn", spec := "checkOwn", unfollowed := true, recurses := true, plainKeys := false, apart := false }
def CheckOwnSaid : Prop := checkOwnRow.holds Try.pinned (OpenSpec.ofChange checkOwnSpec)

/-- ITS FALSE NEIGHBOUR: 'it returns false'. Refute it at one input. -/
def checkOwnWrong : ChangeSpec := { name := "checkOwn", fn := fun _ => fun
  | [d1, d2, d3] => { results := [.lit (.bool false)], args := [d1, d2, d3] }
  | _ => none }
def CheckOwnWrongFalsely : Prop := checkOwnRow.holds Try.pinned (OpenSpec.ofChange checkOwnWrong)

/-- 'mizmazetop.TopBehind': WHATEVER THE INPUT: true; the input reads as it did. -/
def topBehindSpec : ChangeSpec := { name := "topBehind", fn := fun _ => fun
  | [d1, d2, d3] => { results := [.lit (.bool true)], args := [d1, d2, d3] }
  | _ => none }
def topBehindRow : OpenClaim := { program := "ytdfocobojkmenaa", sum := "518db412a0d9f75e60e02376a8e9b9f908e13f908187af12052e4c8a46ea5e06", func := "mizmaze/mizmazetop.TopBehind", spec := "topBehind", unfollowed := true, recurses := true, plainKeys := false, apart := false }
def TopBehindSaid : Prop := topBehindRow.holds Try.pinned (OpenSpec.ofChange topBehindSpec)

/-- ITS FALSE NEIGHBOUR: 'it returns false'. Refute it at one input. -/
def topBehindWrong : ChangeSpec := { name := "topBehind", fn := fun _ => fun
  | [d1, d2, d3] => { results := [.lit (.bool false)], args := [d1, d2, d3] }
  | _ => none }
def TopBehindWrongFalsely : Prop := topBehindRow.holds Try.pinned (OpenSpec.ofChange topBehindWrong)

/- THE SECOND FORM. 'bulk': how many values and letters a reading holds, each counted each time it is reached (what is shared counts as often as it is met; a slice's spare places count too). A statement '..UptoSaid' is the law's where the arguments, and the package variables that the reading takes, are together of bulk at most 1048576: NARROWER than '..Said'. Prove '..Said' where nothing that the law and all that it calls make is longer than what came in: it says more and counts as full. Else prove '..UptoSaid'. A law counts once. -/
mutual
def uptoBulk {H : Type} : DataW H → Nat
  | .lit (.string bytes) => bytes.length + 1
  | .lit _ => 1
  | .nil => 1
  | .ptr d => uptoBulk d + 1
  | .slice elems spare => uptoBulkAll elems + uptoBulkAll spare + 1
  | .agg parts => uptoBulkAll parts + 1
  | .iface _ d => uptoBulk d + 1
  | .map entries => uptoBulkEntries entries + 1
  | .held _ => 1
def uptoBulkAll {H : Type} : List (DataW H) → Nat
  | [] => 0
  | d :: r => uptoBulk d + uptoBulkAll r
def uptoBulkEntries {H : Type} : List (Lit × DataW H) → Nat
  | [] => 0
  | x :: r => uptoBulkEntry x + uptoBulkEntries r
def uptoBulkEntry {H : Type} : Lit × DataW H → Nat
  | (.string bytes, d) => bytes.length + uptoBulk d + 1
  | (_, d) => uptoBulk d + 1
 end
def uptoSmall : (H : Type) → List (DataW H) → Bool := fun _ ds => decide (uptoBulkAll ds ≤ 1048576)
def OpenSpec.upto (s : _root_.Go.ChangeSpec) : _root_.Go.OpenSpec := { _root_.Go.OpenSpec.ofChange s with cond := some uptoSmall }

/-- 'mizmazelaw09.CheckCovers', WHERE WHAT IT READS IS OF BULK AT MOST 1048576: true; the input reads as it did. -/
def checkCoversUptoRow : OpenClaim := { program := "ytdfocobojkmenaa", sum := "518db412a0d9f75e60e02376a8e9b9f908e13f908187af12052e4c8a46ea5e06", func := "mizmaze/mizmazelaw09.CheckCovers", spec := "checkCovers", unfollowed := true, recurses := true, plainKeys := false, apart := false, narrowed := true }
def CheckCoversUptoSaid : Prop := checkCoversUptoRow.holds Try.pinned (OpenSpec.upto checkCoversSpec)

/-- 'mizmazelaw09.CheckSuites', WHERE WHAT IT READS IS OF BULK AT MOST 1048576: true; the input reads as it did. -/
def checkSuitesUptoRow : OpenClaim := { program := "ytdfocobojkmenaa", sum := "518db412a0d9f75e60e02376a8e9b9f908e13f908187af12052e4c8a46ea5e06", func := "mizmaze/mizmazelaw09.CheckSuites", spec := "checkSuites", unfollowed := true, recurses := true, plainKeys := false, apart := false, narrowed := true }
def CheckSuitesUptoSaid : Prop := checkSuitesUptoRow.holds Try.pinned (OpenSpec.upto checkSuitesSpec)

/-- 'mizmazelaw09.CheckMore', WHERE WHAT IT READS IS OF BULK AT MOST 1048576: true; the input reads as it did. -/
def checkMoreUptoRow : OpenClaim := { program := "ytdfocobojkmenaa", sum := "518db412a0d9f75e60e02376a8e9b9f908e13f908187af12052e4c8a46ea5e06", func := "mizmaze/mizmazelaw09.CheckMore", spec := "checkMore", unfollowed := true, recurses := true, plainKeys := false, apart := false, narrowed := true }
def CheckMoreUptoSaid : Prop := checkMoreUptoRow.holds Try.pinned (OpenSpec.upto checkMoreSpec)

/-- 'mizmazelaw09.CheckPasses', WHERE WHAT IT READS IS OF BULK AT MOST 1048576: true; the input reads as it did. -/
def checkPassesUptoRow : OpenClaim := { program := "ytdfocobojkmenaa", sum := "518db412a0d9f75e60e02376a8e9b9f908e13f908187af12052e4c8a46ea5e06", func := "mizmaze/mizmazelaw09.CheckPasses", spec := "checkPasses", unfollowed := true, recurses := true, plainKeys := false, apart := false, narrowed := true }
def CheckPassesUptoSaid : Prop := checkPassesUptoRow.holds Try.pinned (OpenSpec.upto checkPassesSpec)

/-- 'mizmazelaw09.CheckFaults', WHERE WHAT IT READS IS OF BULK AT MOST 1048576: true; the input reads as it did. -/
def checkFaultsUptoRow : OpenClaim := { program := "ytdfocobojkmenaa", sum := "518db412a0d9f75e60e02376a8e9b9f908e13f908187af12052e4c8a46ea5e06", func := "mizmaze/mizmazelaw09.CheckFaults", spec := "checkFaults", unfollowed := true, recurses := true, plainKeys := false, apart := false, narrowed := true }
def CheckFaultsUptoSaid : Prop := checkFaultsUptoRow.holds Try.pinned (OpenSpec.upto checkFaultsSpec)

/-- 'mizmazelaw09.CheckOwn', WHERE WHAT IT READS IS OF BULK AT MOST 1048576: true; the input reads as it did. -/
def checkOwnUptoRow : OpenClaim := { program := "ytdfocobojkmenaa", sum := "518db412a0d9f75e60e02376a8e9b9f908e13f908187af12052e4c8a46ea5e06", func := "mizmaze/mizmazelaw09.CheckOwn", spec := "checkOwn", unfollowed := true, recurses := true, plainKeys := false, apart := false, narrowed := true }
def CheckOwnUptoSaid : Prop := checkOwnUptoRow.holds Try.pinned (OpenSpec.upto checkOwnSpec)

/-- 'mizmazetop.TopBehind', WHERE WHAT IT READS IS OF BULK AT MOST 1048576: true; the input reads as it did. -/
def topBehindUptoRow : OpenClaim := { program := "ytdfocobojkmenaa", sum := "518db412a0d9f75e60e02376a8e9b9f908e13f908187af12052e4c8a46ea5e06", func := "mizmaze/mizmazetop.TopBehind", spec := "topBehind", unfollowed := true, recurses := true, plainKeys := false, apart := false, narrowed := true }
def TopBehindUptoSaid : Prop := topBehindUptoRow.holds Try.pinned (OpenSpec.upto topBehindSpec)

end Rows
end Go.Proofs.Ytdfocobojkmenaa
