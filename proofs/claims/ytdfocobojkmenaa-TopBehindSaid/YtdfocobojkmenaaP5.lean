/-
  Plain facts on the suite as the reference makes it; no program in sight.
-/
import Derived.Test.YtdfocobojkmenaaP4
set_option linter.unusedVariables false
set_option linter.unusedSimpArgs false
set_option linter.unusedSectionVars false
set_option linter.unnecessarySimpa false

/-! text PlRef -/
section
namespace Go.AM
open Go
/-! the suite as the reference makes it -/
end Go.AM
end
