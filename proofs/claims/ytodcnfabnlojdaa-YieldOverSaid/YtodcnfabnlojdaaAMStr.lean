/- AM: strings as lists of bytes. -/
import Derived.Test.YtodcnfabnlojdaaAMIter2
import Derived.Laws.Externs
set_option linter.unusedSimpArgs false
set_option linter.unusedVariables false
namespace Go.AM
variable {P : Program} {prims : Prims}

/-! ### Loads that stay the same -/
end Go.AM
