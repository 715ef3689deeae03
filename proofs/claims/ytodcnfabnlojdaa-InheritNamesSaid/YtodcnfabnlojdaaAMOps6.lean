/- AM: slices that are made. -/
import Derived.Test.YtodcnfabnlojdaaAMStr
set_option linter.unusedSimpArgs false
set_option linter.unusedVariables false
namespace Go.AM
variable {P : Program} {prims : Prims}

end Go.AM
