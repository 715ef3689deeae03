/- AM: append within the room there is; clear. -/
import Derived.Test.YtodcnfabnlojdaaAMOps4
set_option linter.unusedSimpArgs false
set_option linter.unusedVariables false
namespace Go.AM
variable {P : Program} {prims : Prims}

/-! ### Bounds of a cut, by whole numbers -/
section
variable {n cap : Nat} {k k' k'' : IntKind} {l m q : Int}
end

/-! ### Bytes as a string -/
end Go.AM
