/- AM: ranges over functions that ask something of the heap which each round keeps up. -/
import Derived.Test.YtgdcbjpookldoaaDoorAMOps6
set_option linter.unusedSimpArgs false
set_option linter.unusedVariables false
namespace Go.AM
variable {P : Program} {prims : Prims}

end Go.AM
