/- AM: delete from a map with int keys; clear of a map. -/
import Derived.Test.YtgdcbjpookldoaaDoorAMOps9
set_option linter.unusedSimpArgs false
set_option linter.unusedVariables false
namespace Go.AM
variable {P : Program} {prims : Prims}

end Go.AM
