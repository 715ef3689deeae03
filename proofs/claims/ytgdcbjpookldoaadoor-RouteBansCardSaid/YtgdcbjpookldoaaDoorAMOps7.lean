/- WP: loose readers of structs of two slices; copy. -/
import Derived.Test.YtgdcbjpookldoaaDoorAMIter3
import Derived.Test.YtgdcbjpookldoaaDoorAMOps6
set_option linter.unusedSimpArgs false
set_option linter.unusedVariables false
namespace Go.AM
variable {P : Program}

end Go.AM
