/- WP: loose readers that turn numbers, or read structs of three numbers out of slices. -/
import Derived.Test.YtgdcbjpookldoaaDoorAMOps7
set_option linter.unusedSimpArgs false
set_option linter.unusedVariables false
namespace Go.AM
variable {P : Program}

end Go.AM
