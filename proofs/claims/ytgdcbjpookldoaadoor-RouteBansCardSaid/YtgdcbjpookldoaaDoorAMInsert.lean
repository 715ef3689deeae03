/- AM: slices.Insert. First: what stands for it. -/
import Derived.Test.YtgdcbjpookldoaaDoorAMLaw
set_option linter.unusedSimpArgs false
set_option linter.unusedVariables false
namespace Go.AM

/-! ### What the model's own run of it does -/

variable {P : Program} {B : Nat} {μ : Map} {h : AHeap} {w : World}

end Go.AM
