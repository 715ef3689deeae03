/- AM: append within the room there is; clear. -/
import Derived.Test.YtgdcbjpookldoaaDoorAMOps4
set_option linter.unusedSimpArgs false
set_option linter.unusedVariables false
namespace Go.AM
variable {P : Program} {prims : Prims}

/-! ### Bounds of a cut, by whole numbers -/
section
variable {n cap : Nat} {k k' k'' : IntKind} {l m q : Int}
theorem slbs_lo_i (h0 : 0 ≤ l) (h1 : l ≤ n) : aSliceBounds n cap (some (.int k l)) none none = some (l.toNat, n, cap) := slbs_lo (slb h0 h1)
theorem slbs_hi_i (h0 : 0 ≤ m) (h1 : m ≤ cap) : aSliceBounds n cap none (some (.int k m)) none = some (0, m.toNat, cap) := slbs_hi (slb h0 h1)
theorem slbs_lh_i (h0 : 0 ≤ l) (h1 : l ≤ m) (h2 : m ≤ cap) : aSliceBounds n cap (some (.int k l)) (some (.int k' m)) none = some (l.toNat, m.toNat, cap) := slbs_lh (slb (by omega) h2) (slb h0 (by omega))
end

/-! ### Bytes as a string -/
end Go.AM
