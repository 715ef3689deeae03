/- AM: append within the room there is; clear. -/
import Derived.Test.YtbaohngkapmhlaaDoorAMOps4
set_option linter.unusedSimpArgs false
set_option linter.unusedVariables false
namespace Go.AM
variable {P : Program} {prims : Prims}

theorem bsW_agg2 {ty e : TypeId} {sz : Nat} (hb : bsI P ty = some (e, sz)) (h : AHeap) (K : VQ) (l l' : List Value) (hl : l.length = sz) (hl' : l'.length = sz) (hz : sz ≤ 524288) (h1 : l.all (·.oneCell') = true) (h1' : l'.all (·.oneCell') = true) : bsW P ty 2 [(0, .agg l.toArray), (1, .agg l'.toArray)] h K = K (.slice (some ⟨h.next, 0, none⟩) 2 2) (h.alloc (.cells (l ++ l') e false)) :=
  bsW_of hb rfl (by omega) (by rw [flatP_agg _ _ _ _ hl, flatP_agg _ _ _ _ hl', flatP_nil]; simp) (by rw [List.all_append, h1, h1']; rfl)

/-! ### Bounds of a cut, by whole numbers -/
section
variable {n cap : Nat} {k k' k'' : IntKind} {l m q : Int}
theorem slbs_lo_i (h0 : 0 ≤ l) (h1 : l ≤ n) : aSliceBounds n cap (some (.int k l)) none none = some (l.toNat, n, cap) := slbs_lo (slb h0 h1)
theorem slbs_hi_i (h0 : 0 ≤ m) (h1 : m ≤ cap) : aSliceBounds n cap none (some (.int k m)) none = some (0, m.toNat, cap) := slbs_hi (slb h0 h1)
theorem slbs_lh_i (h0 : 0 ≤ l) (h1 : l ≤ m) (h2 : m ≤ cap) : aSliceBounds n cap (some (.int k l)) (some (.int k' m)) none = some (l.toNat, m.toNat, cap) := slbs_lh (slb (by omega) h2) (slb h0 (by omega))
end

/-! ### Bytes as a string -/
end Go.AM
