/- AM: strings as lists of bytes. -/
import Derived.Test.YtodcnfabnlojdaaAMIter2
import Derived.Laws.Externs
set_option linter.unusedSimpArgs false
set_option linter.unusedVariables false
namespace Go.AM
variable {P : Program} {prims : Prims}

/-! ### Loads that stay the same -/
theorem Rd.stab {h : AHeap} {e : TypeId} {sz n : Nat} {s : Value} {cs : List Value} (x : Rd h e sz s n cs) {m : Nat} (hm : h.next ≤ m) : sameV 20 s s = true ∧ belowV m 20 s = true := by
  rcases x with ⟨rfl, _⟩ | ⟨id, off, cap, c, e', o, rfl, _, hg, _⟩
  · exact ⟨sameV_snil _ _ _, rfl⟩
  · have := get_some_lt hg
    exact ⟨sameV_slice _ _ _ _ _, by simp [belowV]; omega⟩
end Go.AM
