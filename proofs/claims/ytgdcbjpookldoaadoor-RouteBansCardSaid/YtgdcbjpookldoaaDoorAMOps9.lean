/- WP: arrays that stand in slices. -/
import Derived.Test.YtgdcbjpookldoaaDoorAMOps8
set_option linter.unusedSimpArgs false
set_option linter.unusedVariables false
namespace Go.AM
variable {P : Program}

theorem Rd.aa {h : AHeap} {e : TypeId} {sz n : Nat} {s : Value} {cs : List Value} (x : Rd h e sz s n cs) {t : TypeId} {m es : Nat} (ht : arI P t = some (m, es)) (k : IntKind) (i : Int) (j : Nat) (hj : j < n) (h0 : 0 ≤ i) (h1 : i < m) : aIndexAddr P t (elP s sz j) (.int k i) = some (elF s sz j (i.toNat * es)) := by
  rcases x with ⟨rfl, rfl, _⟩ | ⟨id, off, cap, c, e', o', rfl, b, hg, _⟩
  · omega
  · unfold elP elF
    simp only
    rw [ia_array ht, iaA_ok h0 h1]

end Go.AM
