/- WP: loose readers that turn numbers, or read structs of three numbers out of slices. -/
import Derived.Test.YtbaohngkapmhlaaDoorAMOps7
set_option linter.unusedSimpArgs false
set_option linter.unusedVariables false
namespace Go.AM
variable {P : Program}

theorem stable_conv (env : Env) (s d : TypeId) (x : Operand) (hk : AHeap) (n : Nat) {k k' : IntKind} {a b : Int} {u : TypeDesc} (hs : P.underlying s = some u) (hd : P.underlying d = some (.int k)) (hx : evalE env x = .int k' a) (hb : k.wrap a = b) : stable P (evalE env) (.convert s d x) hk n (.int k b) = true := by
  have e : ∀ h, aOp P (evalE env) (.convert s d x) h = some (.int k b, h) := fun h => by
    unfold aOp aPure
    simp [aConvert, hs, hd, hx, hb]
  unfold stable
  rw [e]
  simp [sameV, belowV]
theorem stabL_el3 {h hk : AHeap} {t e : TypeId} {n m sz j : Nat} {s : Value} {cs : List Value} {k k' k'' : IntKind} {a b c : Int} (x : Rd h e sz s n cs) (hj : j < n) (hm : h.next ≤ m) (hl : aLoad P hk t (elP s sz j) = some (.agg #[.int k a, .int k' b, .int k'' c])) : stabL P hk t (elP s sz j) m (.agg #[.int k a, .int k' b, .int k'' c]) :=
  stabL_el x hj hm (by simp [sameV]) (by simp [belowV]) hl

end Go.AM
