/- WP: loose readers that turn numbers, or read structs of three numbers out of slices. -/
import Derived.Test.YtbaohngkapmhlaaDoorAMOps7
set_option linter.unusedSimpArgs false
set_option linter.unusedVariables false
namespace Go.AM
variable {P : Program}

theorem stable_conv (env : Env) (s d : TypeId) (x : Operand) (hk : AHeap) (n : Nat) {k k' : IntKind} {a b : Int} {u : TypeDesc} (hs : P.underlying s = some u) (hd : P.underlying d = some (.int k)) (hx : evalE env x = .int k' a) (hb : k.wrap a = b) : stable P (evalE env) (.convert s d x) hk n (.int k b) = true := by
  have e : ∀ h, aOp P (evalE env) (.convert s d x) h = some (.int k b, h) := fun h => by
    unfold aOp aPure
    simp [aConvert, hs, hd, hx, hb]
  unfold stable
  rw [e]
  simp [sameV, belowV]
end Go.AM
