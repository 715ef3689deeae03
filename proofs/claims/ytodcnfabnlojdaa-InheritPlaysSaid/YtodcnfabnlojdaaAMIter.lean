/- AM: ranges over functions, by what the function tells. -/
import Derived.Test.YtodcnfabnlojdaaAMLoop
set_option linter.unusedSimpArgs false
set_option linter.unusedVariables false
namespace Go.AM
variable {P : Program} {prims : Prims}

theorem setTmps_nil (t : List Value) : setTmps t [] = t := nrfl rfl
theorem setTmps_cons (t : List Value) (k : Tmp) (v : Value) (l : List (Tmp × Value)) : setTmps t ((k, v) :: l) = setTmps (t.set k v) l := nrfl rfl

def Stab (J : (Nat → Prop) → AHeap → Prop) : Prop := ∀ A A' h1 h2, J A h1 → Fr A h1 h2 → (∀ id, A id → A' id) → (∀ id, A' id → A id ∨ h1.next ≤ id) → J A' h2

theorem Stab.no : Stab (fun _ _ => False) := fun _ _ _ _ h _ _ _ => h

end Go.AM
