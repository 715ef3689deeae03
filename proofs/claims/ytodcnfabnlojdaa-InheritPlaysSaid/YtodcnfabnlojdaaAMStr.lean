/- AM: strings as lists of bytes. -/
import Derived.Test.YtodcnfabnlojdaaAMIter2
import Derived.Laws.Externs
set_option linter.unusedSimpArgs false
set_option linter.unusedVariables false
namespace Go.AM
variable {P : Program} {prims : Prims}

/-! ### Loads that stay the same -/
theorem stabL_string {hk : AHeap} {t : TypeId} {id off n : Nat} {s : ByteArray} (hid : id < n) (hl : aLoad P hk t (.pointer (some ⟨id, off, none⟩)) = some (.string s)) : stabL P hk t (.pointer (some ⟨id, off, none⟩)) n (.string s) :=
  ⟨id, off, rfl, hid, hl, sameV_string _ _, by simp [belowV]⟩
theorem stabL_bool {hk : AHeap} {t : TypeId} {id off n : Nat} {b : Bool} (hid : id < n) (hl : aLoad P hk t (.pointer (some ⟨id, off, none⟩)) = some (.bool b)) : stabL P hk t (.pointer (some ⟨id, off, none⟩)) n (.bool b) :=
  ⟨id, off, rfl, hid, hl, sameV_bool _ _, by simp [belowV]⟩
theorem stable_len (env : Env) (x : Operand) (ty : TypeId) (hk : AHeap) (n : Nat) (a : Int) (hh : ∀ h, aLen P h ty (evalE env x) = some (.int .i64 a)) : stable P (evalE env) (.call { callee := .builtin .len, args := #[x], argTypes := #[ty] }) hk n (.int .i64 a) = true := by
  have e : ∀ h, aOp P (evalE env) (.call { callee := .builtin .len, args := #[x], argTypes := #[ty] }) h = some (.int .i64 a, h) := fun h => by
    show (aLen P h ty (evalE env x)).map (fun v => (v, h)) = _
    rw [hh]; rfl
  unfold stable
  rw [e]
  simp [sameV, belowV]

end Go.AM
