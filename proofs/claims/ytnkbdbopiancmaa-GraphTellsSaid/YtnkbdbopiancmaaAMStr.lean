/- AM: strings as lists of bytes. -/
import Derived.Test.YtnkbdbopiancmaaAMIter2
import Derived.Laws.Externs
set_option linter.unusedSimpArgs false
set_option linter.unusedVariables false
namespace Go.AM
variable {P : Program} {prims : Prims}

/-! ### Loads that stay the same -/
theorem stabL_string {hk : AHeap} {t : TypeId} {id off n : Nat} {s : ByteArray} (hid : id < n) (hl : aLoad P hk t (.pointer (some ⟨id, off, none⟩)) = some (.string s)) : stabL P hk t (.pointer (some ⟨id, off, none⟩)) n (.string s) :=
  ⟨id, off, rfl, hid, hl, sameV_string _ _, by simp [belowV]⟩
theorem stabL_bool {hk : AHeap} {t : TypeId} {id off n : Nat} {b : Bool} (hid : id < n) (hl : aLoad P hk t (.pointer (some ⟨id, off, none⟩)) = some (.bool b)) : stabL P hk t (.pointer (some ⟨id, off, none⟩)) n (.bool b) :=
  ⟨id, off, rfl, hid, hl, sameV_bool _ _, by simp [belowV]⟩
theorem Rd.stab {h : AHeap} {e : TypeId} {sz n : Nat} {s : Value} {cs : List Value} (x : Rd h e sz s n cs) {m : Nat} (hm : h.next ≤ m) : sameV 20 s s = true ∧ belowV m 20 s = true := by
  rcases x with ⟨rfl, _⟩ | ⟨id, off, cap, c, e', o, rfl, _, hg, _⟩
  · exact ⟨sameV_snil _ _ _, rfl⟩
  · have := get_some_lt hg
    exact ⟨sameV_slice _ _ _ _ _, by simp [belowV]; omega⟩
theorem stabL_rd {h hk : AHeap} {t e : TypeId} {id off n m sz : Nat} {s : Value} {cs : List Value} (x : Rd h e sz s n cs) (hm : h.next ≤ m) (hid : id < m) (hl : aLoad P hk t (.pointer (some ⟨id, off, none⟩)) = some s) : stabL P hk t (.pointer (some ⟨id, off, none⟩)) m s :=
  ⟨id, off, rfl, hid, hl, (x.stab hm).1, (x.stab hm).2⟩
theorem stabL_el {h hk : AHeap} {t e : TypeId} {n m sz j : Nat} {s v : Value} {cs : List Value} (x : Rd h e sz s n cs) (hj : j < n) (hm : h.next ≤ m) (hv : sameV 20 v v = true) (hb : belowV m 20 v = true) (hl : aLoad P hk t (elP s sz j) = some v) : stabL P hk t (elP s sz j) m v := by
  rcases x with ⟨rfl, rfl, _⟩ | ⟨id, off, cap, c, e', o, rfl, _, hg, _⟩
  · omega
  · have := get_some_lt hg
    have e1 : elP (.slice (some ⟨id, off, none⟩) n cap) sz j = .pointer (some ⟨id, off + j * sz, none⟩) := by unfold elP; rfl
    rw [e1] at hl ⊢
    exact ⟨id, _, rfl, by omega, hl, hv, hb⟩
theorem stabL_elS {h hk : AHeap} {t e : TypeId} {n m sz j : Nat} {s : Value} {cs : List Value} {b : ByteArray} (x : Rd h e sz s n cs) (hj : j < n) (hm : h.next ≤ m) (hl : aLoad P hk t (elP s sz j) = some (.string b)) : stabL P hk t (elP s sz j) m (.string b) := stabL_el x hj hm (sameV_string _ _) (by simp [belowV]) hl
theorem stabL_elI {h hk : AHeap} {t e : TypeId} {n m sz j : Nat} {s : Value} {cs : List Value} {k : IntKind} {b : Int} (x : Rd h e sz s n cs) (hj : j < n) (hm : h.next ≤ m) (hl : aLoad P hk t (elP s sz j) = some (.int k b)) : stabL P hk t (elP s sz j) m (.int k b) := stabL_el x hj hm (sameV_int _ _ _) (by simp [belowV]) hl
theorem stable_len (env : Env) (x : Operand) (ty : TypeId) (hk : AHeap) (n : Nat) (a : Int) (hh : ∀ h, aLen P h ty (evalE env x) = some (.int .i64 a)) : stable P (evalE env) (.call { callee := .builtin .len, args := #[x], argTypes := #[ty] }) hk n (.int .i64 a) = true := by
  have e : ∀ h, aOp P (evalE env) (.call { callee := .builtin .len, args := #[x], argTypes := #[ty] }) h = some (.int .i64 a, h) := fun h => by
    show (aLen P h ty (evalE env x)).map (fun v => (v, h)) = _
    rw [hh]; rfl
  unfold stable
  rw [e]
  simp [sameV, belowV]

end Go.AM
