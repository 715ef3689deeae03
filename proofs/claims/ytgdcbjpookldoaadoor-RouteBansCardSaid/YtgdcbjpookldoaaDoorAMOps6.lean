/- AM: slices that are made. -/
import Derived.Test.YtgdcbjpookldoaaDoorAMStr
set_option linter.unusedSimpArgs false
set_option linter.unusedVariables false
namespace Go.AM
variable {P : Program} {prims : Prims}

def mkO (P : Program) (ty : TypeId) (l c : Value) (next : Nat) : Option (Value × Option AObj) :=
  match P.underlying ty, l, c with
  | some (.slice e), .int _ l, .int _ c =>
    (P.info? e).bind fun i => if 0 ≤ l ∧ l ≤ c ∧ c ≤ roomy ∧ c.toNat * i.bytes ≤ roomy ∧ 0 < i.size then
      (i.zero).bind fun z => if z.cells.size ≠ i.size ∨ z.cells.toList.all plainV = false then none else some (sliceTo next 0 l.toNat c.toNat, some (.cells (repeated z.cells.toList c.toNat) e false)) else none
  | _, _, _ => none
def mkW (P : Program) (ty : TypeId) (l c : Value) (h : AHeap) (K : VQ) : Prop := ∃ p, mkO P ty l c h.next = some p ∧ K p.1 (match p.2 with | none => h | some o => h.alloc o)
theorem op_makeSlice (t : Bool) (v : Value) (vs : List Value) (h : AHeap) (K : VQ) (ty : TypeId) (l c : Operand) : opW P prims t (v :: vs) (.makeSlice ty l c) h K = mkW P ty (evalE (v :: vs) l) (evalE (v :: vs) c) h K := by
  show optR (aOp P _ _ h) K = _
  have e : aPure P (evalE (v :: vs)) (.makeSlice ty l c) h.next = mkO P ty (evalE (v :: vs) l) (evalE (v :: vs) c) h.next := rfl
  unfold aOp mkW
  rw [e]
  cases mkO P ty (evalE (v :: vs) l) (evalE (v :: vs) c) h.next with
  | none => simp [optR, aHeap]
  | some p => obtain ⟨a, b⟩ := p; cases b <;> simp [optR]
def mkI (P : Program) (t : TypeId) : Option (TypeId × Nat × List Value) := match P.underlying t with
  | some (.slice e) => (P.info? e).bind fun i => i.zero.bind fun z => if 0 < i.size ∧ z.cells.size = i.size ∧ z.cells.toList.all plainV = true then some (e, i.bytes, z.cells.toList) else none
  | _ => none
theorem mkW_int {ty e : TypeId} {b : Nat} {z : List Value} (hm : mkI P ty = some (e, b, z)) (k k' : IntKind) (n : Nat) (h1 : n ≤ 4000000000) (h2 : b ≤ 256) (h : AHeap) (K : VQ) : mkW P ty (.int k n) (.int k' n) h K = K (.slice (some ⟨h.next, 0, none⟩) n n) (h.alloc (.cells (repeated z n) e false)) := by
  unfold mkI at hm
  split at hm
  · rename_i e' ht
    obtain ⟨i, hi, hm⟩ := Option.bind_eq_some_iff.1 hm
    obtain ⟨zz, hz, hm⟩ := Option.bind_eq_some_iff.1 hm
    split at hm
    · rename_i hc
      cases hm
      have hf : n * i.bytes ≤ roomy := Nat.le_trans (Nat.mul_le_mul_left n (Nat.le_succ _)) (fits h1 h2)
      have e1 : mkO P ty (.int k n) (.int k' n) h.next = some (sliceTo h.next 0 n n, some (.cells (repeated zz.cells.toList n) e false)) := by
        unfold mkO
        simp only [ht, hi, Option.bind_some, hz, Int.toNat_natCast]
        rw [if_pos ⟨by omega, by omega, by have := fits' h1; omega, hf, hc.1⟩, if_neg (fun q => q.elim (fun q => q hc.2.1) (fun q => by rw [hc.2.2] at q; cases q))]
      unfold mkW
      rw [e1]
      exact propext ⟨fun ⟨p, q1, q2⟩ => by cases q1; exact q2, fun q => ⟨_, rfl, q⟩⟩
    · cases hm
  · cases hm
theorem repeated_one (z : Value) : ∀ n, repeated [z] n = List.replicate n z
  | 0 => rfl
  | n + 1 => by
    show [z] ++ repeated [z] n = _
    rw [repeated_one z n]; rfl
end Go.AM
