/- AM: maps with whole numbers for keys; slices.Insert. -/
import Derived.Test.YtbaohngkapmhlaaDoorAMOps3
import Derived.Test.YtbaohngkapmhlaaDoorAMInsert
set_option linter.unusedSimpArgs false
set_option linter.unusedVariables false
namespace Go.AM
variable {P : Program} {prims : Prims}

/-! ### Maps -/
/-! ### slices.Insert of one element -/
/-! ### Slicing -/
/-- What is cut out of a slice. -/
theorem slc {h : AHeap} {t e : TypeId} {sz id off n cap : Nat} {c : List Value} {o : Bool} (he : elI P t = some (e, sz)) (hg : h.get id = some (.cells c e o)) (lo hi mx : Option Value) : aSliceH P h t (.slice (some ⟨id, off, none⟩) n cap) lo hi mx = (aSliceBounds n cap lo hi mx).map fun p => .slice (some ⟨id, off + p.1 * sz, none⟩) (p.2.1 - p.1) (p.2.2 - p.1) := by
  unfold elI at he
  split at he
  · rename_i e' hu
    obtain ⟨inf, hinf, hie⟩ := Option.map_eq_some_iff.1 he
    cases hie
    unfold aSliceH aSlice
    simp only [hu, hinf, Option.bind_some, hg, if_true]
    cases aSliceBounds n cap lo hi mx with
    | none => rfl
    | some p => rfl
  · cases he
theorem slb {k : IntKind} {i : Int} {y : Nat} (h0 : 0 ≤ i) (h1 : i ≤ y) : aSliceBound (.int k i) y = some i.toNat := by
  unfold aSliceBound; simp only; rw [if_pos ⟨h0, h1⟩]
theorem slbs_lo {n cap : Nat} {v : Value} {l : Nat} (h : aSliceBound v n = some l) : aSliceBounds n cap (some v) none none = some (l, n, cap) := by simp [aSliceBounds, h]
theorem slbs_hi {n cap : Nat} {v : Value} {l : Nat} (h : aSliceBound v cap = some l) : aSliceBounds n cap none (some v) none = some (0, l, cap) := by simp [aSliceBounds, h]
theorem slbs_lh {n cap : Nat} {v w : Value} {l m : Nat} (h : aSliceBound w cap = some m) (h1 : aSliceBound v m = some l) : aSliceBounds n cap (some v) (some w) none = some (l, m, cap) := by simp [aSliceBounds, h, h1]
theorem slbs_lhm {n cap : Nat} {v w x : Value} {l m q : Nat} (h0 : aSliceBound x cap = some q) (h : aSliceBound w q = some m) (h1 : aSliceBound v m = some l) : aSliceBounds n cap (some v) (some w) (some x) = some (l, m, q) := by simp [aSliceBounds, h, h1, h0]
theorem Ow.cut {h : AHeap} {e : TypeId} {sz id off n cap i j m : Nat} {cs : List Value} (hs : Ow h e sz (.slice (some ⟨id, off, none⟩) n cap) n cs) (hij : i ≤ j) (hjn : j ≤ n) (hm : j ≤ m) (hmc : m ≤ cap) : Ow h e sz (.slice (some ⟨id, off + i * sz, none⟩) (j - i) (m - i)) (j - i) ((cs.drop (i * sz)).take ((j - i) * sz)) := by
  rcases hs with ⟨q, _⟩ | ⟨id', off', cap', c, o, q, hnc, hg, hf, hd, hlo⟩
  · cases q
  · cases q
    refine .inr ⟨id, off + i * sz, m - i, c, o, rfl, by omega, hg, ?_, ?_, hlo⟩
    · have := Nat.mul_le_mul_right sz hmc
      have := Nat.mul_le_mul_right sz (show i ≤ m by omega)
      rw [Nat.sub_mul]; omega
    · rw [← hd, List.drop_take, List.take_take, List.drop_drop]
      congr 1
      rw [← Nat.sub_mul, Nat.min_eq_left (Nat.mul_le_mul_right _ (by omega))]
end Go.AM
