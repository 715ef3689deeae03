/- AM: maps with whole numbers for keys; slices.Insert. -/
import Derived.Test.YtgdcbjpookldoaaDoorAMOps3
import Derived.Test.YtgdcbjpookldoaaDoorAMInsert
set_option linter.unusedSimpArgs false
set_option linter.unusedVariables false
namespace Go.AM
variable {P : Program} {prims : Prims}

/-! ### Maps -/
def encM (l : List (Int × Value)) : List (Value × Value) := l.map fun p => (.int .i64 p.1, p.2)
def mgetL : List (Int × Value) → Int → Option Value
  | [], _ => none
  | (k, v) :: l, x => if x = k then some v else mgetL l x
def msetL : List (Int × Value) → Int → Value → List (Int × Value)
  | [], x, v => [(x, v)]
  | (k, w) :: l, x, v => if x = k then (x, v) :: l else (k, w) :: msetL l x v
theorem mget_set (l : List (Int × Value)) (x : Int) (v : Value) (y : Int) : mgetL (msetL l x v) y = if y = x then some v else mgetL l y := by
  induction l with
  | nil => simp [msetL, mgetL]
  | cons p l ih =>
    obtain ⟨k, w⟩ := p
    unfold msetL
    by_cases h : x = k
    · subst h
      rw [if_pos rfl]
      unfold mgetL
      by_cases h2 : y = x <;> simp [h2]
    · rw [if_neg h]
      unfold mgetL
      rw [ih]
      by_cases h2 : y = k
      · subst h2
        simp [Ne.symm h]
      · simp [h2]
theorem find_enc (x : Int) (v : Value) : ∀ (l : List (Int × Value)) (i : Nat), (aFind (.int .i64 x) (encM l) i = some none ∧ mgetL l x = none ∧ msetL l x v = l ++ [(x, v)]) ∨ ∃ j w, aFind (.int .i64 x) (encM l) i = some (some (i + j, w)) ∧ mgetL l x = some w ∧ msetL l x v = l.set j (x, v)
  | [], i => .inl ⟨rfl, rfl, rfl⟩
  | (k, w) :: l, i => by
    by_cases h : x = k
    · subst h
      refine .inr ⟨0, w, ?_, by simp [mgetL], by simp [msetL]⟩
      simp [encM, aFind, aKeyEq]
    · have e : aFind (.int .i64 x) (encM ((k, w) :: l)) i = aFind (.int .i64 x) (encM l) (i + 1) := by
        have : (x == k) = false := by simp [h]
        simp [encM, aFind, aKeyEq, this]
      rcases find_enc x v l (i + 1) with ⟨a, b, c⟩ | ⟨j, u, a, b, c⟩
      · exact .inl ⟨by rw [e, a], by simp [mgetL, h, b], by simp [msetL, h, c]⟩
      · exact .inr ⟨j + 1, u, by rw [e, a]; congr 3; omega, by simp [mgetL, h, b], by simp [msetL, h, c]⟩

/-- What maps of whole numbers ask of their type: the zero of their elements. -/
def mpI (P : Program) (t : TypeId) : Option Value := match P.underlying t with
  | some (.map kt et) => match P.underlying kt with
    | some (.int .i64) => (aZero P et).bind fun z => if closedV z then some z else none
    | _ => none
  | _ => none
theorem mpI_el {t : TypeId} {z : Value} (h : mpI P t = some z) : ∃ kt et, P.underlying t = some (.map kt et) ∧ P.underlying kt = some (.int .i64) ∧ aZero P et = some z ∧ closedV z = true := by
  unfold mpI at h
  split at h
  · rename_i kt et hu
    split at h
    · rename_i hk
      obtain ⟨z', h1, h2⟩ := Option.bind_eq_some_iff.1 h
      split at h2
      · rename_i hc; cases h2; exact ⟨kt, et, hu, hk, h1, hc⟩
      · cases h2
    · cases h
  · cases h
theorem lookup_enc {h : AHeap} {t : TypeId} {z : Value} (hz : mpI P t = some z) {id : Nat} {l : List (Int × Value)} (hg : h.get id = some (.map (encM l))) (x : Int) : aLookup P h t (.map (some id)) (.int .i64 x) false = some ((mgetL l x).getD z) := by
  obtain ⟨kt, et, hu, hk, h1, h2⟩ := mpI_el hz
  unfold aLookup
  simp only [hu]
  have : aKeyOk P kt (.int .i64 x) = true := by simp [aKeyOk, hk]
  rw [this]
  simp only [aEntries, hg, Option.bind_some]
  rcases find_enc x undef l 0 with ⟨a, b, _⟩ | ⟨j, w, a, b, _⟩
  · simp [a, b, h1, h2]
  · simp [a, b]
theorem lookup_enc2 {h : AHeap} {t : TypeId} {z : Value} (hz : mpI P t = some z) {id : Nat} {l : List (Int × Value)} (hg : h.get id = some (.map (encM l))) (x : Int) : aLookup P h t (.map (some id)) (.int .i64 x) true = some (.tuple #[(mgetL l x).getD z, .bool (mgetL l x).isSome]) := by
  obtain ⟨kt, et, hu, hk, h1, h2⟩ := mpI_el hz
  unfold aLookup
  simp only [hu]
  have : aKeyOk P kt (.int .i64 x) = true := by simp [aKeyOk, hk]
  rw [this]
  simp only [aEntries, hg, Option.bind_some]
  rcases find_enc x undef l 0 with ⟨a, b, _⟩ | ⟨j, w, a, b, _⟩
  · simp [a, b, h1, h2]
  · simp [a, b]
theorem update_enc {h : AHeap} {t : TypeId} {z : Value} (hz : mpI P t = some z) {id : Nat} {l : List (Int × Value)} (hg : h.get id = some (.map (encM l))) (hl : h.low ≤ id) (x : Int) (v : Value) : aMapUpdate P h t (.map (some id)) (.int .i64 x) v = some (h.put id (some (.map (encM (msetL l x v))))) := by
  obtain ⟨kt, et, hu, hk, h1, h2⟩ := mpI_el hz
  unfold aMapUpdate
  simp only [hu, hg]
  have hko : aKeyOk P kt (.int .i64 x) = true := by simp [aKeyOk, hk]
  rw [hko]
  have hn : ¬ ((!true || decide (id < h.low)) = true) := by simp; omega
  rw [if_neg hn]
  rcases find_enc x v l 0 with ⟨a, _, c⟩ | ⟨j, w, a, _, c⟩
  · simp only [a, Option.bind_some]
    rw [c]; simp [encM]
  · simp only [a, Option.bind_some, Nat.zero_add]
    rw [c]; simp [encM, List.map_set]
/-! ### slices.Insert of one element -/
/-! ### Slicing -/
/-- What is cut out of a slice. -/
theorem slc {h : AHeap} {t e : TypeId} {sz id off n cap : Nat} {c : List Value} {o : Bool} (he : elI P t = some (e, sz)) (hg : h.get id = some (.cells c e o)) (lo hi mx : Option Value) : aSliceH P h t (.slice (some ⟨id, off, none⟩) n cap) lo hi mx = (aSliceBounds n cap lo hi mx).map fun p => .slice (some ⟨id, off + p.1 * sz, none⟩) (p.2.1 - p.1) (p.2.2 - p.1) := by
  unfold elI at he
  split at he
  · rename_i e' hu
    obtain ⟨inf, hinf, hie⟩ := Option.map_eq_some_iff.1 he
    cases hie
    unfold aSliceH aSlice
    simp only [hu, hinf, Option.bind_some, hg, if_true]
    cases aSliceBounds n cap lo hi mx with
    | none => rfl
    | some p => rfl
  · cases he
theorem slb {k : IntKind} {i : Int} {y : Nat} (h0 : 0 ≤ i) (h1 : i ≤ y) : aSliceBound (.int k i) y = some i.toNat := by
  unfold aSliceBound; simp only; rw [if_pos ⟨h0, h1⟩]
theorem slbs_lo {n cap : Nat} {v : Value} {l : Nat} (h : aSliceBound v n = some l) : aSliceBounds n cap (some v) none none = some (l, n, cap) := by simp [aSliceBounds, h]
theorem slbs_hi {n cap : Nat} {v : Value} {l : Nat} (h : aSliceBound v cap = some l) : aSliceBounds n cap none (some v) none = some (0, l, cap) := by simp [aSliceBounds, h]
theorem slbs_lh {n cap : Nat} {v w : Value} {l m : Nat} (h : aSliceBound w cap = some m) (h1 : aSliceBound v m = some l) : aSliceBounds n cap (some v) (some w) none = some (l, m, cap) := by simp [aSliceBounds, h, h1]
theorem Ow.cut {h : AHeap} {e : TypeId} {sz id off n cap i j m : Nat} {cs : List Value} (hs : Ow h e sz (.slice (some ⟨id, off, none⟩) n cap) n cs) (hij : i ≤ j) (hjn : j ≤ n) (hm : j ≤ m) (hmc : m ≤ cap) : Ow h e sz (.slice (some ⟨id, off + i * sz, none⟩) (j - i) (m - i)) (j - i) ((cs.drop (i * sz)).take ((j - i) * sz)) := by
  rcases hs with ⟨q, _⟩ | ⟨id', off', cap', c, o, q, hnc, hg, hf, hd, hlo⟩
  · cases q
  · cases q
    refine .inr ⟨id, off + i * sz, m - i, c, o, rfl, by omega, hg, ?_, ?_, hlo⟩
    · have := Nat.mul_le_mul_right sz hmc
      have := Nat.mul_le_mul_right sz (show i ≤ m by omega)
      rw [Nat.sub_mul]; omega
    · rw [← hd, List.drop_take, List.take_take, List.drop_drop]
      congr 1
      rw [← Nat.sub_mul, Nat.min_eq_left (Nat.mul_le_mul_right _ (by omega))]
end Go.AM
