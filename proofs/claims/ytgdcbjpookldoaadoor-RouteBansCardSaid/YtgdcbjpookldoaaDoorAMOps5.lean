/- AM: append within the room there is; clear. -/
import Derived.Test.YtgdcbjpookldoaaDoorAMOps4
set_option linter.unusedSimpArgs false
set_option linter.unusedVariables false
namespace Go.AM
variable {P : Program} {prims : Prims}

/-! ### Bounds of a cut, by whole numbers -/
section
variable {n cap : Nat} {k k' k'' : IntKind} {l m q : Int}
theorem slbs_lo_i (h0 : 0 ≤ l) (h1 : l ≤ n) : aSliceBounds n cap (some (.int k l)) none none = some (l.toNat, n, cap) := slbs_lo (slb h0 h1)
theorem slbs_hi_i (h0 : 0 ≤ m) (h1 : m ≤ cap) : aSliceBounds n cap none (some (.int k m)) none = some (0, m.toNat, cap) := slbs_hi (slb h0 h1)
theorem slbs_lh_i (h0 : 0 ≤ l) (h1 : l ≤ m) (h2 : m ≤ cap) : aSliceBounds n cap (some (.int k l)) (some (.int k' m)) none = some (l.toNat, m.toNat, cap) := slbs_lh (slb (by omega) h2) (slb h0 (by omega))
end

/-! ### Bytes as a string -/
def bsOf (l : List Int) : ByteArray := l.foldl (fun s n => s.push (UInt8.ofNat n.toNat)) ByteArray.empty
theorem aBytes_map : ∀ (l : List Int) (s : ByteArray), aBytes (l.map (Value.int .u8)) s = some (l.foldl (fun s n => s.push (UInt8.ofNat n.toNat)) s)
  | [], s => rfl
  | n :: l, s => by rw [List.map_cons, aBytes, aBytes_map l]; rfl
theorem cv_bytes {s d e e' : TypeId} (hs : P.underlying s = some (.slice e)) (he : P.underlying e = some (.int .u8)) (hd : P.underlying d = some .string) {h : AHeap} {v : Value} {n : Nat} {l : List Int} (hr : Rd h e' 1 v n (l.map (.int .u8))) : cvV P h s d v = some (.string (bsOf l)) := by
  obtain ⟨a, cap, rfl⟩ := hr.form
  have h1 : aConvert P s d (.slice a n cap) = none := by unfold aConvert; simp [hs, hd]
  unfold cvV
  rw [h1]
  simp only
  unfold aConvStr
  simp only [hs, hd, he]
  have h2 : aFirst h 1 n (.slice a n cap) = some (l.map (.int .u8)) := by
    rcases hr with ⟨q, rfl, q2⟩ | ⟨id, off, cap', c, e2, o, q, hnc, hg, hf, hd2, _⟩
    · cases q; rw [q2]; rfl
    · cases q
      unfold aFirst
      simp only [hg]
      rw [if_pos hf, hd2]
  rw [h2, Option.bind_some, aBytes_map]; rfl
end Go.AM
