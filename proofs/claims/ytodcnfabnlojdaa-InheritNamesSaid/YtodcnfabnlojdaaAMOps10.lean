/- AM: delete from a map with int keys; clear of a map. -/
import Derived.Test.YtodcnfabnlojdaaAMOps9
set_option linter.unusedSimpArgs false
set_option linter.unusedVariables false
namespace Go.AM
variable {P : Program} {prims : Prims}

def mdelL : List (Int × Value) → Int → List (Int × Value)
  | [], _ => []
  | (k, w) :: l, x => if x = k then l else (k, w) :: mdelL l x
theorem del_enc (x : Int) : ∀ (l : List (Int × Value)) (i : Nat), (aFind (.int .i64 x) (encM l) i = some none ∧ mgetL l x = none) ∨ ∃ j w, aFind (.int .i64 x) (encM l) i = some (some (i + j, w)) ∧ mgetL l x = some w ∧ encM (mdelL l x) = (encM l).eraseIdx j := by
  intro l
  induction l with
  | nil => intro i; exact .inl ⟨rfl, rfl⟩
  | cons p l ih =>
    obtain ⟨k, w⟩ := p
    intro i
    by_cases h : x = k
    · subst h
      refine .inr ⟨0, w, ?_, by simp [mgetL], by simp [mdelL, encM]⟩
      simp [encM, aFind, aKeyEq]
    · have e : aFind (.int .i64 x) (encM ((k, w) :: l)) i = aFind (.int .i64 x) (encM l) (i + 1) := by
        have hb : (x == k) = false := by simp [h]
        simp [encM, aFind, aKeyEq, hb]
      rcases ih (i + 1) with ⟨a, b⟩ | ⟨j, u, a, b, c⟩
      · exact .inl ⟨by rw [e, a], by simp [mgetL, h, b]⟩
      · refine .inr ⟨j + 1, u, by rw [e, a]; congr 3; omega, by simp [mgetL, h, b], ?_⟩
        have e1 : mdelL ((k, w) :: l) x = (k, w) :: mdelL l x := by simp [mdelL, h]
        rw [e1]
        show (Value.int .i64 k, w) :: encM (mdelL l x) = ((Value.int .i64 k, w) :: encM l).eraseIdx (j + 1)
        rw [c]; rfl
theorem delete_enc {h : AHeap} {t : TypeId} {z : Value} (hz : mpI P t = some z) {id : Nat} {l : List (Int × Value)} (hg : h.get id = some (.map (encM l))) (hl : h.low ≤ id) (x : Int) :
    aDelete P h t (.map (some id)) (.int .i64 x) = some (if (mgetL l x).isSome then h.put id (some (.map (encM (mdelL l x)))) else h) := by
  obtain ⟨kt, et, hu, hk, h1, h2⟩ := mpI_el hz
  unfold aDelete
  simp only [hu, hg]
  have hko : aKeyOk P kt (.int .i64 x) = true := by simp [aKeyOk, hk]
  rw [hko]
  have hn : ¬ ((!true || decide (id < h.low)) = true) := by simp; omega
  rw [if_neg hn]
  rcases del_enc x l 0 with ⟨a, b⟩ | ⟨j, w, a, b, c⟩
  · simp only [a, b, Option.bind_some]; rfl
  · simp only [a, b, Option.bind_some, Nat.zero_add]
    rw [c]; rfl
theorem delete_nil {h : AHeap} {t : TypeId} {z : Value} (hz : mpI P t = some z) (x : Int) : aDelete P h t (.map none) (.int .i64 x) = some h := by
  obtain ⟨kt, et, hu, hk, h1, h2⟩ := mpI_el hz
  unfold aDelete
  have hko : aKeyOk P kt (.int .i64 x) = true := by simp [aKeyOk, hk]
  simp only [hu, hko, if_true]
theorem clear_map {h : AHeap} {t : TypeId} {z : Value} (hz : mpI P t = some z) {id : Nat} {l : List (Value × Value)} (hg : h.get id = some (.map l)) (hl : h.low ≤ id) : aClear P h t (.map (some id)) = some (h.put id (some (.map []))) := by
  obtain ⟨kt, et, hu, hk, h1, h2⟩ := mpI_el hz
  unfold aClear
  simp only [hu, hg, if_pos hl]
theorem clear_nilmap {h : AHeap} {t : TypeId} {z : Value} (hz : mpI P t = some z) : aClear P h t (.map none) = some h := by
  obtain ⟨kt, et, hu, hk, h1, h2⟩ := mpI_el hz
  unfold aClear
  simp only [hu]
end Go.AM
