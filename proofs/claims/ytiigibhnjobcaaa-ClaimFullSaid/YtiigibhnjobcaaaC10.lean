/- A text of this claim: walks, or plain law. -/
import Derived.Test.YtiigibhnjobcaaaC9
set_option linter.unusedSimpArgs false
set_option linter.unusedVariables false
namespace Go.Proofs.Ytiigibhnjobcaaa
open Go.AM

/-! ### Plain: what is taken and dropped -/
theorem delC_split {L : List Cm} (hs : Srt L) {x : Int} (hx : (getC L x).isSome = true) : ∃ g, L = L.take (posC L x) ++ (x, g) :: L.drop (posC L x + 1) := by
  obtain ⟨h1, h2⟩ := posC_at hs (x := x) (by rw [hasC_get]; exact hx)
  refine ⟨(L.getD (posC L x) d0).2, ?_⟩
  have e : (x, (L.getD (posC L x) d0).2) = L[posC L x] := by
    have : L.getD (posC L x) d0 = L[posC L x] := by simp [List.getD, h1]
    rw [← this]; exact Prod.ext h2.symm rfl
  rw [e, ← List.drop_eq_getElem_cons h1, List.take_append_drop]
theorem delC_srt {L : List Cm} (hs : Srt L) (x : Int) : Srt (delC L x) := by
  unfold delC
  split
  · exact hs.sublist (List.eraseIdx_sublist _ _)
  · exact hs
theorem delC_get {L : List Cm} (hs : Srt L) (x y : Int) : getC (delC L x) y = if y = x then none else getC L y := by
  unfold delC
  by_cases hx : (getC L x).isSome = true
  · rw [if_pos hx, List.eraseIdx_eq_take_drop_succ]
    obtain ⟨g, e⟩ := delC_split hs hx
    have hp := hs
    rw [e] at hp
    unfold Srt at hp
    rw [List.pairwise_append, List.pairwise_cons] at hp
    obtain ⟨_, ⟨hgt, _⟩, hlt⟩ := hp
    have eL : getC L y = (getC (L.take (posC L x)) y).or (if x = y then some g else getC (L.drop (posC L x + 1)) y) := by
      conv => lhs; rw [e]
      rw [getC_append, getC_cons]
    rw [getC_append, eL]
    by_cases h : y = x
    · subst h
      rw [if_pos rfl, getC_none (fun p hp => by have := hlt p hp (y, g) (by simp); simp only at this; omega), getC_none (fun p hp => by have := hgt p hp; simp only at this; omega)]; rfl
    · rw [if_neg h, if_neg (fun q => h q.symm)]
  · rw [if_neg hx]
    by_cases h : y = x
    · subst h; rw [if_pos rfl]; simpa using hx
    · rw [if_neg h]
theorem delC_length (L : List Cm) (x : Int) : (delC L x).length ≤ L.length := by
  unfold delC
  split
  · exact (List.eraseIdx_sublist _ _).length_le
  · exact Nat.le_refl _
theorem delC_length' {L : List Cm} (hs : Srt L) {x : Int} (hx : (getC L x).isSome = true) : (delC L x).length + 1 = L.length := by
  obtain ⟨h1, _⟩ := posC_at hs (x := x) (by rw [hasC_get]; exact hx)
  unfold delC; rw [if_pos hx, List.length_eraseIdx, if_pos h1]; omega
def Good (L : List Cm) : Prop := Srt L ∧ L.length ≤ 16 ∧ ∀ x, (getC L x).isSome = true → 0 ≤ x ∧ x < 1024
theorem good_nil : Good [] := ⟨List.Pairwise.nil, by simp, fun x h => by cases h⟩
theorem takeR_zero {L : List Cm} {x : Int} : takeR L x = 0 ↔ (0 ≤ x ∧ x < 1024) ∧ getC L x = none ∧ L.length < 16 := by
  unfold takeR
  by_cases h1 : 0 ≤ x ∧ x < 1024
  · rw [if_pos h1]
    cases hg : getC L x with
    | none =>
      by_cases h3 : 16 ≤ L.length
      · simp [h3]
      · simp [h3]; omega
    | some g => simp
  · rw [if_neg h1]; simp; omega
theorem takeL_get {L : List Cm} (hs : Srt L) (x g y : Int) : getC (takeL L x g) y = if takeR L x = 0 ∧ y = x then some g else getC L y := by
  unfold takeL
  by_cases h : takeR L x = 0
  · rw [if_pos h, insC_get hs _ _ _ (takeR_zero.1 h).2.1]
    simp [h]
  · rw [if_neg h, if_neg (fun q => h q.1)]
theorem Good.take {L : List Cm} (h : Good L) (x g : Int) : Good (takeL L x g) := by
  by_cases h0 : takeR L x = 0
  · obtain ⟨h1, h2, h3⟩ := takeR_zero.1 h0
    refine ⟨?_, ?_, fun y hy => ?_⟩
    · unfold takeL; rw [if_pos h0]; exact insC_srt h.1 _ h2
    · unfold takeL; rw [if_pos h0, insC_length]; omega
    · rw [takeL_get h.1] at hy
      by_cases e : y = x
      · subst e; exact h1
      · rw [if_neg (fun q => e q.2)] at hy; exact h.2.2 y hy
  · unfold takeL; rw [if_neg h0]; exact h
theorem Good.del {L : List Cm} (h : Good L) (x : Int) : Good (delC L x) := by
  refine ⟨delC_srt h.1 x, Nat.le_trans (delC_length L x) h.2.1, fun y hy => ?_⟩
  rw [delC_get h.1] at hy
  by_cases e : y = x
  · rw [if_pos e] at hy; cases hy
  · rw [if_neg e] at hy; exact h.2.2 y hy

end Go.Proofs.Ytiigibhnjobcaaa
