/- A text of this claim: the abstract machine. -/
import Derived.Test.YtgdcbjpookldoaaDoorAMLvl
set_option linter.unusedSimpArgs false
set_option linter.unusedVariables false
namespace Go.AM

/-! ### A heap of items (cost, number), least first -/
abbrev It := Int × Int
def leI (a b : It) : Prop := a.1 < b.1 ∨ (a.1 = b.1 ∧ a.2 ≤ b.2)
instance (a b : It) : Decidable (leI a b) := by unfold leI; infer_instance
theorem leI.trans {a b c : It} (h : leI a b) (k : leI b c) : leI a c := by unfold leI at *; omega
theorem leI.total (a b : It) : leI a b ∨ leI b a := by unfold leI; omega
theorem leI.refl (a : It) : leI a a := by unfold leI; omega
theorem leI.not {a b : It} (h : ¬ leI a b) : leI b a := (leI.total a b).resolve_left h
theorem leI.cost {a b : It} (h : leI a b) : a.1 ≤ b.1 := by unfold leI at h; omega
def cmpN (a b : Int) : Int := if a < b then -1 else if a > b then 1 else 0
def cmpI (a b : It) : Int := if cmpN a.1 b.1 ≠ 0 then cmpN a.1 b.1 else cmpN a.2 b.2
theorem cmpI_le (a b : It) : cmpI a b ≤ 0 ↔ leI a b := by unfold cmpI cmpN leI; split <;> (repeat' split) <;> (try omega) <;> simp_all <;> omega
theorem cmpI_lt (a b : It) : cmpI a b < 0 ↔ ¬ leI b a := by unfold cmpI cmpN leI; split <;> (repeat' split) <;> (try omega) <;> simp_all <;> omega

def z0 : It := (0, 0)
abbrev at' (l : List It) (i : Nat) : It := l.getD i z0
theorem at_set (l : List It) (i j : Nat) (v : It) (hj : j < l.length) : at' (l.set i v) j = if i = j then v else at' l j := by
  simp only [at', List.getD, List.getElem?_set]
  by_cases e : i = j
  · subst e; simp [hj]
  · simp [e]
def HeapP (l : List It) : Prop := ∀ j, 0 < j → j < l.length → leI (at' l ((j - 1) / 2)) (at' l j)
theorem HeapP.least {l : List It} (h : HeapP l) : ∀ j, j < l.length → leI (at' l 0) (at' l j) := by
  intro j
  induction j using Nat.strongRecOn with
  | ind j ih =>
    intro hj
    by_cases z : j = 0
    · subst z; exact leI.refl _
    · exact (ih ((j - 1) / 2) (by omega) (by omega)).trans (h j (by omega) hj)
theorem HeapP.least' {l : List It} (h : HeapP l) {y : It} (hy : y ∈ l) : leI (at' l 0) y := by
  obtain ⟨j, hj, rfl⟩ := List.getElem_of_mem hy
  have := h.least j hj
  simpa [at', List.getD, hj] using this
/-- On the way up: x is to lie at i. -/
structure Up (l : List It) (i : Nat) (x : It) : Prop where
  lt : i < l.length
  a : ∀ j, 0 < j → j < l.length → j ≠ i → leI (at' (l.set i x) ((j - 1) / 2)) (at' (l.set i x) j)
  b : ∀ j, 0 < j → j < l.length → (j - 1) / 2 = i → 0 < i → leI (at' l ((i - 1) / 2)) (at' l j)
theorem Up.start {l : List It} (h : HeapP l) (x : It) : Up (l ++ [x]) l.length x := by
  have e : (l ++ [x]).set l.length x = l ++ [x] := by
    rw [List.set_append_right _ _ (Nat.le_refl _), Nat.sub_self]; rfl
  have ga : ∀ j, j < l.length → at' (l ++ [x]) j = at' l j := fun j hj => by simp [at', List.getD, List.getElem?_append_left hj]
  refine ⟨by simp, fun j h0 hj hne => ?_, fun j h0 hj hp _ => by simp at hj; omega⟩
  rw [e]
  have : j < l.length := by simp at hj; omega
  rw [ga j this, ga _ (by omega)]
  exact h j h0 this
theorem swap_perm {l : List It} {i a : Nat} (hi : i < l.length) (ha : a < l.length) (x : It) : ((l.set i (at' l a)).set a x).Perm (l.set i x) := by
  by_cases e : i = a
  · subst e; rw [List.set_set]
  · have h := List.set_set_perm (as := l.set i x) (i := i) (j := a) (by simpa using hi) (by simpa using ha)
    have e1 : (l.set i x)[a]'(by simpa using ha) = at' l a := by
      rw [List.getElem_set_ne e]; simp [at', List.getD, ha]
    have e2 : (l.set i x)[i]'(by simpa using hi) = x := by simp
    rw [e1, e2, List.set_set] at h
    exact h
theorem Up.move {l : List It} {i : Nat} {x : It} (u : Up l i x) (h0 : 0 < i) (hx : ¬ leI (at' l ((i - 1) / 2)) x) : Up (l.set i (at' l ((i - 1) / 2))) ((i - 1) / 2) x := by
  have hi := u.lt
  have ai : (i - 1) / 2 < i := by omega
  obtain ⟨a, ha⟩ : ∃ a, (i - 1) / 2 = a := ⟨_, rfl⟩
  rw [ha] at ai hx ⊢
  have hx' := leI.not hx
  have hal : a < l.length := by omega
  have g0 : ∀ j, j < l.length → at' (l.set i x) j = if i = j then x else at' l j := fun j hj => at_set _ _ _ _ hj
  have g1 : ∀ j, j < l.length → at' (l.set i (at' l a)) j = if i = j then at' l a else at' l j := fun j hj => at_set _ _ _ _ hj
  have g2 : ∀ j, j < l.length → at' ((l.set i (at' l a)).set a x) j = if a = j then x else if i = j then at' l a else at' l j := fun j hj => by
    rw [at_set _ _ _ _ (by simpa using hj)]
    split
    · rfl
    · exact g1 j hj
  have A : ∀ j, 0 < j → j < l.length → j ≠ i → leI (if i = (j - 1) / 2 then x else at' l ((j - 1) / 2)) (at' l j) := fun j q1 q2 q3 => by
    have := u.a j q1 q2 q3
    rw [g0 _ (by omega), g0 _ q2, if_neg (Ne.symm q3)] at this
    exact this
  refine ⟨by rw [List.length_set]; exact hal, fun j q1 q2 q3 => ?_, fun j q1 q2 q3 q4 => ?_⟩
  · rw [List.length_set] at q2
    rw [g2 _ (by omega), g2 j q2, if_neg (Ne.symm q3)]
    by_cases e : i = j
    · subst e
      rw [if_pos rfl, if_pos ha.symm]; exact hx'
    · rw [if_neg e]
      by_cases e2 : a = (j - 1) / 2
      · rw [if_pos e2]
        have := A j q1 q2 (Ne.symm e)
        rw [if_neg (by omega), ← e2] at this
        exact hx'.trans this
      · rw [if_neg e2]
        by_cases e3 : i = (j - 1) / 2
        · rw [if_pos e3]
          have := u.b j q1 q2 e3.symm h0
          rw [ha] at this; exact this
        · rw [if_neg e3]
          have := A j q1 q2 (Ne.symm e)
          rw [if_neg e3] at this; exact this
  · rw [List.length_set] at q2
    rw [g1 _ (by omega), g1 j q2, if_neg (by omega)]
    have hA := A a q4 hal (by omega)
    rw [if_neg (by omega)] at hA
    by_cases e : i = j
    · subst e
      rw [if_pos rfl]; exact hA
    · rw [if_neg e]
      have := A j q1 q2 (Ne.symm e)
      rw [if_neg (by omega), q3] at this
      exact hA.trans this
theorem Up.done {l : List It} {i : Nat} {x : It} (u : Up l i x) (h : i = 0 ∨ leI (at' l ((i - 1) / 2)) x) : HeapP (l.set i x) := by
  intro j q1 q2
  rw [List.length_set] at q2
  by_cases e : j = i
  · subst e
    rw [at_set _ _ _ _ (by omega), at_set _ _ _ _ q2, if_pos rfl, if_neg (by omega)]
    exact h.resolve_left (by omega)
  · exact u.a j q1 q2 e
/-- On the way down: x is to lie at i. -/
structure Dn (l : List It) (i : Nat) (x : It) : Prop where
  lt : i < l.length
  a : ∀ j, 0 < j → j < l.length → (j - 1) / 2 ≠ i → leI (at' (l.set i x) ((j - 1) / 2)) (at' (l.set i x) j)
  b : ∀ j, 0 < j → j < l.length → (j - 1) / 2 = i → 0 < i → leI (at' l ((i - 1) / 2)) (at' l j)
theorem Dn.start {l : List It} (h : HeapP l) (hn : 0 < l.length) (x : It) : Dn l 0 x := by
  refine ⟨hn, fun j q1 q2 q3 => ?_, fun _ _ _ _ q => by omega⟩
  rw [at_set _ _ _ _ (by omega), at_set _ _ _ _ q2, if_neg (by omega), if_neg (by omega)]
  exact h j q1 q2
/-- The lesser one below. -/
def lesser (l : List It) (i : Nat) : Nat := if 2 * i + 2 < l.length ∧ ¬ leI (at' l (2 * i + 1)) (at' l (2 * i + 2)) then 2 * i + 2 else 2 * i + 1
theorem lesser_le {l : List It} {i j : Nat} (h0 : 0 < j) (hj : j < l.length) (hp : (j - 1) / 2 = i) : leI (at' l (lesser l i)) (at' l j) := by
  unfold lesser
  have : j = 2 * i + 1 ∨ j = 2 * i + 2 := by omega
  split
  · rename_i h
    rcases this with rfl | rfl
    · exact leI.not h.2
    · exact leI.refl _
  · rename_i h
    rcases this with rfl | rfl
    · exact leI.refl _
    · by_cases q : leI (at' l (2 * i + 1)) (at' l (2 * i + 2))
      · exact q
      · exact absurd ⟨hj, q⟩ h
theorem lesser_at {l : List It} {i : Nat} (h : 2 * i + 1 < l.length) : (lesser l i - 1) / 2 = i ∧ 0 < lesser l i ∧ lesser l i < l.length ∧ i < lesser l i := by
  unfold lesser
  split
  · rename_i q; have := q.1; omega
  · omega
theorem Dn.move {l : List It} {i : Nat} {x : It} (u : Dn l i x) (h : 2 * i + 1 < l.length) (hx : ¬ leI x (at' l (lesser l i))) : Dn (l.set i (at' l (lesser l i))) (lesser l i) x := by
  have hi := u.lt
  obtain ⟨p1, p2, p3, p4⟩ := lesser_at h
  have L := fun j h0 hj hp => lesser_le (l := l) (i := i) (j := j) h0 hj hp
  generalize lesser l i = b at *
  have hx' := leI.not hx
  have g0 : ∀ j, j < l.length → at' (l.set i x) j = if i = j then x else at' l j := fun j hj => at_set _ _ _ _ hj
  have g1 : ∀ j, j < l.length → at' (l.set i (at' l b)) j = if i = j then at' l b else at' l j := fun j hj => at_set _ _ _ _ hj
  have g2 : ∀ j, j < l.length → at' ((l.set i (at' l b)).set b x) j = if b = j then x else if i = j then at' l b else at' l j := fun j hj => by
    rw [at_set _ _ _ _ (by simpa using hj)]
    split
    · rfl
    · exact g1 j hj
  have A : ∀ j, 0 < j → j < l.length → (j - 1) / 2 ≠ i → leI (at' l ((j - 1) / 2)) (if i = j then x else at' l j) := fun j q1 q2 q3 => by
    have := u.a j q1 q2 q3
    rw [g0 _ (by omega), g0 _ q2, if_neg (Ne.symm q3)] at this
    exact this
  refine ⟨by rw [List.length_set]; exact p3, fun j q1 q2 q3 => ?_, fun j q1 q2 q3 q4 => ?_⟩
  · rw [List.length_set] at q2
    rw [g2 _ (by omega), g2 j q2, if_neg (Ne.symm q3)]
    by_cases e : i = (j - 1) / 2
    · rw [if_pos e]
      by_cases e2 : b = j
      · rw [if_pos e2]; exact hx'
      · rw [if_neg e2, if_neg (by omega)]
        exact L j q1 q2 e.symm
    · rw [if_neg e]
      have a1 := A j q1 q2 (Ne.symm e)
      rw [if_neg (by omega)]
      by_cases e2 : i = j
      · subst e2
        rw [if_pos rfl]
        exact u.b b p2 p3 p1 q1
      · rw [if_neg e2] at a1 ⊢
        exact a1
  · rw [List.length_set] at q2
    rw [p1, g1 _ (by omega), g1 j q2, if_pos rfl, if_neg (by omega)]
    have := A j q1 q2 (by omega)
    rw [if_neg (by omega), q3] at this
    exact this
theorem Dn.done {l : List It} {i : Nat} {x : It} (u : Dn l i x) (h : ¬ 2 * i + 1 < l.length ∨ leI x (at' l (lesser l i))) : HeapP (l.set i x) := by
  intro j q1 q2
  rw [List.length_set] at q2
  by_cases e : (j - 1) / 2 = i
  · rw [at_set _ _ _ _ (by omega), at_set _ _ _ _ q2, if_pos e.symm, if_neg (by omega)]
    have c := h.resolve_left (by omega)
    exact c.trans (lesser_le q1 q2 e)
  · exact u.a j q1 q2 e
end Go.AM
