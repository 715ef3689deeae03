/- AM: regions that draw their order: the invariant over what has been done. -/
import Derived.Test.YtgdcbjpookldoaaDoorAMDraw
set_option linter.unusedSimpArgs false
set_option linter.unusedVariables false
namespace Go.AM
variable {P : Program} {B : Nat}

theorem isW_some {all : List Oper} {j : Nat} (h : isW all j = true) : ∃ o, all[j]? = some o ∧ (writesO o.op = true ∨ isCallO o.op = true ∧ tied all (aheadOf all) j = true) := by
  unfold isW at h
  cases ho : all[j]? with
  | none => rw [ho] at h; simp at h
  | some o => rw [ho] at h; simp at h; exact ⟨o, rfl, h⟩

theorem looks_of_writes {op : Op} (h : writesO op = true) : looksO op = true := by
  unfold writesO at h
  split at h
  · rfl
  · rfl
  · rfl
  · split at h <;> first | rfl | cases h
  · cases h

theorem looks_of_call {op : Op} (h : isCallO op = true) : looksO op = true := by
  unfold isCallO at h
  split at h
  · rfl
  · cases h

theorem nr_of_writes {op : Op} (h : writesO op = true) : readsO op = false := by
  unfold writesO at h
  split at h
  · rfl
  · rfl
  · rfl
  · split at h <;> first | rfl | cases h
  · cases h
theorem nr_of_call {op : Op} (h : isCallO op = true) : readsO op = false := by
  unfold isCallO at h
  split at h
  · rfl
  · cases h
theorem W_reads {all : List Oper} {j : Nat} {o : Oper} (ho : all[j]? = some o) (h : isW all j = true) : readsO o.op = false := by
  obtain ⟨o', ho', h1⟩ := isW_some h
  rw [ho] at ho'; cases ho'
  rcases h1 with h1 | ⟨h1, _⟩
  · exact nr_of_writes h1
  · exact nr_of_call h1
theorem loose_reads {all : List Oper} {j : Nat} {o : Oper} (ho : all[j]? = some o) (h : loose all j = true) : readsO o.op = true := by
  unfold loose at h
  rw [ho] at h
  simp only [Option.map_some, Option.getD_some, Bool.and_eq_true] at h
  exact h.1
theorem not_loose {all : List Oper} {j : Nat} {o : Oper} (ho : all[j]? = some o) (h : readsO o.op = false) : loose all j = false := by
  unfold loose; rw [ho]; simp [h]

/-- Writers are ordered with all that look. -/
theorem W_tied {all : List Oper} (d : DrawOk all) {j : Nat} (h : isW all j = true) : ∃ o, all[j]? = some o ∧ looksO o.op = true ∧ tied all (aheadOf all) j = true := by
  obtain ⟨o, ho, h1⟩ := isW_some h
  rcases h1 with h1 | ⟨h1, h2⟩
  · exact ⟨o, ho, looks_of_writes h1, d.writes j o ho h1⟩
  · exact ⟨o, ho, looks_of_call h1, h2⟩

/-- What looks, and is not loose, is ordered with those that write. -/
theorem W_ordered {all : List Oper} (d : DrawOk all) {x j : Nat} {o : Oper} (hx : isW all x = true) (ho : all[j]? = some o) (hl : looksO o.op = true) (hnl : loose all j = false) (hne : j ≠ x) :
    isAhead (aheadOf all) j x = true ∨ isAhead (aheadOf all) x j = true := by
  obtain ⟨p, hp, _, htie⟩ := W_tied d hx
  cases hr : readsO o.op with
  | false => exact tied_spec htie ho hl hr hne
  | true =>
    unfold loose at hnl
    rw [ho] at hnl
    simp only [Option.map_some, Option.getD_some, hr, Bool.true_and, List.any_eq_false, List.mem_range, Bool.and_eq_true, Bool.not_eq_true', not_and, Bool.not_eq_false] at hnl
    have := fun e => hnl x (List.getElem?_eq_some_iff.1 hp).1 ⟨hx, e⟩
    cases e : isAhead (aheadOf all) j x with
    | true => exact .inl rfl
    | false => exact .inr (this e)

/-- The abstract run's heaps, one behind the other. -/
structure HsOk (all : List Oper) (Hs : Nat → AHeap) : Prop where
  keeps : ∀ j, j < all.length → Keeps (Hs j) (Hs (j + 1))
  same : ∀ j, j < all.length → isW all j = false → ∀ id, id < (Hs j).next → (Hs (j + 1)).get id = (Hs j).get id
  low : ∀ j, j ≤ all.length → (Hs j).low = (Hs 0).low
  lowN : ∀ j, j ≤ all.length → (Hs j).low ≤ (Hs j).next

theorem trace_heaps {call : CallV} (hk : CallKeeps call) {all : List Oper} {env : Env} {h : AHeap} {env' : Env} {h' : AHeap} {Es : Nat → Env} {Hs : Nat → AHeap} {rv : Nat → Value} (hl : h.low ≤ h.next)
    (t : Trace P call all env h env' h' Es Hs rv) : HsOk all Hs := by
  have step : ∀ j, j < all.length → (Hs j).low ≤ (Hs j).next → Keeps (Hs j) (Hs (j + 1)) ∧ (isW all j = false → ∀ id, id < (Hs j).next → (Hs (j + 1)).get id = (Hs j).get id) := by
    intro j hj hlj
    have ho := List.getElem?_eq_getElem hj
    obtain ⟨_, hst⟩ := t.st j _ ho
    split at hst
    · unfold stepD at hst
      split at hst
      · rename_i hc
        obtain ⟨h1, e1, e2⟩ := hst
        have k := (opE_keeps (h := { Hs j with low := (Hs j).next }) hk (Nat.le_refl _) e1).1
        rw [e2]
        refine ⟨k.unprotect hlj, fun _ id hid => ?_⟩
        exact k.old id hid
      · rename_i hc
        obtain ⟨k1, k2⟩ := opE_keeps hk hlj hst
        refine ⟨k1, fun hw => ?_⟩
        unfold isW at hw
        rw [ho] at hw
        simp only [Option.map_some, Option.getD_some, Bool.or_eq_false_iff] at hw
        refine k2 hw.1 ?_
        cases e : isCallO all[j].op with
        | false => rfl
        | true =>
          have h2 := hw.2
          rw [e] at h2 hc
          simp only [Bool.true_and] at h2 hc
          rw [h2] at hc
          simp at hc
    · rw [hst.2]; exact ⟨Keeps.refl _, fun _ _ _ => rfl⟩
  have lows : ∀ j, j ≤ all.length → (Hs j).low = (Hs 0).low ∧ (Hs j).low ≤ (Hs j).next := by
    intro j
    induction j with
    | zero => intro _; exact ⟨rfl, by rw [t.z2]; exact hl⟩
    | succ j ih =>
      intro hj
      obtain ⟨h1, h2⟩ := ih (by omega)
      have k := (step j (by omega) h2).1
      exact ⟨by rw [k.low, h1], k.lowNext h2⟩
  exact ⟨fun j hj => (step j hj (lows j (by omega)).2).1, fun j hj => (step j hj (lows j (by omega)).2).2, fun j hj => (lows j hj).1, fun j hj => (lows j hj).2⟩

theorem HsOk.next_mono {all : List Oper} {Hs : Nat → AHeap} (k : HsOk all Hs) {i j : Nat} (hij : i ≤ j) (hj : j ≤ all.length) : (Hs i).next ≤ (Hs j).next := by
  induction j with
  | zero => have : i = 0 := by omega
            subst this; exact Nat.le_refl _
  | succ j ih =>
    rcases Nat.lt_or_ge i (j + 1) with h | h
    · exact Nat.le_trans (ih (by omega) (by omega)) (k.keeps j (by omega)).next
    · have : i = j + 1 := by omega
      subst this; exact Nat.le_refl _

/-- Between two places where nobody writes an object it stays. -/
theorem HsOk.between {all : List Oper} {Hs : Nat → AHeap} (k : HsOk all Hs) {id i j : Nat} (hij : i ≤ j) (hj : j ≤ all.length) (hid : id < (Hs i).next)
    (hw : ∀ m, i ≤ m → m < j → isW all m = true → (Hs (m + 1)).get id = (Hs m).get id) : (Hs j).get id = (Hs i).get id := by
  induction j with
  | zero => have : i = 0 := by omega
            subst this; rfl
  | succ j ih =>
    rcases Nat.lt_or_ge i (j + 1) with h | h
    · have e := ih (by omega) (by omega) (fun m h1 h2 => hw m h1 (by omega))
      rw [← e]
      cases hb : isW all j with
      | true => exact hw j (by omega) (by omega) hb
      | false => exact k.same j (by omega) hb id (Nat.lt_of_lt_of_le hid (k.next_mono (by omega) (by omega)))
    · have : i = j + 1 := by omega
      subst this; rfl

/-- The first place at which an object is there. -/
def born (Hs : Nat → AHeap) (id : Nat) : Nat → Nat
  | 0 => 0
  | n + 1 => if id < (Hs n).next then born Hs id n else n + 1

theorem born_le (Hs : Nat → AHeap) (id : Nat) : ∀ n, born Hs id n ≤ n
  | 0 => Nat.le_refl _
  | n + 1 => by
    simp only [born]
    split
    · exact Nat.le_succ_of_le (born_le Hs id n)
    · exact Nat.le_refl _
theorem born_lt (Hs : Nat → AHeap) (id : Nat) : ∀ n, id < (Hs n).next → id < (Hs (born Hs id n)).next
  | 0, h => h
  | n + 1, h => by
    simp only [born]
    split
    · rename_i h1; exact born_lt Hs id n h1
    · exact h
theorem born_min {all : List Oper} {Hs : Nat → AHeap} (k : HsOk all Hs) (id : Nat) : ∀ n m, n ≤ all.length → m < born Hs id n → (Hs m).next ≤ id
  | 0, m, _, h => by simp [born] at h
  | n + 1, m, hn, h => by
    simp only [born] at h
    split at h
    · exact born_min k id n m (by omega) h
    · rename_i h1
      exact Nat.le_trans (k.next_mono (i := m) (j := n) (by omega) (by omega)) (by omega)

end Go.AM
