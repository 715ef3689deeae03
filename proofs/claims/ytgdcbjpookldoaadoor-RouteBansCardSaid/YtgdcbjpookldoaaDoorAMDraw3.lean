/- AM: regions that draw their order: the steps, in whatever order. -/
import Derived.Test.YtgdcbjpookldoaaDoorAMDraw2
set_option linter.unusedSimpArgs false
set_option linter.unusedVariables false
namespace Go.AM
variable {P : Program} {B : Nat}

def upTo (μ : Map) (k : Nat) : Map := fun id => if id < k then μ id else none
theorem upTo_le (μ : Map) (k : Nat) : (upTo μ k).le μ := by
  intro id loc h
  unfold upTo at h
  split at h
  · exact h
  · cases h
theorem upTo_mono {μ μ' : Map} {k k' : Nat} (h : μ.le μ') (hk : k ≤ k') : (upTo μ k).le (upTo μ' k') := by
  intro id loc hl
  unfold upTo at hl ⊢
  split at hl
  · rw [if_pos (by omega)]; exact h _ _ hl
  · cases hl

def cont (Hs : Nat → AHeap) (n m0 id : Nat) : Option AObj := (Hs (max m0 (born Hs id n))).get id

structure DInv (P : Program) (B : Nat) (all : List Oper) (Es : Nat → Env) (Hs : Nat → AHeap) (μ0 : Map) (w0 : World) (a0 : Act) (L : Nat → Prop) (μ : Map) (a : Act) (w : World) : Prop where
  lt : ∀ j, L j → j < all.length
  closed : ∀ j o, L j → all[j]? = some o → ∀ e ∈ o.after.toList, Region.binds .any e = true → L e.on
  tsize : a.tmps.size = (Es 0).length
  temps : ∀ t v', a.tmps[t]? = some v' → ∃ m, m ≤ all.length ∧ (m = 0 ∨ ∃ k o, m = k + 1 ∧ all[k]? = some o ∧ o.dst = some t) ∧ (∀ j o, j < m → all[j]? = some o → o.dst = some t → L j) ∧
    (∀ j o, m ≤ j → all[j]? = some o → o.dst = some t → ¬ L j) ∧ ∃ v, (Es m)[t]? = some v ∧ VR (upTo μ (Hs m).next) v v'
  heap : ∃ m0, m0 ≤ all.length ∧ (m0 = 0 ∨ isW all (m0 - 1) = true ∧ 0 < m0) ∧ (∀ j, isW all j = true → (L j ↔ j < m0)) ∧
    (∀ id loc o, μ id = some loc → cont Hs all.length m0 id = some o → ∃ O, w.heap[loc.blk]? = some O ∧ OR P (upTo μ (Hs (max m0 (born Hs id all.length))).next) loc o O) ∧
    (∀ id loc, μ id = some loc → cont Hs all.length m0 id ≠ none → (Hs 0).low ≤ id → loc.ro = false ∧ ∀ id' loc', μ id' = some loc' → cont Hs all.length m0 id' ≠ none → id' ≠ id → loc'.blk ≠ loc.blk)
  dom : ∀ id loc, μ id = some loc → loc.blk < w.heap.size ∧ id < (Hs all.length).next ∧ (id < (Hs 0).next ∨ ∃ i, L i ∧ (Hs i).next ≤ id ∧ id < (Hs (i + 1)).next)
  base : B ≤ w.heap.size
  still : ∀ j, isW all j = true → L j → ∀ id, id < (Hs j).next → μ id = none → (Hs (j + 1)).get id = (Hs j).get id
  le : μ0.le μ
  fresh : ∀ id loc, μ id = some loc → μ0 id = none → (Hs 0).next ≤ id ∧ (w0.heap.size ≤ loc.blk ∨ Mine μ0 (Hs 0) loc.blk)
  size : w0.heap.size ≤ w.heap.size
  frame : ∀ b, b < w0.heap.size → ¬ Mine μ0 (Hs 0) b → w.heap[b]? = w0.heap[b]?
  defers : a.defers = a0.defers
  env : SameEnv w0 w

/-- May operation j come next? -/
def ReadyD (all : List Oper) (L : Nat → Prop) (j : Nat) : Prop := ¬ L j ∧ ∀ o, all[j]? = some o → ∀ e ∈ o.after.toList, Region.binds .any e = true → L e.on

section
variable {all : List Oper} {Es : Nat → Env} {Hs : Nat → AHeap} {rv : Nat → Value} {μ0 : Map} {w0 : World} {a0 : Act} {L : Nat → Prop} {μ : Map} {a : Act} {w : World}

theorem DInv.ahead_in (I : DInv P B all Es Hs μ0 w0 a0 L μ a w) (d : DrawOk all) {j i : Nat} {o : Oper} (ho : all[j]? = some o) (hr : ReadyD all L j) (h : isAhead (aheadOf all) i j = true) : L i :=
  ahead_listed d I.closed j i ho (hr.2 o ho) h
theorem DInv.behind_out (I : DInv P B all Es Hs μ0 w0 a0 L μ a w) (d : DrawOk all) {j i : Nat} {o : Oper} (ho : all[i]? = some o) (hr : ReadyD all L j) (h : isAhead (aheadOf all) j i = true) : ¬ L i :=
  fun hi => hr.1 (ahead_listed d I.closed i j ho (I.closed i o hi ho) h)

/-- An operand's slot holds what the text's order gives it. -/
theorem DInv.slot (I : DInv P B all Es Hs μ0 w0 a0 L μ a w) (d : DrawOk all) (hk : HsOk all Hs) {call : CallV} {env : Env} {h : AHeap} {env' : Env} {h' : AHeap} (t : Trace P call all env h env' h' Es Hs rv)
    {j : Nat} {o : Oper} (ho : all[j]? = some o) (hr : ReadyD all L j) {s : Tmp} (hs : s ∈ namesOf all o) {v' : Value} (hv : a.tmps[s]? = some v') :
    ∃ v, (Es j)[s]? = some v ∧ VR (upTo μ (Hs j).next) v v' := by
  have hj := (List.getElem?_eq_some_iff.1 ho).1
  obtain ⟨m, hm, hmin, h1, h2, v, hv1, hv2⟩ := I.temps s v' hv
  -- who writes the slot is ordered with j
  have before : ∀ i p, i < j → all[i]? = some p → p.dst = some s → L i := by
    intro i p hi hp hd
    rcases d.names i j p o hi hp ho with h3 | ⟨h3, _⟩
    · exact I.ahead_in d ho hr h3
    · exact absurd hs (h3 s hd)
  have behind : ∀ i p, j < i → all[i]? = some p → p.dst = some s → ¬ L i := by
    intro i p hi hp hd
    rcases d.names j i o p hi ho hp with h3 | ⟨_, h3⟩
    · exact I.behind_out d hp hr h3
    · exact absurd hs (h3 s hd)
  have hmj : m ≤ j := by
    rcases hmin with h3 | ⟨k, p, rfl, hp, hd⟩
    · omega
    · have hl := h1 k p (by omega) hp hd
      rcases Nat.lt_trichotomy k j with h4 | h4 | h4
      · omega
      · subst h4; exact absurd hl hr.1
      · exact absurd hl (behind k p h4 hp hd)
  refine ⟨v, ?_, hv2.mono (upTo_mono (Map.le_refl _) (hk.next_mono hmj (by omega)))⟩
  -- nobody writes it between
  have key : ∀ k, m ≤ k → k ≤ j → (Es k)[s]? = some v := by
    intro k
    induction k with
    | zero => intro h3 _; have : m = 0 := by omega
              subst this; exact hv1
    | succ k ih =>
      intro h3 h4
      rcases Nat.lt_or_ge m (k + 1) with h5 | h5
      · have e := ih (by omega) (by omega)
        have hp := List.getElem?_eq_getElem (show k < all.length by omega)
        obtain ⟨e1, _⟩ := t.st k _ hp
        rw [e1]
        cases hd : all[k].dst with
        | none => exact e
        | some s' =>
          simp only [putE]
          by_cases hss : s' = s
          · subst hss
            exact absurd (before k _ (by omega) hp hd) (h2 k _ (by omega) hp hd)
          · rw [List.getElem?_set_ne hss]; exact e
      · have : m = k + 1 := by omega
        subst this; exact hv1
  exact key j hmj (Nat.le_refl _)

theorem DInv.slotsize (I : DInv P B all Es Hs μ0 w0 a0 L μ a w) {call : CallV} {env : Env} {h : AHeap} {env' : Env} {h' : AHeap} (t : Trace P call all env h env' h' Es Hs rv) : ∀ j, j ≤ all.length → (Es j).length = a.tmps.size := by
  intro j
  induction j with
  | zero => intro _; rw [I.tsize]
  | succ j ih =>
    intro hj
    have hp := List.getElem?_eq_getElem (show j < all.length by omega)
    obtain ⟨e1, _⟩ := t.st j _ hp
    rw [e1]
    cases all[j].dst with
    | none => exact ih (by omega)
    | some s => simp only [putE, List.length_set]; exact ih (by omega)

theorem DInv.evals (I : DInv P B all Es Hs μ0 w0 a0 L μ a w) (d : DrawOk all) (hk : HsOk all Hs) {call : CallV} {env : Env} {h : AHeap} {env' : Env} {h' : AHeap} (t : Trace P call all env h env' h' Es Hs rv)
    {j : Nat} {o : Oper} (ho : all[j]? = some o) (hr : ReadyD all L j) (hok : OpersOk (upTo μ (Hs j).next) o) : ∀ x ∈ o.op.operands.toList, VR (upTo μ (Hs j).next) (evalE (Es j) x) (a.eval x) := by
  intro x hx
  have hj := (List.getElem?_eq_some_iff.1 ho).1
  cases x with
  | tmp s =>
    have hs : s ∈ namesOf all o := by
      unfold namesOf
      simp only [List.mem_append, List.mem_filterMap]
      exact .inl (.inr ⟨.tmp s, hx, rfl⟩)
    have hsz := I.slotsize t j (by omega)
    simp only [evalE, Act.eval]
    cases hv : a.tmps[s]? with
    | none =>
      have h1 : (Es j)[s]? = none := by
        rw [List.getElem?_eq_none_iff, hsz]
        simpa using hv
      rw [List.getD_eq_getElem?_getD, h1]
      have h2 : a.tmps.getD s undef = undef := by simp [Array.getD_eq_getD_getElem?, hv]
      rw [h2]; exact VR.undef _
    | some v' =>
      obtain ⟨v, e1, e2⟩ := I.slot d hk t ho hr hs hv
      rw [List.getD_eq_getElem?_getD, e1]
      have h2 : a.tmps.getD s undef = v' := by simp [Array.getD_eq_getD_getElem?, hv]
      rw [h2]; exact e2
  | const v => exact VR.closed (hok _ hx)
  | global g =>
    obtain ⟨loc, h1, h2, h3⟩ := hok _ hx
    have := VR.ptr (μ := upTo μ (Hs j).next) g 0 loc h1
    rw [h2, h3] at this
    exact this
  | func f => exact .func f _ _ _ _ rfl (fun i x x' a _ => by simp at a) rfl (fun i x x' a _ => by simp at a)

theorem DInv.wanted (I : DInv P B all Es Hs μ0 w0 a0 L μ a w) (d : DrawOk all) (hk : HsOk all Hs) {call : CallV} {env : Env} {h : AHeap} {env' : Env} {h' : AHeap} (t : Trace P call all env h env' h' Es Hs rv)
    {j : Nat} {o : Oper} (ho : all[j]? = some o) (hr : ReadyD all L j) : Region.wanted o (yieldedE all (Es j)) = Region.wanted o (yielded all.toArray a.tmps) := by
  have hj := (List.getElem?_eq_some_iff.1 ho).1
  unfold Region.wanted
  cases hg : o.guard with
  | none => rfl
  | some g =>
    obtain ⟨k, b⟩ := g
    simp only
    congr 1
    unfold yieldedE yielded
    simp only [List.getElem?_toArray]
    cases hd : (all[k]?).bind (·.dst) with
    | none => rfl
    | some s =>
      simp only [Option.bind_some]
      have hs : s ∈ namesOf all o := by
        unfold namesOf
        simp only [hg, hd, List.mem_append]
        exact .inr (by simp)
      have hsz := I.slotsize t j (by omega)
      cases hv : a.tmps[s]? with
      | none =>
        have h1 : (Es j)[s]? = none := by
          rw [List.getElem?_eq_none_iff, hsz]
          simpa using hv
        rw [h1]
      | some v' =>
        obtain ⟨v, e1, e2⟩ := I.slot d hk t ho hr hs hv
        rw [e1]
        cases e2 <;> rfl

/-- The slots behind operation j. -/
theorem DInv.temps_step (I : DInv P B all Es Hs μ0 w0 a0 L μ a w) (d : DrawOk all) {call : CallV} {env : Env} {h : AHeap} {env' : Env} {h' : AHeap} (t : Trace P call all env h env' h' Es Hs rv)
    {j : Nat} {o : Oper} (ho : all[j]? = some o) (hr : ReadyD all L j) {μ' : Map} (hle : μ.le μ') {v' : Value} (hv : VR (upTo μ' (Hs (j + 1)).next) (rv j) v') :
    ∀ s u', (a.put o.dst v').tmps[s]? = some u' → ∃ m, m ≤ all.length ∧ (m = 0 ∨ ∃ k o, m = k + 1 ∧ all[k]? = some o ∧ o.dst = some s) ∧ (∀ i p, i < m → all[i]? = some p → p.dst = some s → (i = j ∨ L i)) ∧
      (∀ i p, m ≤ i → all[i]? = some p → p.dst = some s → ¬ (i = j ∨ L i)) ∧ ∃ u, (Es m)[s]? = some u ∧ VR (upTo μ' (Hs m).next) u u' := by
  intro s u' hu
  have hj := (List.getElem?_eq_some_iff.1 ho).1
  by_cases hds : o.dst = some s
  · -- the slot that it writes
    have hsn : s ∈ namesOf all o := by unfold namesOf; simp [hds]
    rw [hds] at hu
    simp only [Act.put, Array.getElem?_setIfInBounds_self] at hu
    split at hu
    · rename_i hlt
      cases hu
      refine ⟨j + 1, by omega, .inr ⟨j, o, rfl, ho, hds⟩, fun i p hi hp hd => ?_, fun i p hi hp hd => ?_, rv j, ?_, hv⟩
      · rcases Nat.lt_or_ge i j with h1 | h1
        · refine .inr ?_
          rcases d.names i j p o h1 hp ho with h3 | ⟨h3, _⟩
          · exact I.ahead_in d ho hr h3
          · exact absurd hsn (h3 s hd)
        · exact .inl (by omega)
      · rintro (h1 | h1)
        · omega
        · rcases d.names j i o p (by omega) ho hp with h3 | ⟨_, h3⟩
          · exact I.behind_out d hp hr h3 h1
          · exact h3 s hd hsn
      · obtain ⟨e1, _⟩ := t.st j _ ho
        rw [e1, hds]
        simp only [putE]
        have hsz := I.slotsize t j (by omega)
        rw [List.getElem?_set_self (by omega)]
    · cases hu
  · have hu' : a.tmps[s]? = some u' := by
      cases hd : o.dst with
      | none => rw [hd] at hu; exact hu
      | some s' =>
        rw [hd] at hu hds
        simp only [Act.put] at hu
        rw [Array.getElem?_setIfInBounds_ne (fun e => hds (by rw [e]))] at hu
        exact hu
    obtain ⟨m, hm, hmin, h1, h2, u, e1, e2⟩ := I.temps s u' hu'
    refine ⟨m, hm, hmin, fun i p hi hp hd => .inr (h1 i p hi hp hd), fun i p hi hp hd => ?_, u, e1, e2.mono (upTo_mono hle (Nat.le_refl _))⟩
    rintro (h3 | h3)
    · subst h3; rw [ho] at hp; cases hp; exact hds hd
    · exact h2 i p hi hp hd h3

/-- Where the writers done are just those ahead of k, an object is as at k. -/
theorem cont_at (hk : HsOk all Hs) {m0 k id : Nat} (hm : m0 ≤ all.length) (hk2 : k ≤ all.length) (h1 : ∀ x, isW all x = true → x < k → x < m0) (h2 : ∀ x, isW all x = true → k ≤ x → m0 ≤ x) (hid : id < (Hs k).next) :
    cont Hs all.length m0 id = (Hs k).get id := by
  unfold cont
  have hb : born Hs id all.length ≤ k := by
    rcases Nat.lt_or_ge k (born Hs id all.length) with h | h
    · have := born_min hk id all.length k (Nat.le_refl _) h; omega
    · exact h
  have hidn : id < (Hs all.length).next := Nat.lt_of_lt_of_le hid (hk.next_mono hk2 (Nat.le_refl _))
  have hbl := born_lt Hs id all.length hidn
  rcases Nat.le_total (max m0 (born Hs id all.length)) k with h | h
  · refine (hk.between h hk2 (Nat.lt_of_lt_of_le hbl (hk.next_mono (by omega) (by omega))) (fun x a b c => ?_)).symm
    have := h1 x c b; omega
  · refine hk.between h (by omega) hid (fun x a b c => ?_)
    have := h2 x c a; omega

end
end Go.AM
