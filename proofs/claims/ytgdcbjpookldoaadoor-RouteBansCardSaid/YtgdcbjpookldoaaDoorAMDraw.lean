/- AM: regions that draw their order: every order comes to the text's. -/
import Derived.Test.YtgdcbjpookldoaaDoorAMKeeps
set_option linter.unusedSimpArgs false
set_option linter.unusedVariables false
namespace Go.AM
variable {P : Program} {B : Nat}

/-! ### Which operations stand ahead -/

def edgeBits (acc : List Nat) (es : List Edge) : Nat := es.foldl (fun s e => if Region.binds .any e then s ||| 2 ^ e.on ||| acc.getD e.on 0 else s) 0

theorem edgeBits_test (acc : List Nat) (i : Nat) : ∀ (es : List Edge) (s : Nat), (es.foldl (fun s e => if Region.binds .any e then s ||| 2 ^ e.on ||| acc.getD e.on 0 else s) s).testBit i = true →
    s.testBit i = true ∨ ∃ e ∈ es, Region.binds .any e = true ∧ (i = e.on ∨ (acc.getD e.on 0).testBit i = true) := by
  intro es
  induction es with
  | nil => intro s h; exact .inl h
  | cons e es ih =>
    intro s h
    simp only [List.foldl_cons] at h
    rcases ih _ h with h1 | ⟨e', he', h1⟩
    · split at h1
      · rename_i hb
        simp only [Nat.testBit_or, Bool.or_eq_true, Nat.testBit_two_pow, decide_eq_true_eq] at h1
        rcases h1 with (h1 | h1) | h1
        · exact .inl h1
        · exact .inr ⟨e, by simp, hb, .inl h1.symm⟩
        · exact .inr ⟨e, by simp, hb, .inr h1⟩
      · exact .inl h1
    · exact .inr ⟨e', by simp [he'], h1⟩

theorem aheadOf_snoc (ops : List Oper) (o : Oper) : aheadOf (ops ++ [o]) = aheadOf ops ++ [edgeBits (aheadOf ops) o.after.toList] := by
  simp [aheadOf, edgeBits, List.foldl_append]

theorem snoc_ind {α : Type} {p : List α → Prop} (h0 : p []) (h1 : ∀ l a, p l → p (l ++ [a])) (l : List α) : p l := by
  have key : ∀ r : List α, p r.reverse := by
    intro r
    induction r with
    | nil => exact h0
    | cons a r ih => rw [List.reverse_cons]; exact h1 _ _ ih
  have := key l.reverse
  rwa [List.reverse_reverse] at this

theorem aheadOf_length (ops : List Oper) : (aheadOf ops).length = ops.length := by
  refine snoc_ind (p := fun ops => (aheadOf ops).length = ops.length) rfl (fun l o ih => ?_) ops
  rw [aheadOf_snoc]; simp [ih]

theorem aheadOf_take (ops : List Oper) (j : Nat) (hj : j ≤ ops.length) : (aheadOf ops).take j = aheadOf (ops.take j) := by
  revert hj
  refine snoc_ind (p := fun ops => j ≤ ops.length → (aheadOf ops).take j = aheadOf (ops.take j)) (fun _ => by simp [aheadOf]) (fun ops o ih hj => ?_) ops
  rw [aheadOf_snoc]
  by_cases h : j ≤ ops.length
  · rw [List.take_append_of_le_length (by rw [aheadOf_length]; exact h), List.take_append_of_le_length h, ih h]
  · have : j = ops.length + 1 := by simp at hj; omega
    subst this
    rw [List.take_of_length_le (by simp [aheadOf_length]), List.take_of_length_le (by simp), aheadOf_snoc]

/-- Who stands ahead of j stands ahead by an edge of its own. -/
theorem isAhead_edge {ops : List Oper} {i j : Nat} {o : Oper} (ho : ops[j]? = some o) (h : isAhead (aheadOf ops) i j = true) (hback : ∀ e ∈ o.after.toList, Region.binds .any e = true → e.on < j) :
    ∃ e ∈ o.after.toList, Region.binds .any e = true ∧ (i = e.on ∨ isAhead (aheadOf ops) i e.on = true) := by
  have hj : j < ops.length := (List.getElem?_eq_some_iff.1 ho).1
  have h1 : (aheadOf ops)[j]? = some (edgeBits (aheadOf (ops.take j)) o.after.toList) := by
    have e1 : ops.take (j + 1) = ops.take j ++ [o] := by rw [List.take_add_one, ho]; rfl
    have e2 := aheadOf_take ops (j + 1) (by omega)
    rw [e1, aheadOf_snoc] at e2
    have e3 : (aheadOf ops)[j]? = ((aheadOf ops).take (j + 1))[j]? := by rw [List.getElem?_take]; simp
    rw [e3, e2, List.getElem?_append_right (by rw [aheadOf_length]; simp; omega)]
    rw [aheadOf_length]
    simp
    have : j - min j ops.length = 0 := by omega
    rw [this]; rfl
  unfold isAhead at h
  rw [List.getD_eq_getElem?_getD, h1] at h
  simp only [Option.getD_some] at h
  rcases edgeBits_test _ i _ 0 h with h2 | ⟨e, he, hb, h2⟩
  · simp at h2
  · refine ⟨e, he, hb, ?_⟩
    rcases h2 with h2 | h2
    · exact .inl h2
    · refine .inr ?_
      unfold isAhead
      have hlt := hback e he hb
      rw [← aheadOf_take ops j (by omega)] at h2
      rw [List.getD_eq_getElem?_getD, List.getElem?_take, if_pos hlt] at h2
      rw [List.getD_eq_getElem?_getD]; exact h2

/-- What 'drawOk' says. -/
structure DrawOk (ops : List Oper) : Prop where
  back : ∀ j o, ops[j]? = some o → ∀ e ∈ o.after.toList, Region.binds .any e = true → e.on < j
  writes : ∀ j o, ops[j]? = some o → writesO o.op = true → tied ops (aheadOf ops) j = true
  names : ∀ i j p o, i < j → ops[i]? = some p → ops[j]? = some o → isAhead (aheadOf ops) i j = true ∨ ((∀ d, p.dst = some d → d ∉ namesOf ops o) ∧ (∀ d, o.dst = some d → d ∉ namesOf ops p))

theorem drawOk_spec {ops : List Oper} (h : drawOk ops = true) : DrawOk ops := by
  unfold drawOk at h
  simp only [List.all_eq_true, List.mem_range] at h
  have key : ∀ j o, ops[j]? = some o → ((o.after.toList.all fun e => !Region.binds .any e || decide (e.on < j)) && (!writesO o.op || tied ops (aheadOf ops) j) &&
      (List.range j).all fun i => ((ops[i]?).map fun p => isAhead (aheadOf ops) i j ||
          ((!(p.dst.toList.any fun d => (namesOf ops o).contains d)) && (!(o.dst.toList.any fun d => (namesOf ops p).contains d)))).getD false) = true := by
    intro j o ho
    have := h j (List.getElem?_eq_some_iff.1 ho).1
    rw [ho] at this
    simpa using this
  refine ⟨fun j o ho e he hb => ?_, fun j o ho hw => ?_, fun i j p o hij hp ho => ?_⟩
  · have := key j o ho
    simp only [Bool.and_eq_true, List.all_eq_true, decide_eq_true_eq] at this
    have := this.1.1 e he
    rw [hb] at this
    simpa using this
  · have := key j o ho
    simp only [Bool.and_eq_true, Bool.or_eq_true, Bool.not_eq_true'] at this
    rcases this.1.2 with h1 | h1
    · rw [hw] at h1; cases h1
    · exact h1
  · have := key j o ho
    simp only [Bool.and_eq_true, List.all_eq_true, List.mem_range] at this
    have := this.2 i hij
    rw [hp] at this
    simp only [Option.map_some, Option.getD_some, Bool.or_eq_true, Bool.and_eq_true, Bool.not_eq_true', List.any_eq_false, Option.mem_toList, List.contains_iff_mem] at this
    rcases this with h1 | ⟨h1, h2⟩
    · exact .inl h1
    · exact .inr ⟨fun d hd => by simpa using h1 d hd, fun d hd => by simpa using h2 d hd⟩

theorem tied_spec {ops : List Oper} {j : Nat} (h : tied ops (aheadOf ops) j = true) {i : Nat} {p : Oper} (hp : ops[i]? = some p) (hl : looksO p.op = true) (hnr : readsO p.op = false) (hne : i ≠ j) :
    isAhead (aheadOf ops) i j = true ∨ isAhead (aheadOf ops) j i = true := by
  unfold tied at h
  simp only [List.all_eq_true, List.mem_range] at h
  have := h i (List.getElem?_eq_some_iff.1 hp).1
  rw [hp] at this
  simp only [Option.map_some, Option.getD_some, hl, hnr, Bool.not_false, Bool.and_true, Bool.not_true, Bool.or_false, Bool.or_eq_true, beq_iff_eq] at this
  rcases this with (h1 | h1) | h1
  · exact absurd h1 hne
  · exact .inl h1
  · exact .inr h1

/-- Who stands ahead of what is listed, or of what may come next, is listed. -/
theorem ahead_listed {ops : List Oper} (d : DrawOk ops) {L : Nat → Prop} (hcl : ∀ j o, L j → ops[j]? = some o → ∀ e ∈ o.after.toList, Region.binds .any e = true → L e.on) :
    ∀ (j i : Nat) {o : Oper}, ops[j]? = some o → (∀ e ∈ o.after.toList, Region.binds .any e = true → L e.on) → isAhead (aheadOf ops) i j = true → L i := by
  intro j
  induction j using Nat.strongRecOn with
  | _ j ih =>
    intro i o ho hpre h
    obtain ⟨e, he, hb, h1⟩ := isAhead_edge ho h (fun e he hb => d.back j o ho e he hb)
    have hlt := d.back j o ho e he hb
    rcases h1 with h1 | h1
    · rw [h1]; exact hpre e he hb
    · have hlen : e.on < ops.length := by have := (List.getElem?_eq_some_iff.1 ho).1; omega
      have hoe := List.getElem?_eq_getElem hlen
      exact ih e.on hlt i hoe (hcl e.on _ (hpre e he hb) hoe) h1

theorem ahead_lt {ops : List Oper} (d : DrawOk ops) : ∀ (j i : Nat) {o : Oper}, ops[j]? = some o → isAhead (aheadOf ops) i j = true → i < j := by
  intro j
  induction j using Nat.strongRecOn with
  | _ j ih =>
    intro i o ho h
    obtain ⟨e, he, hb, h1⟩ := isAhead_edge ho h (fun e he hb => d.back j o ho e he hb)
    have hlt := d.back j o ho e he hb
    rcases h1 with h1 | h1
    · omega
    · have hlen : e.on < ops.length := by have := (List.getElem?_eq_some_iff.1 ho).1; omega
      have := ih e.on hlt i (List.getElem?_eq_getElem hlen) h1
      omega

/-! ### The run in the text's order -/

/-- One operation of the abstract run. -/
def stepD (P : Program) (call : CallV) (all : List Oper) (j : Nat) (o : Oper) (env : Env) (h : AHeap) (v : Value) (h' : AHeap) : Prop :=
  if isCallO o.op && !tied all (aheadOf all) j then ∃ h1, opE P call env o { h with low := h.next } = some (v, h1) ∧ h' = { h1 with low := h.low }
  else opE P call env o h = some (v, h')

structure Trace (P : Program) (call : CallV) (all : List Oper) (env : Env) (h : AHeap) (env' : Env) (h' : AHeap) (Es : Nat → Env) (Hs : Nat → AHeap) (rv : Nat → Value) : Prop where
  z1 : Es 0 = env
  z2 : Hs 0 = h
  l1 : Es all.length = env'
  l2 : Hs all.length = h'
  st : ∀ j o, all[j]? = some o → Es (j + 1) = putE (Es j) o.dst (rv j) ∧
    (if Region.wanted o (yieldedE all (Es j)) then stepD P call all j o (Es j) (Hs j) (rv j) (Hs (j + 1)) else rv j = undef ∧ Hs (j + 1) = Hs j)

theorem trace_of {call : CallV} {all : List Oper} : ∀ (os : List Oper) (k : Nat) {env : Env} {h : AHeap} {l : List (Env × AHeap × Value)} {env' : Env} {h' : AHeap}, all.drop k = os → drawE P call all (aheadOf all) k os env h = some (l, env', h') →
    ∃ (Es : Nat → Env) (Hs : Nat → AHeap) (rv : Nat → Value), Es k = env ∧ Hs k = h ∧ Es (k + os.length) = env' ∧ Hs (k + os.length) = h' ∧ l.length = os.length ∧ (∀ j, j < os.length → l[j]? = some (Es (k + j), Hs (k + j), rv (k + j))) ∧
      ∀ j o, k ≤ j → all[j]? = some o → Es (j + 1) = putE (Es j) o.dst (rv j) ∧
        (if Region.wanted o (yieldedE all (Es j)) then stepD P call all j o (Es j) (Hs j) (rv j) (Hs (j + 1)) else rv j = undef ∧ Hs (j + 1) = Hs j) := by
  intro os
  induction os with
  | nil =>
    intro k env h l env' h' hd hh
    simp [drawE] at hh; obtain ⟨rfl, rfl, rfl⟩ := hh
    refine ⟨fun _ => env, fun _ => h, fun _ => undef, rfl, rfl, rfl, rfl, rfl, fun j hj => absurd hj (Nat.not_lt_zero _), fun j o hj ho => ?_⟩
    have h1 : all.length ≤ k := by have := congrArg List.length hd; simp at this; omega
    have h2 := (List.getElem?_eq_some_iff.1 ho).1
    omega
  | cons o os ih =>
    intro k env h l env' h' hd hh
    have hk : all[k]? = some o := by
      have := congrArg (fun l => l[0]?) hd
      simpa [List.getElem?_drop] using this
    have hd' : all.drop (k + 1) = os := by
      have := congrArg (List.drop 1) hd
      simpa [List.drop_drop, Nat.add_comm] using this
    simp only [drawE] at hh
    -- the first step
    have first : ∃ v h1 l1, l = (env, h, v) :: l1 ∧ drawE P call all (aheadOf all) (k + 1) os (putE env o.dst v) h1 = some (l1, env', h') ∧ (if Region.wanted o (yieldedE all env) then stepD P call all k o env h v h1 else v = undef ∧ h1 = h) := by
      split at hh
      · rename_i hw
        split at hh
        · rename_i hc
          split at hh
          · rename_i v h1 ho
            obtain ⟨⟨l1, r1⟩, h9, e⟩ := mapSome hh
            cases e
            exact ⟨v, _, l1, rfl, h9, by rw [if_pos hw]; unfold stepD; rw [if_pos hc]; exact ⟨h1, ho, rfl⟩⟩
          · cases hh
        · rename_i hc
          split at hh
          · rename_i v h1 ho
            obtain ⟨⟨l1, r1⟩, h9, e⟩ := mapSome hh
            cases e
            exact ⟨v, _, l1, rfl, h9, by rw [if_pos hw]; unfold stepD; rw [if_neg hc]; exact ho⟩
          · cases hh
      · rename_i hw
        obtain ⟨⟨l1, r1⟩, h9, e⟩ := mapSome hh
        cases e
        exact ⟨undef, h, l1, rfl, h9, by rw [if_neg hw]; exact ⟨rfl, rfl⟩⟩
    obtain ⟨v, h1, l1, hl1, hrest, hst⟩ := first
    subst hl1
    obtain ⟨Es, Hs, rv, e1, e2, e3, e4, e6, e7, e5⟩ := ih (k + 1) hd' hrest
    refine ⟨fun j => if j = k then env else Es j, fun j => if j = k then h else Hs j, fun j => if j = k then v else rv j, by simp, by simp, ?_, ?_, by simp [e6], fun j hj => ?_, fun j p hj hp => ?_⟩
    · have : k + (o :: os).length ≠ k := by simp
      dsimp only; rw [if_neg this, ← e3]; congr 1; simp; omega
    · have : k + (o :: os).length ≠ k := by simp
      dsimp only; rw [if_neg this, ← e4]; congr 1; simp; omega
    · cases j with
      | zero => simp
      | succ j =>
        have hne : k + (j + 1) ≠ k := by omega
        have := e7 j (by simp at hj; omega)
        dsimp only
        rw [if_neg hne, if_neg hne, if_neg hne, List.getElem?_cons_succ, this]
        rw [show k + 1 + j = k + (j + 1) by omega]
    · by_cases hjk : j = k
      · subst hjk
        rw [hk] at hp; cases hp
        have n1 : ¬ (j + 1 = j) := by omega
        dsimp only
        simp only [if_true, if_neg n1, e1, e2]
        exact ⟨by trivial, hst⟩
      · have n1 : ¬ (j + 1 = k) := by omega
        dsimp only
        simp only [if_neg hjk, if_neg n1]
        exact e5 j p (by omega) hp

end Go.AM
