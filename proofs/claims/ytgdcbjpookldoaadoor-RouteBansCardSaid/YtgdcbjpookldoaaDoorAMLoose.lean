/- AM: regions that draw their order: what only looks, and is not ordered with all that write. -/
import Derived.Test.YtgdcbjpookldoaaDoorAMDraw4
set_option linter.unusedSimpArgs false
set_option linter.unusedVariables false
namespace Go.AM
variable {P : Program} {B : Nat}

theorem zip_all_eq {f : Value → Value → Bool} : ∀ (l m : List Value), (∀ x y, f x y = true → x = y) → l.length = m.length → ((l.zip m).all fun p => f p.1 p.2) = true → l = m := by
  intro l
  induction l with
  | nil => intro m _ h _; cases m <;> simp_all
  | cons x l ih =>
    intro m hf h hz
    cases m with
    | nil => simp at h
    | cons y m =>
      simp only [List.zip_cons_cons, List.all_cons, Bool.and_eq_true] at hz
      rw [hf x y hz.1, ih m hf (by simpa using h) hz.2]

theorem sameV_eq : ∀ (n : Nat) (v v' : Value), sameV n v v' = true → v = v' := by
  intro n
  induction n with
  | zero => intro v v' h; simp [sameV] at h
  | succ n ih =>
    intro v v' h
    have arr : ∀ (a b : Array Value), a.size = b.size → ((a.toList.zip b.toList).all fun p => sameV n p.1 p.2) = true → a = b := by
      intro a b hs hz
      apply Array.ext'
      exact zip_all_eq _ _ ih (by simpa using hs) hz
    unfold sameV at h
    split at h <;> (try simp only [Bool.and_eq_true, decide_eq_true_eq, beq_iff_eq] at h) <;> first | rfl | (cases h; done) | skip
    · rw [h]
    · rw [h.1, h.2]
    · rw [h]
    · rw [h.1, h.2]
    · rw [h.1, h.2]
    · rw [h.1.1.1, h.1.1.2, h.1.2, h.2]
    · rw [h]
    · rw [h.1.1.1.1, arr _ _ h.1.1.1.2 h.1.1.2, arr _ _ h.1.2 h.2]
    · rw [h.1, ih _ _ h.2]
    · rw [arr _ _ h.1 h.2]
    · rw [arr _ _ h.1 h.2]

theorem VR.restrict {μ : Map} {k m : Nat} : ∀ (n : Nat) {v v' : Value}, belowV m n v = true → VR (upTo μ k) v v' → VR (upTo μ m) v v' := by
  intro n
  induction n with
  | zero => intro v v' h; simp [belowV] at h
  | succ n ih =>
    intro v v' h hv
    have up : ∀ {id loc}, upTo μ k id = some loc → id < m → upTo μ m id = some loc := by
      intro id loc e hm
      unfold upTo; rw [if_pos hm]; exact (upTo_some e).2
    have arr : ∀ {a : Array Value}, (a.toList.all fun x => belowV m n x) = true → ∀ (a' : Array Value), (∀ (i : Nat) (x x' : Value), a[i]? = some x → a'[i]? = some x' → VR (upTo μ k) x x') → ∀ (i : Nat) (x x' : Value), a[i]? = some x → a'[i]? = some x' → VR (upTo μ m) x x' := by
      intro a ha a' hva i x x' hx hx'
      refine ih ?_ (hva i x x' hx hx')
      exact List.all_eq_true.1 ha x (List.mem_of_getElem? (by rw [Array.getElem?_toList]; exact hx))
    cases hv with
    | bool b => exact .bool b
    | int a b => exact .int a b
    | float a b => exact .float a b
    | string s => exact .string s
    | pnil => exact .pnil
    | ptr id off loc hl => simp only [belowV, decide_eq_true_eq] at h; exact .ptr id off loc (up hl h)
    | snil => exact .snil
    | slice id off len cap cap' loc hl h1 h2 h3 h4 h5 h6 => simp only [belowV, decide_eq_true_eq] at h; exact .slice id off len cap cap' loc (up hl h) h1 h2 h3 h4 h5 h6
    | slice0 id off off' loc hl => simp only [belowV, decide_eq_true_eq] at h; exact .slice0 id off off' loc (up hl h)
    | mnil => exact .mnil
    | map id loc hl => simp only [belowV, decide_eq_true_eq] at h; exact .map id loc (up hl h)
    | func f a a' c c' hs h1 hc h2 => simp only [belowV, Bool.and_eq_true] at h; exact .func f a a' c c' hs (arr h.1 a' h1) hc (arr h.2 c' h2)
    | yield id loc hl => simp only [belowV, decide_eq_true_eq] at h; exact .yield id loc (up hl h)
    | nilFunc => exact .nilFunc
    | nilIface => exact .nilIface
    | iface t x x' hx => simp only [belowV] at h; exact .iface t x x' (ih h hx)
    | agg a a' hs h1 => simp only [belowV] at h; exact .agg a a' hs (arr h a' h1)
    | tuple a a' hs h1 => simp only [belowV] at h; exact .tuple a a' hs (arr h a' h1)

/-- A heap by what it holds. -/
theorem heap_of (f : Nat → Option AObj) : ∀ k, ∃ t : Tab AObj, ∀ id, t.get id = if id < k then f id else none := by
  intro k
  induction k with
  | zero => exact ⟨.leaf, fun id => by simp [Tab.get]⟩
  | succ k ih =>
    obtain ⟨t, ht⟩ := ih
    refine ⟨t.set k (f k), fun id => ?_⟩
    rw [Tab.get_set, ht]
    by_cases e : id = k
    · subst e; simp
    · rw [if_neg e]
      by_cases e2 : id < k
      · rw [if_pos e2, if_pos (by omega)]
      · rw [if_neg e2, if_neg (by omega)]

theorem view_of (h : AHeap) (n : Nat) : ∃ hX : AHeap, hX.next = n ∧ hX.low = n ∧ ∀ id, hX.get id = if id < n then h.get id else none := by
  obtain ⟨t, ht⟩ := heap_of (fun id => h.get id) n
  refine ⟨{ tab := t, next := n, low := n }, rfl, rfl, fun id => ?_⟩
  show (if id < n then t.get id else none) = _
  rw [ht]
  split <;> rfl

/-- What only looks goes by what the heap holds. -/
theorem aOp_read {ρ : Operand → Value} {op : Op} {h hX : AHeap} {v : Value} {h1 : AHeap} (hr : readsO op = true) (hg : ∀ id, hX.get id = h.get id) (hh : aOp P ρ op h = some (v, h1)) : aOp P ρ op hX = some (v, hX) := by
  have eL : ∀ t x, aLoad P hX t x = aLoad P h t x := fun t x => by unfold aLoad; split <;> first | rfl | simp only [hg]
  have eE : ∀ x, aEntries hX x = aEntries h x := fun x => by unfold aEntries; split <;> first | rfl | simp only [hg]
  have eK : ∀ t m k ok, aLookup P hX t m k ok = aLookup P h t m k ok := fun t m k ok => by unfold aLookup; split <;> first | rfl | simp only [eE]
  have eN : ∀ t x, aLen P hX t x = aLen P h t x := fun t x => by unfold aLen; split <;> first | rfl | simp only [hg]
  have eC : ∀ t x, aCap P hX t x = aCap P h t x := fun t x => by unfold aCap; split <;> first | rfl | simp only [hg]
  have eS : ∀ t x a b c, aSliceH P hX t x a b c = aSliceH P h t x a b c := fun t x a b c => by unfold aSliceH; split <;> first | rfl | simp only [hg]
  have eF : ∀ s n x, aFirst hX s n x = aFirst h s n x := fun s n x => by unfold aFirst; split <;> first | rfl | simp only [hg]
  have eV : ∀ s d x, aConvStr P hX s d x = aConvStr P h s d x := fun s d x => by unfold aConvStr; split <;> first | rfl | simp only [eF]
  unfold readsO at hr
  split at hr
  · simp only [aOp, aPure, aHeap, eL] at hh ⊢
    obtain ⟨a, ha, e⟩ := mapSome hh; cases e; rw [ha]; rfl
  · simp only [aOp, aPure, aHeap, eK] at hh ⊢
    obtain ⟨a, ha, e⟩ := mapSome hh; cases e; rw [ha]; rfl
  · simp only [aOp, aPure, aHeap, eS] at hh ⊢
    obtain ⟨a, ha, e⟩ := mapSome hh; cases e; rw [ha]; rfl
  · rename_i s d x
    simp only [aOp, aPure, aHeap, eV] at hh ⊢
    cases hc : aConvert P s d (ρ x) with
    | some u => rw [hc] at hh; simp only [Option.map_some] at hh ⊢; cases hh; rfl
    | none =>
      rw [hc] at hh
      simp only [Option.map_none] at hh ⊢
      obtain ⟨a, ha, e⟩ := mapSome hh; cases e; rw [ha]; rfl
  · simp only [aOp, aPure, aHeap, eN] at hh ⊢
    obtain ⟨t, h1', hh⟩ := bindSome hh
    obtain ⟨x, h2, hh⟩ := bindSome hh
    obtain ⟨a, ha, e⟩ := mapSome hh; cases e; rw [h1', h2]; simp only [Option.bind_some, ha]; rfl
  · simp only [aOp, aPure, aHeap, eC] at hh ⊢
    obtain ⟨t, h1', hh⟩ := bindSome hh
    obtain ⟨x, h2, hh⟩ := bindSome hh
    obtain ⟨a, ha, e⟩ := mapSome hh; cases e; rw [h1', h2]; simp only [Option.bind_some, ha]; rfl
  · cases hr

section
variable {all : List Oper} {Es : Nat → Env} {Hs : Nat → AHeap} {rv : Nat → Value} {μ0 : Map} {w0 : World} {a0 : Act} {L : Nat → Prop} {μ : Map} {a : Act} {w : World}

/-- A step that only looks. -/
theorem DInv.step_read (I : DInv P B all Es Hs μ0 w0 a0 L μ a w) (d : DrawOk all) (hk : HsOk all Hs) {call : CallV} {env : Env} {h : AHeap} {env' : Env} {h' : AHeap} (t : Trace P call all env h env' h' Es Hs rv)
    {j : Nat} {o : Oper} (ho : all[j]? = some o) (hr : ReadyD all L j) (hnw : isW all j = false) {v' : Value} {w' : World} (hv : VR (upTo μ (Hs (j + 1)).next) (rv j) v')
    (hsz : w.heap.size ≤ w'.heap.size) (hold : ∀ b, b < w.heap.size → w'.heap[b]? = w.heap[b]?) (henv : SameEnv w w') : DInv P B all Es Hs μ0 w0 a0 (fun i => i = j ∨ L i) μ (a.put o.dst v') w' := by
  have hj := (List.getElem?_eq_some_iff.1 ho).1
  obtain ⟨m0, hm, hmin, hmL, hobj, hown⟩ := I.heap
  refine ⟨fun i hi => ?_, fun i q hi hq e he hb => ?_, ?_, ?_, ?_, ?_, ?_, ?_, I.le, I.fresh, ?_, ?_, ?_, I.env.trans henv⟩
  · rcases hi with rfl | hi
    · exact hj
    · exact I.lt i hi
  · rcases hi with rfl | hi
    · exact .inr (hr.2 q hq e he hb)
    · exact .inr (I.closed i q hi hq e he hb)
  · rw [← I.tsize]; cases o.dst <;> simp [Act.put]
  · exact I.temps_step d t ho hr (Map.le_refl _) hv
  · refine ⟨m0, hm, hmin, fun x hx => ?_, fun id loc ob e1 e2 => ?_, hown⟩
    · constructor
      · rintro (rfl | hx')
        · rw [hnw] at hx; cases hx
        · exact (hmL x hx).1 hx'
      · intro h1; exact .inr ((hmL x hx).2 h1)
    · obtain ⟨O, o1, o2⟩ := hobj id loc ob e1 e2
      exact ⟨O, by rw [hold _ (I.dom id loc e1).1]; exact o1, o2⟩
  · intro id loc e1
    obtain ⟨d1, d2, d3⟩ := I.dom id loc e1
    refine ⟨Nat.lt_of_lt_of_le d1 hsz, d2, ?_⟩
    rcases d3 with d3 | ⟨i, d3, d4⟩
    · exact .inl d3
    · exact .inr ⟨i, .inr d3, d4⟩
  · have := I.base; omega
  · intro x hx hL id hid hn
    rcases hL with rfl | hL
    · rw [hnw] at hx; cases hx
    · exact I.still x hx hL id hid hn
  · have := I.size; omega
  · intro b hb hm'
    rw [hold b (Nat.lt_of_lt_of_le hb I.size)]; exact I.frame b hb hm'
  · rw [put_defers]; exact I.defers

/-- What 'looseOk' says of one. -/
def LooseOk (P : Program) (all : List Oper) (Es : Nat → Env) (Hs : Nat → AHeap) (rv : Nat → Value) : Prop :=
  ∀ i o, loose all i = true → all[i]? = some o → Region.wanted o (yieldedE all (Es i)) = true → ∀ k, k ≤ all.length → feasible all i k = true → stable P (evalE (Es i)) o.op (Hs k) (Hs i).next (rv i) = true

/-- It is come to with just the first m0 operations' writing done. -/
theorem DInv.feas (I : DInv P B all Es Hs μ0 w0 a0 L μ a w) (d : DrawOk all) {j : Nat} {o : Oper} (ho : all[j]? = some o) (hr : ReadyD all L j) {m0 : Nat} (hmin : m0 = 0 ∨ isW all (m0 - 1) = true ∧ 0 < m0) (hmL : ∀ j, isW all j = true → (L j ↔ j < m0)) :
    feasible all j m0 = true := by
  unfold feasible
  simp only [Bool.and_eq_true, Bool.or_eq_true, beq_iff_eq, List.all_eq_true, List.mem_range, Bool.not_eq_true', decide_eq_true_eq]
  refine ⟨?_, fun x hx => ?_⟩
  · rcases hmin with h1 | ⟨h1, _⟩
    · exact .inl h1
    · exact .inr h1
  · cases hW : isW all x with
    | false => exact .inl rfl
    | true =>
      refine .inr ⟨?_, ?_⟩
      · cases e : isAhead (aheadOf all) x j with
        | false => exact .inl rfl
        | true => exact .inr ((hmL x hW).1 (I.ahead_in d ho hr e))
      · cases e : isAhead (aheadOf all) j x with
        | false => exact .inl rfl
        | true =>
          refine .inr ?_
          have h1 := I.behind_out d (List.getElem?_eq_getElem hx) hr e
          rcases Nat.lt_or_ge x m0 with h2 | h2
          · exact absurd ((hmL x hW).2 h2) h1
          · exact h2

theorem DInv.read (I : DInv P B all Es Hs μ0 w0 a0 L μ a w) (d : DrawOk all) (hk : HsOk all Hs) {call : CallV} {env : Env} {h : AHeap} {env' : Env} {h' : AHeap} (t : Trace P call all env h env' h' Es Hs rv)
    (lo : LooseOk P all Es Hs rv) {j : Nat} {o : Oper} (ho : all[j]? = some o) (hr : ReadyD all L j) (hl : loose all j = true) (hw : Region.wanted o (yieldedE all (Es j)) = true)
    (hev : ∀ x ∈ o.op.operands.toList, VR (upTo μ (Hs j).next) (evalE (Es j) x) (a.eval x)) :
    ∃ hX K, HR P B (upTo μ K) hX w ∧ hX.next = K ∧ hX.low = K ∧ aOp P (evalE (Es j)) o.op hX = some (rv j, hX) ∧ (Hs j).next ≤ K ∧ belowV (Hs j).next 20 (rv j) = true := by
  have hj := (List.getElem?_eq_some_iff.1 ho).1
  obtain ⟨m0, hm, hmin, hmL, hobj, hown⟩ := I.heap
  have hst := lo j o hl ho hw m0 hm (I.feas d ho hr hmin hmL)
  unfold stable at hst
  split at hst
  · rename_i u h1 hop
    simp only [Bool.and_eq_true] at hst
    have hu := sameV_eq _ _ _ hst.1
    subst hu
    have hrd := loose_reads ho hl
    have gk : ∀ id, ({ Hs m0 with next := min (Hs m0).next (Hs j).next } : AHeap).get id = if id < min (Hs m0).next (Hs j).next then (Hs m0).get id else none := by
      intro id
      unfold AHeap.get
      simp only
      by_cases e : id < min (Hs m0).next (Hs j).next
      · rw [if_pos e, if_pos e, if_pos (by omega)]
      · rw [if_neg e, if_neg e]
    obtain ⟨hX, x1, x2, x3⟩ := view_of { Hs m0 with next := min (Hs m0).next (Hs j).next } (max (Hs m0).next (Hs j).next)
    have hg : ∀ id, hX.get id = ({ Hs m0 with next := min (Hs m0).next (Hs j).next } : AHeap).get id := by
      intro id
      rw [x3]
      split
      · rfl
      · rw [gk, if_neg (by omega)]
    refine ⟨hX, max (Hs m0).next (Hs j).next, ⟨fun id loc e => ?_, fun id loc ob e g => ?_, fun id loc e _ l => ?_, by omega, I.base⟩, x1, x2, aOp_read hrd hg hop, by omega, hst.2⟩
    · obtain ⟨e1, e2⟩ := upTo_some e
      exact ⟨by omega, (I.dom id loc e2).1⟩
    · obtain ⟨e1, e2⟩ := upTo_some e
      rw [hg, gk] at g
      split at g
      · rename_i hlt
        have hb : born Hs id all.length ≤ m0 := by
          rcases Nat.lt_or_ge m0 (born Hs id all.length) with h2 | h2
          · have := born_min hk id all.length m0 (Nat.le_refl _) h2; omega
          · exact h2
        have e3 : max m0 (born Hs id all.length) = m0 := by omega
        have hc : cont Hs all.length m0 id = some ob := by unfold cont; rw [e3]; exact g
        obtain ⟨O, o1, o2⟩ := hobj id loc ob e2 hc
        rw [e3] at o2
        exact ⟨O, o1, o2.mono (upTo_mono (Map.le_refl _) (by omega))⟩
      · cases g
    · have := (upTo_some e).1; omega
  · cases hst

end
end Go.AM
