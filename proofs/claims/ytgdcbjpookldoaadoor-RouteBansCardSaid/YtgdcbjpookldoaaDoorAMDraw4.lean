/- AM: regions that draw their order: one step. -/
import Derived.Test.YtgdcbjpookldoaaDoorAMDraw3
set_option linter.unusedSimpArgs false
set_option linter.unusedVariables false
namespace Go.AM
variable {P : Program} {B : Nat}

theorem HR.protect {μ : Map} {h : AHeap} {w : World} (hr : HR P B μ h w) : HR P B μ { h with low := h.next } w :=
  ⟨hr.dom, hr.obj, fun id loc a _ l => absurd (hr.dom id loc a).1 (Nat.not_lt.2 l), Nat.le_refl _, hr.base⟩

/-- A heap with nothing in it. -/
def blank (n : Nat) : AHeap := { tab := .leaf, next := n, low := n }
theorem blank_get (n id : Nat) : (blank n).get id = none := by unfold blank AHeap.get; split <;> simp [Tab.get]

theorem not_mine_protect {μ : Map} {h : AHeap} (hd : ∀ id loc, μ id = some loc → id < h.next) (hl : h.low = h.next) (b : Nat) : ¬ Mine μ h b := by
  rintro ⟨id, loc, a, _, l, _⟩
  have := hd id loc a
  omega

/-- What reads only does not care which objects may be written. -/
theorem aOp_protect {ρ : Operand → Value} {op : Op} {h : AHeap} {v : Value} {h' : AHeap} (k : Nat) (hw : writesO op = false) (hh : aOp P ρ op h = some (v, h')) :
    ∃ h1, aOp P ρ op { h with low := k } = some (v, h1) ∧ h' = { h1 with low := h.low } := by
  unfold aOp at hh ⊢
  simp only
  split at hh
  · cases hh; exact ⟨_, rfl, rfl⟩
  · cases hh; exact ⟨_, rfl, rfl⟩
  · unfold aHeap at hh ⊢
    split at hh
    · obtain ⟨a, ha, e⟩ := mapSome hh; cases e
      exact ⟨{ h with low := k }, by show ((aLoad P h _ _).map _) = _; rw [ha]; rfl, rfl⟩
    · obtain ⟨a, ha, e⟩ := mapSome hh; cases e
      exact ⟨{ h with low := k }, by show ((aSliceH P h _ _ _ _ _).map _) = _; rw [ha]; rfl, rfl⟩
    · simp [writesO] at hw
    · obtain ⟨a, ha, e⟩ := mapSome hh; cases e
      exact ⟨{ h with low := k }, by show ((aLookup P h _ _ _ _).map _) = _; rw [ha]; rfl, rfl⟩
    · obtain ⟨a, ha, e⟩ := mapSome hh; cases e
      exact ⟨{ h with low := k }, by show ((aConvStr P h _ _ _).map _) = _; rw [ha]; rfl, rfl⟩
    · simp [writesO] at hw
    · simp [writesO] at hw
    · split at hh
      · obtain ⟨t, h1, hh⟩ := bindSome hh
        obtain ⟨x, h2, hh⟩ := bindSome hh
        obtain ⟨a, ha, e⟩ := mapSome hh; cases e
        refine ⟨{ h with low := k }, ?_, rfl⟩
        simp only [h1, h2, Option.bind_some]
        show ((aLen P h _ _).map _) = _; rw [ha]; rfl
      · obtain ⟨t, h1, hh⟩ := bindSome hh
        obtain ⟨x, h2, hh⟩ := bindSome hh
        obtain ⟨a, ha, e⟩ := mapSome hh; cases e
        refine ⟨{ h with low := k }, ?_, rfl⟩
        simp only [h1, h2, Option.bind_some]
        show ((aCap P h _ _).map _) = _; rw [ha]; rfl
      · simp [writesO] at hw
      · simp [writesO] at hw
      · simp [writesO] at hw
      · simp [writesO] at hw
      · cases hh
    · cases hh

/-- What does not look runs as well on nothing. -/
theorem aOp_blank {ρ : Operand → Value} {op : Op} {h : AHeap} {v : Value} {h' : AHeap} (hw : looksO op = false) (hh : aOp P ρ op h = some (v, h')) :
    ∃ h1, aOp P ρ op (blank h.next) = some (v, h1) ∧ h1.next = h'.next ∧ ∀ id, h.next ≤ id → h1.get id = h'.get id := by
  unfold aOp at hh ⊢
  show ∃ h1, (match aPure P ρ op h.next with
    | some (v, none) => some (v, blank h.next)
    | some (v, some o) => some (v, (blank h.next).alloc o)
    | none => aHeap P ρ op (blank h.next)) = some (v, h1) ∧ _
  split at hh
  · rename_i e
    cases hh
    exact ⟨blank h.next, by rw [e], rfl, fun id hid => by rw [blank_get, h.get_ge id hid]⟩
  · rename_i o e
    cases hh
    refine ⟨(blank h.next).alloc o, by rw [e], rfl, fun id hid => ?_⟩
    rw [AHeap.get_alloc, AHeap.get_alloc, blank_get]
    show (if id = h.next then _ else _) = _
    split
    · rfl
    · rw [h.get_ge id hid]
  · unfold aHeap at hh
    split at hh
    · simp [looksO] at hw
    · simp [looksO] at hw
    · simp [looksO] at hw
    · simp [looksO] at hw
    · simp [looksO] at hw
    · simp [looksO] at hw
    · simp [looksO] at hw
    · split at hh <;> first | cases hh | simp [looksO] at hw
    · cases hh

theorem HsOk.keepsLe {all : List Oper} {Hs : Nat → AHeap} (k : HsOk all Hs) {i j : Nat} (hij : i ≤ j) (hj : j ≤ all.length) : Keeps (Hs i) (Hs j) := by
  induction j with
  | zero => have : i = 0 := by omega
            subst this; exact Keeps.refl _
  | succ j ih =>
    rcases Nat.lt_or_ge i (j + 1) with h | h
    · exact (ih (by omega) (by omega)).trans (k.keeps j (by omega))
    · have : i = j + 1 := by omega
      subst this; exact Keeps.refl _

section
variable {all : List Oper} {Es : Nat → Env} {Hs : Nat → AHeap} {rv : Nat → Value} {μ0 : Map} {w0 : World} {a0 : Act} {L : Nat → Prop} {μ : Map} {a : Act} {w : World}

/-- The map behind a step. -/
def joinMap (μ μj : Map) (k : Nat) : Map := fun id => if id < k then μj id else μ id
theorem joinMap_lt {μ μj : Map} {k id : Nat} (h : id < k) : joinMap μ μj k id = μj id := by unfold joinMap; rw [if_pos h]
theorem joinMap_ge {μ μj : Map} {k id : Nat} (h : k ≤ id) : joinMap μ μj k id = μ id := by unfold joinMap; rw [if_neg (by omega)]
theorem upTo_join {μ μj : Map} {k : Nat} (h : ∀ id loc, μj id = some loc → id < k) : upTo (joinMap μ μj k) k = μj := by
  funext id
  unfold upTo joinMap
  split
  · rfl
  · cases e : μj id with
    | none => rfl
    | some l => have := h id l e; omega
theorem upTo_some {μ : Map} {k id : Nat} {loc : Loc} (h : upTo μ k id = some loc) : id < k ∧ μ id = some loc := by
  unfold upTo at h
  split at h
  · exact ⟨by assumption, h⟩
  · cases h

/-- No object of j's is there before j. -/
theorem DInv.unborn (I : DInv P B all Es Hs μ0 w0 a0 L μ a w) (hk : HsOk all Hs) {j : Nat} (hj : j < all.length) (hnl : ¬ L j) {id : Nat} (h1 : (Hs j).next ≤ id) (h2 : id < (Hs (j + 1)).next) : μ id = none := by
  cases e : μ id with
  | none => rfl
  | some loc =>
    obtain ⟨_, _, h3⟩ := I.dom id loc e
    rcases h3 with h3 | ⟨i, hi, h3, h4⟩
    · have := hk.next_mono (Nat.zero_le j) (by omega); omega
    · have hil := I.lt i hi
      rcases Nat.lt_trichotomy i j with h5 | h5 | h5
      · have := hk.next_mono (show i + 1 ≤ j by omega) (by omega); omega
      · subst h5; exact absurd hi hnl
      · have := hk.next_mono (show j + 1 ≤ i by omega) (by omega); omega

/-- The map of a step is the old one on what is old. -/
theorem join_le (I : DInv P B all Es Hs μ0 w0 a0 L μ a w) (hk : HsOk all Hs) {j : Nat} (hj : j < all.length) (hnl : ¬ L j) {μj : Map} (hle : (upTo μ (Hs j).next).le μj) : μ.le (joinMap μ μj (Hs (j + 1)).next) := by
  intro id loc h
  rcases Nat.lt_or_ge id (Hs (j + 1)).next with h1 | h1
  · rw [joinMap_lt h1]
    rcases Nat.lt_or_ge id (Hs j).next with h2 | h2
    · exact hle id loc (by unfold upTo; rw [if_pos h2]; exact h)
    · rw [I.unborn hk hj hnl h2 h1] at h; cases h
  · rw [joinMap_ge h1]; exact h

/-- What the map of a step says. -/
theorem join_cases (I : DInv P B all Es Hs μ0 w0 a0 L μ a w) (hk : HsOk all Hs) {j : Nat} (hj : j < all.length) (hnl : ¬ L j) {μj : Map} (hle : (upTo μ (Hs j).next).le μj)
    (hfr : ∀ id loc, μj id = some loc → upTo μ (Hs j).next id = none → (Hs j).next ≤ id) {id : Nat} {loc : Loc} (h : joinMap μ μj (Hs (j + 1)).next id = some loc) :
    (μ id = some loc ∧ (id < (Hs j).next ∨ (Hs (j + 1)).next ≤ id)) ∨ (μ id = none ∧ μj id = some loc ∧ (Hs j).next ≤ id ∧ id < (Hs (j + 1)).next) := by
  rcases Nat.lt_or_ge id (Hs (j + 1)).next with h1 | h1
  · rw [joinMap_lt h1] at h
    rcases Nat.lt_or_ge id (Hs j).next with h2 | h2
    · refine .inl ⟨?_, .inl h2⟩
      cases e : upTo μ (Hs j).next id with
      | none => have := hfr id loc h e; omega
      | some l =>
        have := hle id l e
        rw [h] at this; cases this
        exact (upTo_some e).2
    · exact .inr ⟨I.unborn hk hj hnl h2 h1, h, h2, h1⟩
  · rw [joinMap_ge h1] at h; exact .inl ⟨h, .inr h1⟩

/-- A step that writes nothing that lay there. -/
theorem DInv.step_ro (I : DInv P B all Es Hs μ0 w0 a0 L μ a w) (d : DrawOk all) (hk : HsOk all Hs) {call : CallV} {env : Env} {h : AHeap} {env' : Env} {h' : AHeap} (t : Trace P call all env h env' h' Es Hs rv)
    {j : Nat} {o : Oper} (ho : all[j]? = some o) (hr : ReadyD all L j) (hnw : isW all j = false) {hX hX1 : AHeap} (x1 : hX.next = (Hs j).next) (x2 : hX.low = hX.next) (x3 : hX1.next = (Hs (j + 1)).next)
    (x4 : ∀ id, (Hs j).next ≤ id → hX1.get id = (Hs (j + 1)).get id) (hrX : HR P B (upTo μ (Hs j).next) hX w) {μj : Map} {v' : Value} {w' : World} (hv : VR μj (rv j) v')
    (p : Post P B (upTo μ (Hs j).next) hX w μj hX1 w') (kp : Keeps hX hX1) : DInv P B all Es Hs μ0 w0 a0 (fun i => i = j ∨ L i) (joinMap μ μj (Hs (j + 1)).next) (a.put o.dst v') w' := by
  have hj := (List.getElem?_eq_some_iff.1 ho).1
  have nm : ∀ b, ¬ Mine (upTo μ (Hs j).next) hX b := not_mine_protect (fun id loc e => by rw [x1]; exact (upTo_some e).1) x2
  have hle := join_le I hk hj hr.1 p.le
  have hfr : ∀ id loc, μj id = some loc → upTo μ (Hs j).next id = none → (Hs j).next ≤ id := fun id loc e1 e2 => by rw [← x1]; exact (p.fresh id loc e1 e2).1
  have hnew : ∀ id loc, μj id = some loc → upTo μ (Hs j).next id = none → w.heap.size ≤ loc.blk := fun id loc e1 e2 => ((p.fresh id loc e1 e2).2).resolve_right (nm _)
  have hdj : ∀ id loc, μj id = some loc → id < (Hs (j + 1)).next := fun id loc e => by rw [← x3]; exact (p.hr.dom id loc e).1
  have hup := upTo_join (μ := μ) hdj
  have hcs := fun {id loc} (e : joinMap μ μj (Hs (j + 1)).next id = some loc) => join_cases I hk hj hr.1 p.le hfr e
  have upnone : ∀ {id}, μ id = none → upTo μ (Hs j).next id = none := fun {id} e => by unfold upTo; split <;> first | exact e | rfl
  obtain ⟨m0, hm, hmin, hmL, hobj, hown⟩ := I.heap
  -- a new object's content
  have cnew : ∀ id, (Hs j).next ≤ id → id < (Hs (j + 1)).next → μ id = none → joinMap μ μj (Hs (j + 1)).next id ≠ none → cont Hs all.length m0 id = (Hs (j + 1)).get id ∧ j + 1 ≤ max m0 (born Hs id all.length) := by
    intro id h1 h2 h3 _
    have hb1 : born Hs id all.length ≤ j + 1 := by
      rcases Nat.lt_or_ge (j + 1) (born Hs id all.length) with h | h
      · have := born_min hk id all.length (j + 1) (Nat.le_refl _) h; omega
      · exact h
    have hb2 : j + 1 ≤ born Hs id all.length := by
      rcases Nat.lt_or_ge j (born Hs id all.length) with h | h
      · exact h
      · have hl := born_lt Hs id all.length (Nat.lt_of_lt_of_le h2 (hk.next_mono (by omega) (Nat.le_refl _)))
        have := hk.next_mono h (by omega); omega
    have hb : born Hs id all.length = j + 1 := by omega
    refine ⟨?_, by omega⟩
    unfold cont
    rw [hb]
    refine hk.between (by omega) (by omega) h2 (fun x a1 a2 a3 => ?_)
    have hx : x < m0 := by omega
    exact I.still x a3 ((hmL x a3).2 hx) id (Nat.lt_of_lt_of_le h2 (hk.next_mono (by omega) (by omega))) h3
  have oldW : ∀ b, b < w.heap.size → w'.heap[b]? = w.heap[b]? := fun b hb => p.frame b hb (nm b)
  refine ⟨fun i hi => ?_, fun i q hi hq e he hb => ?_, ?_, ?_, ?_, ?_, ?_, ?_, ?_, ?_, ?_, ?_, ?_, ?_⟩
  · rcases hi with rfl | hi
    · exact hj
    · exact I.lt i hi
  · rcases hi with rfl | hi
    · exact .inr (hr.2 q hq e he hb)
    · exact .inr (I.closed i q hi hq e he hb)
  · rw [← I.tsize]; cases o.dst <;> simp [Act.put]
  · exact I.temps_step d t ho hr hle (by rw [hup]; exact hv)
  · refine ⟨m0, hm, hmin, fun x hx => ?_, fun id loc ob e1 e2 => ?_, fun id loc e1 e2 e3 => ?_⟩
    · constructor
      · rintro (rfl | hx')
        · rw [hnw] at hx; cases hx
        · exact (hmL x hx).1 hx'
      · intro h1; exact .inr ((hmL x hx).2 h1)
    · rcases hcs e1 with ⟨g1, _⟩ | ⟨g1, g2, g3, g4⟩
      · obtain ⟨O, o1, o2⟩ := hobj id loc ob g1 e2
        exact ⟨O, by rw [oldW _ (I.dom id loc g1).1]; exact o1, o2.mono (upTo_mono hle (Nat.le_refl _))⟩
      · obtain ⟨c1, c2⟩ := cnew id g3 g4 g1 (by rw [e1]; simp)
        rw [c1, ← x4 id g3] at e2
        obtain ⟨O, o1, o2⟩ := p.hr.obj id loc ob g2 e2
        refine ⟨O, o1, ?_⟩
        rw [← hup] at o2
        exact o2.mono (upTo_mono (Map.le_refl _) (hk.next_mono c2 (by have := born_le Hs id all.length; omega)))
    · rcases hcs e1 with ⟨g1, _⟩ | ⟨g1, g2, g3, g4⟩
      · obtain ⟨b1, b2⟩ := hown id loc g1 e2 e3
        refine ⟨b1, fun id' loc' e1' e2' ne => ?_⟩
        rcases hcs e1' with ⟨g1', _⟩ | ⟨g1', g2', _, _⟩
        · exact b2 id' loc' g1' e2' ne
        · have := hnew id' loc' g2' (upnone g1')
          have := (I.dom id loc g1).1
          omega
      · have c1 := (cnew id g3 g4 g1 (by rw [e1]; simp)).1
        have e2' : hX1.get id ≠ none := by rw [x4 id g3, ← c1]; exact e2
        obtain ⟨b1, b2⟩ := p.hr.own id loc g2 e2' (by rw [kp.low, x2, x1]; exact g3)
        refine ⟨b1, fun id' loc' f1 f2 ne => ?_⟩
        rcases hcs f1 with ⟨g1', _⟩ | ⟨g1', g2', g3', g4'⟩
        · have := hnew id loc g2 (upnone g1)
          have := (I.dom id' loc' g1').1
          omega
        · have c1' := (cnew id' g3' g4' g1' (by rw [f1]; simp)).1
          exact b2 id' loc' g2' (by rw [x4 id' g3', ← c1']; exact f2) ne
  · intro id loc e1
    rcases hcs e1 with ⟨g1, _⟩ | ⟨g1, g2, g3, g4⟩
    · obtain ⟨d1, d2, d3⟩ := I.dom id loc g1
      refine ⟨Nat.lt_of_lt_of_le d1 p.size, d2, ?_⟩
      rcases d3 with d3 | ⟨i, d3, d4⟩
      · exact .inl d3
      · exact .inr ⟨i, .inr d3, d4⟩
    · exact ⟨(p.hr.dom id loc g2).2, Nat.lt_of_lt_of_le g4 (hk.next_mono (by omega) (Nat.le_refl _)), .inr ⟨j, .inl rfl, g3, g4⟩⟩
  · exact p.hr.base
  · intro x hx hL id hid hn
    rcases hL with rfl | hL
    · rw [hnw] at hx; cases hx
    · refine I.still x hx hL id hid ?_
      cases e : μ id with
      | none => rfl
      | some l => rw [hle id l e] at hn; cases hn
  · exact Map.le_trans I.le hle
  · intro id loc e1 e2
    rcases hcs e1 with ⟨g1, _⟩ | ⟨g1, g2, g3, g4⟩
    · exact I.fresh id loc g1 e2
    · refine ⟨Nat.le_trans (hk.next_mono (Nat.zero_le j) (by omega)) g3, .inl ?_⟩
      exact Nat.le_trans I.size (hnew id loc g2 (upnone g1))
  · exact Nat.le_trans I.size p.size
  · intro b hb hm'
    rw [oldW b (Nat.lt_of_lt_of_le hb I.size)]; exact I.frame b hb hm'
  · rw [put_defers]; exact I.defers
  · exact I.env.trans p.env

/-- The writers done when what looks comes up. -/
theorem DInv.writers (I : DInv P B all Es Hs μ0 w0 a0 L μ a w) (d : DrawOk all) {j : Nat} {o : Oper} (ho : all[j]? = some o) (hr : ReadyD all L j) (hl : looksO o.op = true) (hnl : loose all j = false) :
    (∀ x, isW all x = true → x < j → L x) ∧ (∀ x, isW all x = true → j ≤ x → ¬ L x) := by
  refine ⟨fun x hx h1 => ?_, fun x hx h1 => ?_⟩
  · obtain ⟨p, hp, hpl, htie⟩ := W_tied d hx
    rcases W_ordered d hx ho hl hnl (by omega) with h2 | h2
    · have := ahead_lt d x j hp h2; omega
    · exact I.ahead_in d ho hr h2
  · rcases Nat.lt_or_ge j x with h3 | h3
    · obtain ⟨p, hp, hpl, htie⟩ := W_tied d hx
      rcases W_ordered d hx ho hl hnl (by omega) with h2 | h2
      · exact I.behind_out d hp hr h2
      · have := ahead_lt d j x ho h2; omega
    · have : x = j := by omega
      subst this; exact hr.1

/-- The heap that what looks finds. -/
theorem DInv.hrAt (I : DInv P B all Es Hs μ0 w0 a0 L μ a w) (d : DrawOk all) (hk : HsOk all Hs) {j : Nat} {o : Oper} (ho : all[j]? = some o) (hr : ReadyD all L j) (hl : looksO o.op = true) (hnl : loose all j = false) :
    HR P B (upTo μ (Hs j).next) (Hs j) w := by
  have hj := (List.getElem?_eq_some_iff.1 ho).1
  obtain ⟨w1, w2⟩ := I.writers d ho hr hl hnl
  obtain ⟨m0, hm, hmin, hmL, hobj, hown⟩ := I.heap
  have hmj : m0 ≤ j := by
    rcases hmin with h1 | ⟨h1, h2⟩
    · omega
    · have h3 := (hmL _ h1).2 (by omega)
      rcases Nat.lt_or_ge (m0 - 1) j with h4 | h4
      · omega
      · exact absurd h3 (w2 _ h1 h4)
  have ca : ∀ id, id < (Hs j).next → cont Hs all.length m0 id = (Hs j).get id := fun id hid =>
    cont_at hk hm (by omega) (fun x a b => (hmL x a).1 (w1 x a b)) (fun x a b => by
      rcases Nat.lt_or_ge x m0 with h5 | h5
      · exact absurd ((hmL x a).2 h5) (w2 x a b)
      · exact h5) hid
  have bj : ∀ id, id < (Hs j).next → born Hs id all.length ≤ j := fun id hid => by
    rcases Nat.lt_or_ge j (born Hs id all.length) with h | h
    · have := born_min hk id all.length j (Nat.le_refl _) h; omega
    · exact h
  refine ⟨fun id loc e => ?_, fun id loc ob e g => ?_, fun id loc e g l => ?_, hk.lowN j (by omega), I.base⟩
  · obtain ⟨e1, e2⟩ := upTo_some e
    exact ⟨e1, (I.dom id loc e2).1⟩
  · obtain ⟨e1, e2⟩ := upTo_some e
    rw [← ca id e1] at g
    obtain ⟨O, o1, o2⟩ := hobj id loc ob e2 g
    exact ⟨O, o1, o2.mono (upTo_mono (Map.le_refl _) (hk.next_mono (by have := bj id e1; omega) (by omega)))⟩
  · obtain ⟨e1, e2⟩ := upTo_some e
    rw [← ca id e1] at g
    obtain ⟨b1, b2⟩ := hown id loc e2 g (by rw [← hk.low j (by omega)]; exact l)
    refine ⟨b1, fun id' loc' f1 f2 ne => ?_⟩
    obtain ⟨f3, f4⟩ := upTo_some f1
    rw [← ca id' f3] at f2
    exact b2 id' loc' f4 f2 ne

/-- A step of a writer. -/
theorem DInv.step_w (I : DInv P B all Es Hs μ0 w0 a0 L μ a w) (d : DrawOk all) (hk : HsOk all Hs) {call : CallV} {env : Env} {h : AHeap} {env' : Env} {h' : AHeap} (t : Trace P call all env h env' h' Es Hs rv)
    (hdom0 : ∀ id loc, μ0 id = some loc → id < (Hs 0).next) {j : Nat} {o : Oper} (ho : all[j]? = some o) (hr : ReadyD all L j) (hW : isW all j = true) {μj : Map} {v' : Value} {w' : World} (hv : VR μj (rv j) v')
    (p : Post P B (upTo μ (Hs j).next) (Hs j) w μj (Hs (j + 1)) w') : DInv P B all Es Hs μ0 w0 a0 (fun i => i = j ∨ L i) (joinMap μ μj (Hs (j + 1)).next) (a.put o.dst v') w' := by
  have hj := (List.getElem?_eq_some_iff.1 ho).1
  have hl : looksO o.op = true := by
    obtain ⟨q, hq, hql, _⟩ := W_tied d hW
    rw [ho] at hq; cases hq; exact hql
  have hnl := not_loose ho (W_reads ho hW)
  have hrX := I.hrAt d hk ho hr hl hnl
  obtain ⟨w1, w2⟩ := I.writers d ho hr hl hnl
  have kp := hk.keeps j hj
  have hle := join_le I hk hj hr.1 p.le
  have hfr : ∀ id loc, μj id = some loc → upTo μ (Hs j).next id = none → (Hs j).next ≤ id := fun id loc e1 e2 => (p.fresh id loc e1 e2).1
  have hdj : ∀ id loc, μj id = some loc → id < (Hs (j + 1)).next := fun id loc e => (p.hr.dom id loc e).1
  have hup := upTo_join (μ := μ) hdj
  have hcs := fun {id loc} (e : joinMap μ μj (Hs (j + 1)).next id = some loc) => join_cases I hk hj hr.1 p.le hfr e
  have upnone : ∀ {id}, μ id = none → upTo μ (Hs j).next id = none := fun {id} e => by unfold upTo; split <;> first | exact e | rfl
  obtain ⟨m0, hm, hmin, hmL, hobj, hown⟩ := I.heap
  have hmj : m0 ≤ j := by
    rcases hmin with h1 | ⟨h1, h2⟩
    · omega
    · have h3 := (hmL _ h1).2 (by omega)
      rcases Nat.lt_or_ge (m0 - 1) j with h4 | h4
      · omega
      · exact absurd h3 (w2 _ h1 h4)
  have ca : ∀ id, id < (Hs j).next → cont Hs all.length m0 id = (Hs j).get id := fun id hid =>
    cont_at hk hm (by omega) (fun x a b => (hmL x a).1 (w1 x a b)) (fun x a b => by
      rcases Nat.lt_or_ge x m0 with h5 | h5
      · exact absurd ((hmL x a).2 h5) (w2 x a b)
      · exact h5) hid
  have bj : ∀ id, id < (Hs (j + 1)).next → born Hs id all.length ≤ j + 1 := fun id hid => by
    rcases Nat.lt_or_ge (j + 1) (born Hs id all.length) with h | h
    · have := born_min hk id all.length (j + 1) (Nat.le_refl _) h; omega
    · exact h
  have clo : ∀ id, id < (Hs (j + 1)).next → cont Hs all.length (j + 1) id = (Hs (j + 1)).get id := fun id hid => by
    unfold cont
    have := bj id hid
    have e : max (j + 1) (born Hs id all.length) = j + 1 := by omega
    rw [e]
  have chi : ∀ id, (Hs (j + 1)).next ≤ id → id < (Hs all.length).next → cont Hs all.length (j + 1) id = cont Hs all.length m0 id ∧ max (j + 1) (born Hs id all.length) = max m0 (born Hs id all.length) := fun id hid hid2 => by
    have hb : j + 1 < born Hs id all.length := by
      rcases Nat.lt_or_ge (j + 1) (born Hs id all.length) with h | h
      · exact h
      · have hl := born_lt Hs id all.length hid2
        have := hk.next_mono h (by omega); omega
    have e1 : max (j + 1) (born Hs id all.length) = max m0 (born Hs id all.length) := by omega
    exact ⟨by unfold cont; rw [e1], e1⟩
  -- who is old and there after was there before
  have there : ∀ id, id < (Hs j).next → (Hs (j + 1)).get id ≠ none → (Hs j).get id ≠ none := fun id hid g e => g (kp.dead id hid e)
  have low0 : (Hs j).low = (Hs 0).low := hk.low j (by omega)
  -- a block of one that may be written is not that of a later object
  have apart : ∀ b, Mine (upTo μ (Hs j).next) (Hs j) b → ∀ id loc, μ id = some loc → (Hs (j + 1)).next ≤ id → cont Hs all.length m0 id ≠ none → loc.blk ≠ b := by
    rintro b ⟨i1, l1, a1, a2, a3, rfl⟩ id loc e1 e2 e3
    obtain ⟨b1, b2⟩ := upTo_some a1
    rw [← ca i1 b1] at a2
    exact (hown i1 l1 b2 a2 (by rw [← low0]; exact a3)).2 id loc e1 e3 (by have := kp.next; omega)
  -- what is mine now was mine, or is new
  have mine0 : ∀ b, Mine (upTo μ (Hs j).next) (Hs j) b → w0.heap.size ≤ b ∨ Mine μ0 (Hs 0) b := by
    rintro b ⟨i1, l1, a1, a2, a3, rfl⟩
    obtain ⟨b1, b2⟩ := upTo_some a1
    cases e : μ0 i1 with
    | none => exact (I.fresh i1 l1 b2 e).2
    | some l0 =>
      have := I.le i1 l0 e
      rw [b2] at this; cases this
      exact .inr ⟨i1, l1, e, fun g => a2 ((hk.keepsLe (Nat.zero_le j) (by omega)).dead i1 (hdom0 i1 l1 e) g), by rw [← low0]; exact a3, rfl⟩
  refine ⟨fun i hi => ?_, fun i q hi hq e he hb => ?_, ?_, ?_, ?_, ?_, ?_, ?_, ?_, ?_, ?_, ?_, ?_, ?_⟩
  · rcases hi with rfl | hi
    · exact hj
    · exact I.lt i hi
  · rcases hi with rfl | hi
    · exact .inr (hr.2 q hq e he hb)
    · exact .inr (I.closed i q hi hq e he hb)
  · rw [← I.tsize]; cases o.dst <;> simp [Act.put]
  · exact I.temps_step d t ho hr hle (by rw [hup]; exact hv)
  · refine ⟨j + 1, by omega, .inr ⟨hW, by omega⟩, fun x hx => ?_, fun id loc ob e1 e2 => ?_, fun id loc e1 e2 e3 => ?_⟩
    · constructor
      · rintro (rfl | hx')
        · omega
        · rcases Nat.lt_or_ge x j with h1 | h1
          · omega
          · exact absurd hx' (w2 x hx h1)
      · intro h1
        rcases Nat.lt_or_ge x j with h2 | h2
        · exact .inr (w1 x hx h2)
        · exact .inl (by omega)
    · rcases Nat.lt_or_ge id (Hs (j + 1)).next with h1 | h1
      · rw [clo id h1] at e2
        rw [joinMap_lt h1] at e1
        obtain ⟨O, o1, o2⟩ := p.hr.obj id loc ob e1 e2
        refine ⟨O, o1, ?_⟩
        rw [← hup] at o2
        exact o2.mono (upTo_mono (Map.le_refl _) (hk.next_mono (by omega) (by have := bj id h1; omega)))
      · rw [joinMap_ge h1] at e1
        obtain ⟨d1, d2, _⟩ := I.dom id loc e1
        obtain ⟨c1, c2⟩ := chi id h1 d2
        rw [c1] at e2
        obtain ⟨O, o1, o2⟩ := hobj id loc ob e1 e2
        refine ⟨O, ?_, by rw [c2]; exact o2.mono (upTo_mono hle (Nat.le_refl _))⟩
        rw [p.frame loc.blk d1 (fun hm' => apart _ hm' id loc e1 h1 (by rw [e2]; simp) rfl)]
        exact o1
    · -- ownership
      have newOr : ∀ i l, joinMap μ μj (Hs (j + 1)).next i = some l → i < (Hs (j + 1)).next → (Hs (j + 1)).get i ≠ none → ∀ i' l', μ i' = some l' → (Hs (j + 1)).next ≤ i' → cont Hs all.length m0 i' ≠ none → ((Hs 0).low ≤ i ∨ (Hs 0).low ≤ i') → l'.blk ≠ l.blk := by
        intro i l f1 f2 f3 i' l' f4 f5 f6 f7
        rcases hcs f1 with ⟨g1, g2⟩ | ⟨g1, g2, g3, g4⟩
        · have hi : i < (Hs j).next := by omega
          have c : cont Hs all.length m0 i ≠ none := by rw [ca i hi]; exact there i hi f3
          rcases f7 with f7 | f7
          · exact (hown i l g1 c f7).2 i' l' f4 f6 (by omega)
          · exact fun e => (hown i' l' f4 f6 f7).2 i l g1 c (by omega) e.symm
        · rcases (p.fresh i l g2 (upnone g1)).2 with h1 | h1
          · have := (I.dom i' l' f4).1; omega
          · exact apart _ h1 i' l' f4 f5 f6
      rcases Nat.lt_or_ge id (Hs (j + 1)).next with h1 | h1
      · rw [clo id h1] at e2
        have e1' := e1
        rw [joinMap_lt h1] at e1'
        obtain ⟨b1, b2⟩ := p.hr.own id loc e1' e2 (by rw [kp.low, low0]; exact e3)
        refine ⟨b1, fun id' loc' f1 f2 ne => ?_⟩
        rcases Nat.lt_or_ge id' (Hs (j + 1)).next with h2 | h2
        · rw [clo id' h2] at f2
          rw [joinMap_lt h2] at f1
          exact b2 id' loc' f1 f2 ne
        · rw [joinMap_ge h2] at f1
          rw [(chi id' h2 (I.dom id' loc' f1).2.1).1] at f2
          exact newOr id loc e1 h1 e2 id' loc' f1 h2 f2 (.inl e3)
      · rw [joinMap_ge h1] at e1
        rw [(chi id h1 (I.dom id loc e1).2.1).1] at e2
        obtain ⟨b1, b2⟩ := hown id loc e1 e2 e3
        refine ⟨b1, fun id' loc' f1 f2 ne => ?_⟩
        rcases Nat.lt_or_ge id' (Hs (j + 1)).next with h2 | h2
        · rw [clo id' h2] at f2
          exact fun e => newOr id' loc' f1 h2 f2 id loc e1 h1 e2 (.inr e3) e.symm
        · rw [joinMap_ge h2] at f1
          rw [(chi id' h2 (I.dom id' loc' f1).2.1).1] at f2
          exact b2 id' loc' f1 f2 ne
  · intro id loc e1
    rcases hcs e1 with ⟨g1, _⟩ | ⟨g1, g2, g3, g4⟩
    · obtain ⟨d1, d2, d3⟩ := I.dom id loc g1
      refine ⟨Nat.lt_of_lt_of_le d1 p.size, d2, ?_⟩
      rcases d3 with d3 | ⟨i, d3, d4⟩
      · exact .inl d3
      · exact .inr ⟨i, .inr d3, d4⟩
    · exact ⟨(p.hr.dom id loc g2).2, Nat.lt_of_lt_of_le g4 (hk.next_mono (by omega) (Nat.le_refl _)), .inr ⟨j, .inl rfl, g3, g4⟩⟩
  · exact p.hr.base
  · intro x hx hL id hid hn
    have hn' : μ id = none := by
      cases e : μ id with
      | none => rfl
      | some l => rw [hle id l e] at hn; cases hn
    rcases hL with rfl | hL
    · exact p.still id hid (upnone hn')
    · exact I.still x hx hL id hid hn'
  · exact Map.le_trans I.le hle
  · intro id loc e1 e2
    rcases hcs e1 with ⟨g1, _⟩ | ⟨g1, g2, g3, g4⟩
    · exact I.fresh id loc g1 e2
    · refine ⟨Nat.le_trans (hk.next_mono (Nat.zero_le j) (by omega)) g3, ?_⟩
      rcases (p.fresh id loc g2 (upnone g1)).2 with h1 | h1
      · exact .inl (Nat.le_trans I.size h1)
      · exact mine0 _ h1
  · exact Nat.le_trans I.size p.size
  · intro b hb hm'
    rw [p.frame b (Nat.lt_of_lt_of_le hb I.size) (fun hx => ?_)]
    · exact I.frame b hb hm'
    · rcases mine0 b hx with h1 | h1
      · omega
      · exact hm' h1
  · rw [put_defers]; exact I.defers
  · exact I.env.trans p.env

end
end Go.AM
