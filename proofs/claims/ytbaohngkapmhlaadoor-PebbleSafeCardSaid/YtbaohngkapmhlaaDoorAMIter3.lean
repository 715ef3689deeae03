/- AM: ranges over functions that ask something of the heap which each round keeps up. -/
import Derived.Test.YtbaohngkapmhlaaDoorAMOps6
set_option linter.unusedSimpArgs false
set_option linter.unusedVariables false
namespace Go.AM
variable {P : Program} {prims : Prims}

/-- A function that tells things, one behind the other, in heaps of which 'I' holds; it writes what it made itself alone (A). -/
def IterOkI (P : Program) (prims : Prims) (f : Value) (I : AHeap → Prop) (xs : List (List Value)) (h : AHeap) : Prop :=
  ∀ (y : Value) (J : Nat → (Nat → Prop) → AHeap → Prop) (E : (Nat → Prop) → AHeap → Prop) (h0 : AHeap),
    h.next ≤ h0.next → h0.low ≤ h0.next → h0.low = h.low →
    (∀ i, Stab (J i)) → Stab E → (∀ i A h1, J i A h1 → I h1) →
    (∀ i x A h1, xs[i]? = some x → J i A h1 → (∀ id, A id → h0.next ≤ id ∧ id < h1.next) → h0.next ≤ h1.next → h1.low = h0.low → CallW P prims y x h1 fun v h2 => ∃ b, v = .bool b ∧ h1.next ≤ h2.next ∧ h2.low = h1.low ∧
      (∀ id, id < h1.next → A id → h2.get id = h1.get id) ∧ if b then J (i + 1) A h2 else E A h2) →
    J 0 none' h0 → CallW P prims f [y] h0 fun _ h' => ∃ A, (∀ id, A id → h0.next ≤ id ∧ id < h'.next) ∧ h0.next ≤ h'.next ∧ h'.low = h0.low ∧ (J xs.length A h' ∨ E A h')

theorem range_iterI (hp : PMono prims) {f : Operand} {ps : Array Tmp} {assign body : Code} {env : Env} {h : AHeap} {Q : XQ} {I : AHeap → Prop} {xs : List (List Value)}
    (hent : entersV P (evalE env f) = true) (ca : codeFine assign = true) (cb : codeFine body = true) (hps : ∀ x ∈ xs, x.length = ps.size) (hlow : h.low ≤ h.next)
    (hit : IterOkI P prims (evalE env f) I xs h)
    (J : Nat → (Nat → Prop) → AHeap → Prop) (E : AExit → (Nat → Prop) → AHeap → Prop) (hJ : ∀ i, Stab (J i)) (hI : ∀ i A h1, J i A h1 → h1.low = h.low → I h1) (hE : ∀ x, Stab (E x))
    (Mid : Nat → List Value → Env → (Nat → Prop) → AHeap → Prop) (hMid : ∀ i x e, Stab (Mid i x e))
    (asg : ∀ i x A h1, xs[i]? = some x → J i A h1 → (∀ id, A id → h.next ≤ id ∧ id < h1.next) → h.next < h1.next → h1.low = h.low → wpE P prims assign (setTmps env (ps.toList.zip x)) h1 fun y e h2 =>
      y = .normal ∧ h1.next ≤ h2.next ∧ h2.low = h1.low ∧ (∀ id, id < h1.next → A id → h2.get id = h1.get id) ∧ Mid i x e A h2)
    (h0 : ∀ o, J 0 (· = h.next) (h.alloc o))
    (step : ∀ i x e A h1, xs[i]? = some x → Mid i x e A h1 → (∀ id, A id → h.next ≤ id ∧ id < h1.next) → h.next < h1.next → h1.low = h.low → wpE P prims body e h1 fun y _ h3 =>
      h1.next ≤ h3.next ∧ h3.low = h1.low ∧ (∀ id, id < h1.next → A id → h3.get id = h1.get id) ∧ match y with | .normal => J (i + 1) A h3 | y => E y A h3)
    (hend : ∀ A h', J xs.length A h' → (∀ id, A id → h.next ≤ id) → h.next ≤ h'.next → h'.low = h.low → Q .normal env h')
    (hexit : ∀ x A h', E x A h' → (∀ id, A id → h.next ≤ id) → h.next ≤ h'.next → h'.low = h.low → Q x env h') :
    ExecW P prims (.rangeFunc f ps assign body) env h Q := by
  refine range_w hp hent ?_
  let L := h.next
  let r0 : ALoop := { state := .ready, pending := none, tmps := env, params := ps, assign, body }
  let J' : Nat → (Nat → Prop) → AHeap → Prop := fun i A h1 => J i (fun id => A id ∨ id = L) h1 ∧ h1.get L = some (.loop r0) ∧ h1.low = h.low ∧ ∀ id, A id → L < id
  let E' : (Nat → Prop) → AHeap → Prop := fun A h1 => ∃ x, x ≠ .normal ∧ E x (fun id => A id ∨ id = L) h1 ∧ h1.get L = some (.loop { r0 with state := .done, pending := jumpOf x }) ∧ h1.low = h.low ∧ ∀ id, A id → L < id
  have key := hit (.func (.yield L) #[] #[]) J' E' (h.alloc (.loop r0)) (Nat.le_succ _) (Nat.le_succ_of_le hlow) rfl ?_ ?_ ?_ ?_ ?_
  · refine key.mono ?_
    rintro v h' ⟨A, hA, hn, hl, hq⟩
    have hn' : h.next + 1 ≤ h'.next := hn
    rcases hq with ⟨q, hg, _, hAL⟩ | ⟨x, hx, q, hg, _, hAL⟩
    · refine ⟨r0, .normal, getLoopA_of (by rw [hl]; exact hlow) hg, by simp [r0], rfl, ?_⟩
      refine hend (fun id => A id ∨ id = L) _ (hJ _ _ _ _ _ q ((Fr.refl _ h').put _ (.inr (.inr rfl))) (fun _ e => e) (fun _ e => .inl e)) (fun id e => ?_) (by show h.next ≤ h'.next; omega) hl
      rcases e with e | e
      · have := hAL id e; show h.next ≤ id; have : h.next < id := this; omega
      · subst e; exact Nat.le_refl _
    · refine ⟨_, x, getLoopA_of (by rw [hl]; exact hlow) hg, by simp, jump_back, ?_⟩
      refine hexit x (fun id => A id ∨ id = L) _ (hE _ _ _ _ _ q ((Fr.refl _ h').put _ (.inr (.inr rfl))) (fun _ e => e) (fun _ e => .inl e)) (fun id e => ?_) (by show h.next ≤ h'.next; omega) hl
      rcases e with e | e
      · have := hAL id e; have : h.next < id := this; omega
      · subst e; exact Nat.le_refl _
  · rintro i A A' h1 h2 ⟨q, hg, hl, hAL⟩ fr g1 g2
    have hlt : L < h1.next := get_some_lt hg
    refine ⟨hJ _ _ _ _ _ q (fr.mono fun _ _ e => .inl e) (fun id e => e.imp (g1 id) (fun q => q)) (fun id e => ?_), ?_, fr.low.trans hl, fun id e => ?_⟩
    · rcases e with e | e
      · exact (g2 id e).imp .inl (fun q => q)
      · exact .inl (.inr e)
    · rw [fr.old L hlt (fun e => by have := hAL _ e; omega)]; exact hg
    · rcases g2 id e with e | e
      · exact hAL id e
      · omega
  · rintro A A' h1 h2 ⟨x, hx, q, hg, hl, hAL⟩ fr g1 g2
    have hlt : L < h1.next := get_some_lt hg
    refine ⟨x, hx, hE _ _ _ _ _ q (fr.mono fun _ _ e => .inl e) (fun id e => e.imp (g1 id) (fun q => q)) (fun id e => ?_), ?_, fr.low.trans hl, fun id e => ?_⟩
    · rcases e with e | e
      · exact (g2 id e).imp .inl (fun q => q)
      · exact .inl (.inr e)
    · rw [fr.old L hlt (fun e => by have := hAL _ e; omega)]; exact hg
    · rcases g2 id e with e | e
      · exact hAL id e
      · omega
  · rintro i A h1 ⟨q, _, hl, _⟩
    exact hI i _ _ q hl
  · rintro i x A h1 hx ⟨q, hg, hl, hAL⟩ hA hn hl'
    have hlt : L < h1.next := get_some_lt hg
    have hmem : x ∈ xs := List.mem_of_getElem? hx
    refine yield_w hp (r := r0) (getLoopA_of (by rw [hl]; exact hlow) hg) (hps x hmem) ca cb ?_
    have hA1 : ∀ id, (A id ∨ id = L) → h.next ≤ id ∧ id < h1.next := fun id e => by
      rcases e with e | e
      · have := hA id e; have h5 : (h.alloc (.loop r0)).next = h.next + 1 := rfl; rw [h5] at this; omega
      · subst e; exact ⟨Nat.le_refl _, hlt⟩
    refine wpE_mono (asg i x (fun id => A id ∨ id = L) h1 hx q hA1 hlt hl) ?_
    rintro y e h2 ⟨rfl, n2, l2, s2, q2⟩
    have hg2 : h2.get L = some (.loop r0) := by rw [s2 L hlt (.inr rfl)]; exact hg
    have hlt2 : L < h2.next := get_some_lt hg2
    have hl2 : h2.low = h.low := l2.trans hl
    refine ⟨rfl, r0, getLoopA_of (by rw [hl2]; exact hlow) hg2, rfl, ?_⟩
    have fr0 : Fr (fun id => A id ∨ id = L) h2 (h2.put L (some (.loop { r0 with state := .busy }))) := (Fr.refl _ h2).put _ (.inr (.inr rfl))
    have q' := hMid i x e _ _ _ _ q2 fr0 (fun _ e => e) (fun _ e => .inl e)
    have st := step i x e (fun id => A id ∨ id = L) _ hx q' (fun id e => ⟨(hA1 id e).1, by have := (hA1 id e).2; show id < h2.next; omega⟩) hlt2 hl2
    refine wpE_mono st ?_
    rintro y e h3 ⟨k1, k2, k3, k4⟩
    have hgL : h3.get L = some (.loop { r0 with state := .busy }) := by
      rw [k3 L hlt2 (.inr rfl), get_put_self rfl hlt2]
    have k2' : h3.low = h.low := k2.trans hl2
    have k1' : h2.next ≤ h3.next := k1
    refine ⟨_, getLoopA_of (by rw [k2']; exact hlow) hgL, _, rfl, Nat.le_trans n2 k1', k2.trans l2, ?_, ?_⟩
    · intro id h1' h2'
      have hne : id ≠ L := by rintro rfl; have := hAL _ h2'; omega
      rw [get_put_ne hne, k3 id (Nat.lt_of_lt_of_le h1' n2) (.inl h2'), get_put_ne hne, s2 id h1' (.inl h2')]
    · have hlt3 : L < h3.next := get_some_lt hgL
      have fr1 : ∀ o, Fr (fun id => A id ∨ id = L) h3 (h3.put L o) := fun o => (Fr.refl _ h3).put _ (.inr (.inr rfl))
      cases y with
      | normal =>
        simp only [jumpOf, Option.isNone_none, if_true]
        exact ⟨hJ _ _ _ _ _ k4 (fr1 _) (fun _ e => e) (fun _ e => .inl e), get_put_self rfl hlt3, k2', hAL⟩
      | exit j =>
        simp only [jumpOf, Option.isNone_some, Bool.false_eq_true, if_false]
        exact ⟨.exit j, by simp, hE _ _ _ _ _ k4 (fr1 _) (fun _ e => e) (fun _ e => .inl e), get_put_self rfl hlt3, k2', hAL⟩
      | ret =>
        simp only [jumpOf, Option.isNone_some, Bool.false_eq_true, if_false]
        exact ⟨.ret, by simp, hE _ _ _ _ _ k4 (fr1 _) (fun _ e => e) (fun _ e => .inl e), get_put_self rfl hlt3, k2', hAL⟩
  · refine ⟨?_, get_alloc_self rfl, rfl, fun id e => e.elim⟩
    exact (hJ 0) _ _ _ _ (h0 _) (Fr.refl _ _) (fun id e => .inr e) (fun id e => .inl (e.elim (fun q => q.elim) (fun q => q)))

end Go.AM
