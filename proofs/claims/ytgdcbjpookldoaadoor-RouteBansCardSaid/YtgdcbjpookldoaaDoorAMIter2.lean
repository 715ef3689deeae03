/- AM: ranges over functions, where a round's own variables lie in memory; facts carried on by one word. -/
import Derived.Test.YtgdcbjpookldoaaDoorAMOps5
set_option linter.unusedSimpArgs false
set_option linter.unusedVariables false
namespace Go.AM
variable {P : Program} {prims : Prims}

theorem _root_.Eq.fr0 {h h' : AHeap} {id : Nat} {o : AObj} (hg : h.get id = some o) (fr : Fr none' h h') : h'.get id = some o := fr.get hg (fun q => q)
theorem _root_.LE.le.fr0 {h h' : AHeap} (hl : h.low ≤ h.next) (fr : Fr none' h h') : h'.low ≤ h'.next := fr.hl hl

theorem box_get {h h3 : AHeap} {id : Nat} {o o' : AObj} (e : (h.alloc o).put id (some o') = h3) (hi : id = h.next) : h3.get id = some o' ∧ Fr none' h h3 ∧ h3.next = h.next + 1 ∧ h3.low = h.low := by
  subst e; subst hi; exact ⟨get_put_self rfl (Nat.lt_succ_self _), ((Fr.refl _ _).alloc _).put _ (.inl (Nat.le_refl _)), rfl, rfl⟩
theorem new_get {h h3 : AHeap} {o : AObj} (e : h.alloc o = h3) : h3.get h.next = some o ∧ Fr none' h h3 ∧ h3.next = h.next + 1 ∧ h3.low = h.low := by
  subst e; exact ⟨get_alloc_self rfl, (Fr.refl _ _).alloc _, rfl, rfl⟩
theorem put_get {h h3 : AHeap} {id : Nat} {o : AObj} (e : h.put id (some o) = h3) (hid : id < h.next) : h3.get id = some o ∧ Fr (fun k => k = id) h h3 ∧ h3.next = h.next ∧ h3.low = h.low := by
  subst e; exact ⟨get_put_self rfl hid, (Fr.refl _ _).put _ (.inr rfl), rfl, rfl⟩
/-- What is written was made behind h: then nothing of h's is changed. -/
theorem Fr.fresh {h h2 h3 : AHeap} {S : Nat → Prop} (fr : Fr none' h h2) (fr2 : Fr S h2 h3) (hS : ∀ id, S id → h.next ≤ id) : Fr none' h h3 := fr.then fr2 fun id h1 h2 => by have := hS id h2; omega

theorem range_iter2 (hp : PMono prims) {f : Operand} {ps : Array Tmp} {assign body : Code} {env : Env} {h : AHeap} {Q : XQ} {R : Nat → Prop} {xs : List (List Value)}
    (hent : entersV P (evalE env f) = true) (ca : codeFine assign = true) (cb : codeFine body = true) (hps : ∀ x ∈ xs, x.length = ps.size) (hR : ∀ id, R id → id < h.next) (hlow : h.low ≤ h.next)
    (hit : IterOk P prims (evalE env f) R xs h)
    (J : Nat → (Nat → Prop) → AHeap → Prop) (E : AExit → (Nat → Prop) → AHeap → Prop) (hJ : ∀ i, Stab (J i)) (hE : ∀ x, Stab (E x))
    (Mid : Nat → List Value → Env → (Nat → Prop) → AHeap → Prop) (hMid : ∀ i x e, Stab (Mid i x e))
    (asg : ∀ i x A h1, xs[i]? = some x → J i A h1 → (∀ id, A id → h.next ≤ id ∧ id < h1.next) → h.next < h1.next → h1.low = h.low → (∀ id, R id → h1.get id = h.get id) → wpE P prims assign (setTmps env (ps.toList.zip x)) h1 fun y e h2 =>
      y = .normal ∧ h1.next ≤ h2.next ∧ h2.low = h1.low ∧ (∀ id, id < h1.next → (A id ∨ R id) → h2.get id = h1.get id) ∧ Mid i x e A h2)
    (h0 : ∀ o, J 0 (· = h.next) (h.alloc o))
    (step : ∀ i x e A h1, xs[i]? = some x → Mid i x e A h1 → (∀ id, A id → h.next ≤ id ∧ id < h1.next) → h.next < h1.next → h1.low = h.low → (∀ id, R id → h1.get id = h.get id) → wpE P prims body e h1 fun y _ h3 =>
      h1.next ≤ h3.next ∧ h3.low = h1.low ∧ (∀ id, id < h1.next → (A id ∨ R id) → h3.get id = h1.get id) ∧ match y with | .normal => J (i + 1) A h3 | y => E y A h3)
    (hend : ∀ A h', J xs.length A h' → (∀ id, A id → h.next ≤ id) → h.next ≤ h'.next → h'.low = h.low → Q .normal env h')
    (hexit : ∀ x A h', E x A h' → (∀ id, A id → h.next ≤ id) → h.next ≤ h'.next → h'.low = h.low → Q x env h') :
    ExecW P prims (.rangeFunc f ps assign body) env h Q := by
  refine range_w hp hent ?_
  let L := h.next
  let r0 : ALoop := { state := .ready, pending := none, tmps := env, params := ps, assign, body }
  let J' : Nat → (Nat → Prop) → AHeap → Prop := fun i A h1 => J i (fun id => A id ∨ id = L) h1 ∧ h1.get L = some (.loop r0) ∧ h1.low = h.low ∧ ∀ id, A id → L < id
  let E' : (Nat → Prop) → AHeap → Prop := fun A h1 => ∃ x, x ≠ .normal ∧ E x (fun id => A id ∨ id = L) h1 ∧ h1.get L = some (.loop { r0 with state := .done, pending := jumpOf x }) ∧ h1.low = h.low ∧ ∀ id, A id → L < id
  have key := hit (.func (.yield L) #[] #[]) J' E' (h.alloc (.loop r0)) (Nat.le_succ _) (fun id h1 h2 => get_alloc_ne (by omega)) (Nat.le_succ_of_le hlow) ?_ ?_ ?_ ?_
  · refine key.mono ?_
    rintro v h' ⟨A, hA, hn, hl, hq⟩
    have hn' : h.next + 1 ≤ h'.next := hn
    rcases hq with ⟨q, hg, _, hAL⟩ | ⟨x, hx, q, hg, _, hAL⟩
    · refine ⟨r0, .normal, getLoopA_of (by rw [hl]; exact hlow) hg, by simp [r0], rfl, ?_⟩
      refine hend (fun id => A id ∨ id = L) _ (hJ _ _ _ _ _ q ((Fr.refl _ h').put _ (.inr (.inr rfl))) (fun _ e => e) (fun _ e => .inl e)) (fun id e => ?_) (by show h.next ≤ h'.next; omega) hl
      rcases e with e | e
      · have := hAL id e; show h.next ≤ id; have : h.next < id := this; omega
      · subst e; exact Nat.le_refl _
    · refine ⟨_, x, getLoopA_of (by rw [hl]; exact hlow) hg, by simp, jump_back, ?_⟩
      refine hexit x (fun id => A id ∨ id = L) _ (hE _ _ _ _ _ q ((Fr.refl _ h').put _ (.inr (.inr rfl))) (fun _ e => e) (fun _ e => .inl e)) (fun id e => ?_) (by show h.next ≤ h'.next; omega) hl
      rcases e with e | e
      · have := hAL id e; have : h.next < id := this; omega
      · subst e; exact Nat.le_refl _
  · rintro i A A' h1 h2 ⟨q, hg, hl, hAL⟩ fr g1 g2
    have hlt : L < h1.next := get_some_lt hg
    refine ⟨hJ _ _ _ _ _ q (fr.mono fun _ _ e => .inl e) (fun id e => e.imp (g1 id) (fun q => q)) (fun id e => ?_), ?_, fr.low.trans hl, fun id e => ?_⟩
    · rcases e with e | e
      · exact (g2 id e).imp .inl (fun q => q)
      · exact .inl (.inr e)
    · rw [fr.old L hlt (fun e => by have := hAL _ e; omega)]; exact hg
    · rcases g2 id e with e | e
      · exact hAL id e
      · omega
  · rintro A A' h1 h2 ⟨x, hx, q, hg, hl, hAL⟩ fr g1 g2
    have hlt : L < h1.next := get_some_lt hg
    refine ⟨x, hx, hE _ _ _ _ _ q (fr.mono fun _ _ e => .inl e) (fun id e => e.imp (g1 id) (fun q => q)) (fun id e => ?_), ?_, fr.low.trans hl, fun id e => ?_⟩
    · rcases e with e | e
      · exact (g2 id e).imp .inl (fun q => q)
      · exact .inl (.inr e)
    · rw [fr.old L hlt (fun e => by have := hAL _ e; omega)]; exact hg
    · rcases g2 id e with e | e
      · exact hAL id e
      · omega
  · rintro i x A h1 hx ⟨q, hg, hl, hAL⟩ hA hn hl' hRk
    have hlt : L < h1.next := get_some_lt hg
    have hmem : x ∈ xs := List.mem_of_getElem? hx
    refine yield_w hp (r := r0) (getLoopA_of (by rw [hl]; exact hlow) hg) (hps x hmem) ca cb ?_
    have hA1 : ∀ id, (A id ∨ id = L) → h.next ≤ id ∧ id < h1.next := fun id e => by
      rcases e with e | e
      · have := hA id e; have h5 : (h.alloc (.loop r0)).next = h.next + 1 := rfl; rw [h5] at this; omega
      · subst e; exact ⟨Nat.le_refl _, hlt⟩
    have hR1 : ∀ id, R id → h1.get id = h.get id := fun id e => by
      rw [hRk id e]
      exact get_alloc_ne (by have := hR id e; omega)
    refine wpE_mono (asg i x (fun id => A id ∨ id = L) h1 hx q hA1 hlt hl hR1) ?_
    rintro y e h2 ⟨rfl, n2, l2, s2, q2⟩
    have hg2 : h2.get L = some (.loop r0) := by rw [s2 L hlt (.inl (.inr rfl))]; exact hg
    have hlt2 : L < h2.next := get_some_lt hg2
    have hl2 : h2.low = h.low := l2.trans hl
    refine ⟨rfl, r0, getLoopA_of (by rw [hl2]; exact hlow) hg2, rfl, ?_⟩
    have fr0 : Fr (fun id => A id ∨ id = L) h2 (h2.put L (some (.loop { r0 with state := .busy }))) := (Fr.refl _ h2).put _ (.inr (.inr rfl))
    have q' := hMid i x e _ _ _ _ q2 fr0 (fun _ e => e) (fun _ e => .inl e)
    have st := step i x e (fun id => A id ∨ id = L) _ hx q' (fun id e => ⟨(hA1 id e).1, by have := (hA1 id e).2; show id < h2.next; omega⟩) hlt2 hl2 (fun id e => ?_)
    · refine wpE_mono st ?_
      rintro y e h3 ⟨k1, k2, k3, k4⟩
      have hgL : h3.get L = some (.loop { r0 with state := .busy }) := by
        rw [k3 L hlt2 (.inl (.inr rfl)), get_put_self rfl hlt2]
      have k2' : h3.low = h.low := k2.trans hl2
      have k1' : h2.next ≤ h3.next := k1
      refine ⟨_, getLoopA_of (by rw [k2']; exact hlow) hgL, _, rfl, Nat.le_trans n2 k1', k2.trans l2, ?_, ?_⟩
      · intro id h1' h2'
        have hne : id ≠ L := by
          rintro rfl
          rcases h2' with e | e
          · have := hAL _ e; omega
          · have : L < h.next := hR _ e
            exact absurd this (Nat.lt_irrefl _)
        rw [get_put_ne hne, k3 id (Nat.lt_of_lt_of_le h1' n2) (h2'.imp .inl (fun q => q)), get_put_ne hne, s2 id h1' (h2'.imp .inl (fun q => q))]
      · have hlt3 : L < h3.next := get_some_lt hgL
        have fr1 : ∀ o, Fr (fun id => A id ∨ id = L) h3 (h3.put L o) := fun o => (Fr.refl _ h3).put _ (.inr (.inr rfl))
        cases y with
        | normal =>
          simp only [jumpOf, Option.isNone_none, if_true]
          exact ⟨hJ _ _ _ _ _ k4 (fr1 _) (fun _ e => e) (fun _ e => .inl e), get_put_self rfl hlt3, k2', hAL⟩
        | exit j =>
          simp only [jumpOf, Option.isNone_some, Bool.false_eq_true, if_false]
          exact ⟨.exit j, by simp, hE _ _ _ _ _ k4 (fr1 _) (fun _ e => e) (fun _ e => .inl e), get_put_self rfl hlt3, k2', hAL⟩
        | ret =>
          simp only [jumpOf, Option.isNone_some, Bool.false_eq_true, if_false]
          exact ⟨.ret, by simp, hE _ _ _ _ _ k4 (fr1 _) (fun _ e => e) (fun _ e => .inl e), get_put_self rfl hlt3, k2', hAL⟩
    · have hne : id ≠ L := by have := hR id e; show id ≠ h.next; omega
      rw [get_put_ne hne, s2 id (by have := hR id e; show id < h1.next; omega) (.inr e), hR1 id e]
  · refine ⟨?_, get_alloc_self rfl, rfl, fun id e => e.elim⟩
    exact (hJ 0) _ _ _ _ (h0 _) (Fr.refl _ _) (fun id e => .inr e) (fun id e => .inl (e.elim (fun q => q.elim) (fun q => q)))


/-- What a loop's round knows: of its own objects (S), none of which the function that tells writes (A), and of what was there (below B). -/
def JK (B : Nat) (K : (Nat → Prop) → AHeap → Prop) : (Nat → Prop) → AHeap → Prop := fun A h => B ≤ h.next ∧ (∀ id, A id → B ≤ id) ∧ ∃ S, K S h ∧ ∀ id, S id → id < h.next ∧ ¬ A id
theorem JK.stab {B : Nat} {K : (Nat → Prop) → AHeap → Prop} (hK : ∀ S h1 h2, B ≤ h1.next → K S h1 → (∀ id, S id → h2.get id = h1.get id) → (∀ id, id < B → h2.get id = h1.get id) → h1.next ≤ h2.next → h2.low = h1.low → K S h2) : Stab (JK B K) := by
  rintro A A' h1 h2 ⟨hB, hA, S, hk, hS⟩ fr g1 g2
  have hA' : ∀ id, A' id → B ≤ id := fun id q => by
    rcases g2 id q with q | q
    · exact hA id q
    · omega
  refine ⟨Nat.le_trans hB fr.next, hA', S, hK S h1 h2 hB hk (fun id q => fr.old id (hS id q).1 (hS id q).2) (fun id q => fr.old id (by omega) fun e => by have := hA id e; omega) fr.next fr.low, fun id q => ⟨Nat.lt_of_lt_of_le (hS id q).1 fr.next, fun e => ?_⟩⟩
  rcases g2 id e with e | e
  · exact (hS id q).2 e
  · have := (hS id q).1; omega
theorem Stab.ex {β : Type} {J : β → (Nat → Prop) → AHeap → Prop} (h : ∀ b, Stab (J b)) : Stab fun A h' => ∃ b, J b A h' := by
  rintro A A' h1 h2 ⟨b, q⟩ fr g1 g2
  exact ⟨b, h b A A' h1 h2 q fr g1 g2⟩
theorem Stab.and {p : Prop} {J : (Nat → Prop) → AHeap → Prop} (h : Stab J) : Stab fun A h' => p ∧ J A h' := by
  rintro A A' h1 h2 ⟨b, q⟩ fr g1 g2
  exact ⟨b, h A A' h1 h2 q fr g1 g2⟩
theorem Fr.ext {h h1 h2 : AHeap} {B : Nat} (fr : Fr none' h h1) (hB : ∀ id, id < B → h2.get id = h1.get id) (hb : h.next ≤ B) (hn : h1.next ≤ h2.next) (hl : h2.low = h1.low) : Fr none' h h2 :=
  ⟨Nat.le_trans fr.next hn, hl.trans fr.low, fun id q1 q2 => by rw [hB id (by omega)]; exact fr.old id q1 q2⟩

/-- As 'IterOk', of a function that also writes some objects that were there ahead (A0). -/
def IterOkW (P : Program) (prims : Prims) (f : Value) (R A0 : Nat → Prop) (xs : List (List Value)) (h : AHeap) : Prop :=
  ∀ (y : Value) (J : Nat → (Nat → Prop) → AHeap → Prop) (E : (Nat → Prop) → AHeap → Prop) (h0 : AHeap),
    h.next ≤ h0.next → (∀ id, id < h.next → (R id ∨ A0 id) → h0.get id = h.get id) → h0.low = h.low →
    (∀ i, Stab (J i)) → Stab E →
    (∀ i x A h1, xs[i]? = some x → J i A h1 → (∀ id, A id → (A0 id ∨ h0.next ≤ id) ∧ id < h1.next) → h0.next ≤ h1.next → h1.low = h0.low → (∀ id, R id → h1.get id = h0.get id) → CallW P prims y x h1 fun v h2 => ∃ b, v = .bool b ∧ h1.next ≤ h2.next ∧ h2.low = h1.low ∧
      (∀ id, id < h1.next → (A id ∨ R id) → h2.get id = h1.get id) ∧ if b then J (i + 1) A h2 else E A h2) →
    J 0 A0 h0 → CallW P prims f [y] h0 fun _ h' => ∃ A, (∀ id, A id → (A0 id ∨ h0.next ≤ id) ∧ id < h'.next) ∧ h0.next ≤ h'.next ∧ h'.low = h0.low ∧ (J xs.length A h' ∨ E A h')

theorem range_iter3 (hp : PMono prims) {f : Operand} {ps : Array Tmp} {assign body : Code} {env : Env} {h : AHeap} {Q : XQ} {R A0 : Nat → Prop} {xs : List (List Value)}
    (hent : entersV P (evalE env f) = true) (ca : codeFine assign = true) (cb : codeFine body = true) (hps : ∀ x ∈ xs, x.length = ps.size) (hR : ∀ id, R id → id < h.next) (hlow : h.low ≤ h.next)
    (hA0 : ∀ id, A0 id → id < h.next) (hit : IterOkW P prims (evalE env f) R A0 xs h)
    (J : Nat → (Nat → Prop) → AHeap → Prop) (E : AExit → (Nat → Prop) → AHeap → Prop) (hJ : ∀ i, Stab (J i)) (hE : ∀ x, Stab (E x))
    (Mid : Nat → List Value → Env → (Nat → Prop) → AHeap → Prop) (hMid : ∀ i x e, Stab (Mid i x e))
    (asg : ∀ i x A h1, xs[i]? = some x → J i A h1 → (∀ id, A id → (A0 id ∨ h.next ≤ id) ∧ id < h1.next) → h.next < h1.next → h1.low = h.low → (∀ id, R id → h1.get id = h.get id) → wpE P prims assign (setTmps env (ps.toList.zip x)) h1 fun y e h2 =>
      y = .normal ∧ h1.next ≤ h2.next ∧ h2.low = h1.low ∧ (∀ id, id < h1.next → (A id ∨ R id) → h2.get id = h1.get id) ∧ Mid i x e A h2)
    (h0 : ∀ o, J 0 (fun id => A0 id ∨ id = h.next) (h.alloc o))
    (step : ∀ i x e A h1, xs[i]? = some x → Mid i x e A h1 → (∀ id, A id → (A0 id ∨ h.next ≤ id) ∧ id < h1.next) → h.next < h1.next → h1.low = h.low → (∀ id, R id → h1.get id = h.get id) → wpE P prims body e h1 fun y _ h3 =>
      h1.next ≤ h3.next ∧ h3.low = h1.low ∧ (∀ id, id < h1.next → (A id ∨ R id) → h3.get id = h1.get id) ∧ match y with | .normal => J (i + 1) A h3 | y => E y A h3)
    (hend : ∀ A h', J xs.length A h' → (∀ id, A id → A0 id ∨ h.next ≤ id) → h.next ≤ h'.next → h'.low = h.low → Q .normal env h')
    (hexit : ∀ x A h', E x A h' → (∀ id, A id → A0 id ∨ h.next ≤ id) → h.next ≤ h'.next → h'.low = h.low → Q x env h') :
    ExecW P prims (.rangeFunc f ps assign body) env h Q := by
  refine range_w hp hent ?_
  let L := h.next
  let r0 : ALoop := { state := .ready, pending := none, tmps := env, params := ps, assign, body }
  let J' : Nat → (Nat → Prop) → AHeap → Prop := fun i A h1 => J i (fun id => A id ∨ id = L) h1 ∧ h1.get L = some (.loop r0) ∧ h1.low = h.low ∧ ¬ A L
  let E' : (Nat → Prop) → AHeap → Prop := fun A h1 => ∃ x, x ≠ .normal ∧ E x (fun id => A id ∨ id = L) h1 ∧ h1.get L = some (.loop { r0 with state := .done, pending := jumpOf x }) ∧ h1.low = h.low ∧ ¬ A L
  have key := hit (.func (.yield L) #[] #[]) J' E' (h.alloc (.loop r0)) (Nat.le_succ _) (fun id h1 h2 => get_alloc_ne (by omega)) rfl ?_ ?_ ?_ ?_
  · refine key.mono ?_
    rintro v h' ⟨A, hA, hn, hl, hq⟩
    have hn' : h.next + 1 ≤ h'.next := hn
    have hAb : ∀ id, (A id ∨ id = L) → A0 id ∨ h.next ≤ id := fun id e => by
      rcases e with e | e
      · rcases (hA id e).1 with q | q
        · exact .inl q
        · have q' : h.next + 1 ≤ id := q
          exact .inr (by omega)
      · subst e; exact .inr (Nat.le_refl _)
    rcases hq with ⟨q, hg, _, hAL⟩ | ⟨x, hx, q, hg, _, hAL⟩
    · refine ⟨r0, .normal, getLoopA_of (by rw [hl]; exact hlow) hg, by simp [r0], rfl, ?_⟩
      exact hend (fun id => A id ∨ id = L) _ (hJ _ _ _ _ _ q ((Fr.refl _ h').put _ (.inr (.inr rfl))) (fun _ e => e) (fun _ e => .inl e)) hAb (by show h.next ≤ h'.next; omega) hl
    · refine ⟨_, x, getLoopA_of (by rw [hl]; exact hlow) hg, by simp, jump_back, ?_⟩
      exact hexit x (fun id => A id ∨ id = L) _ (hE _ _ _ _ _ q ((Fr.refl _ h').put _ (.inr (.inr rfl))) (fun _ e => e) (fun _ e => .inl e)) hAb (by show h.next ≤ h'.next; omega) hl
  · rintro i A A' h1 h2 ⟨q, hg, hl, hAL⟩ fr g1 g2
    have hlt : L < h1.next := get_some_lt hg
    refine ⟨hJ _ _ _ _ _ q (fr.mono fun _ _ e => .inl e) (fun id e => e.imp (g1 id) (fun q => q)) (fun id e => ?_), ?_, fr.low.trans hl, fun e => ?_⟩
    · rcases e with e | e
      · exact (g2 id e).imp .inl (fun q => q)
      · exact .inl (.inr e)
    · rw [fr.old L hlt hAL]; exact hg
    · rcases g2 L e with e | e
      · exact hAL e
      · omega
  · rintro A A' h1 h2 ⟨x, hx, q, hg, hl, hAL⟩ fr g1 g2
    have hlt : L < h1.next := get_some_lt hg
    refine ⟨x, hx, hE _ _ _ _ _ q (fr.mono fun _ _ e => .inl e) (fun id e => e.imp (g1 id) (fun q => q)) (fun id e => ?_), ?_, fr.low.trans hl, fun e => ?_⟩
    · rcases e with e | e
      · exact (g2 id e).imp .inl (fun q => q)
      · exact .inl (.inr e)
    · rw [fr.old L hlt hAL]; exact hg
    · rcases g2 L e with e | e
      · exact hAL e
      · omega
  · rintro i x A h1 hx ⟨q, hg, hl, hAL⟩ hA hn hl' hRk
    have hlt : L < h1.next := get_some_lt hg
    have hmem : x ∈ xs := List.mem_of_getElem? hx
    refine yield_w hp (r := r0) (getLoopA_of (by rw [hl]; exact hlow) hg) (hps x hmem) ca cb ?_
    have hA1 : ∀ id, (A id ∨ id = L) → (A0 id ∨ h.next ≤ id) ∧ id < h1.next := fun id e => by
      rcases e with e | e
      · refine ⟨?_, (hA id e).2⟩
        rcases (hA id e).1 with q | q
        · exact .inl q
        · have q' : h.next + 1 ≤ id := q
          exact .inr (by omega)
      · subst e; exact ⟨.inr (Nat.le_refl _), hlt⟩
    have hR1 : ∀ id, R id → h1.get id = h.get id := fun id e => by
      rw [hRk id e]
      exact get_alloc_ne (by have := hR id e; omega)
    refine wpE_mono (asg i x (fun id => A id ∨ id = L) h1 hx q hA1 hlt hl hR1) ?_
    rintro y e h2 ⟨rfl, n2, l2, s2, q2⟩
    have hg2 : h2.get L = some (.loop r0) := by rw [s2 L hlt (.inl (.inr rfl))]; exact hg
    have hlt2 : L < h2.next := get_some_lt hg2
    have hl2 : h2.low = h.low := l2.trans hl
    refine ⟨rfl, r0, getLoopA_of (by rw [hl2]; exact hlow) hg2, rfl, ?_⟩
    have fr0 : Fr (fun id => A id ∨ id = L) h2 (h2.put L (some (.loop { r0 with state := .busy }))) := (Fr.refl _ h2).put _ (.inr (.inr rfl))
    have q' := hMid i x e _ _ _ _ q2 fr0 (fun _ e => e) (fun _ e => .inl e)
    have st := step i x e (fun id => A id ∨ id = L) _ hx q' (fun id e => ⟨(hA1 id e).1, by have := (hA1 id e).2; show id < h2.next; omega⟩) hlt2 hl2 (fun id e => ?_)
    · refine wpE_mono st ?_
      rintro y e h3 ⟨k1, k2, k3, k4⟩
      have hgL : h3.get L = some (.loop { r0 with state := .busy }) := by
        rw [k3 L hlt2 (.inl (.inr rfl)), get_put_self rfl hlt2]
      have k2' : h3.low = h.low := k2.trans hl2
      have k1' : h2.next ≤ h3.next := k1
      refine ⟨_, getLoopA_of (by rw [k2']; exact hlow) hgL, _, rfl, Nat.le_trans n2 k1', k2.trans l2, ?_, ?_⟩
      · intro id h1' h2'
        have hne : id ≠ L := by
          rintro rfl
          rcases h2' with e | e
          · exact hAL e
          · have : L < h.next := hR _ e
            exact absurd this (Nat.lt_irrefl _)
        rw [get_put_ne hne, k3 id (Nat.lt_of_lt_of_le h1' n2) (h2'.imp .inl (fun q => q)), get_put_ne hne, s2 id h1' (h2'.imp .inl (fun q => q))]
      · have hlt3 : L < h3.next := get_some_lt hgL
        have fr1 : ∀ o, Fr (fun id => A id ∨ id = L) h3 (h3.put L o) := fun o => (Fr.refl _ h3).put _ (.inr (.inr rfl))
        cases y with
        | normal =>
          simp only [jumpOf, Option.isNone_none, if_true]
          exact ⟨hJ _ _ _ _ _ k4 (fr1 _) (fun _ e => e) (fun _ e => .inl e), get_put_self rfl hlt3, k2', hAL⟩
        | exit j =>
          simp only [jumpOf, Option.isNone_some, Bool.false_eq_true, if_false]
          exact ⟨.exit j, by simp, hE _ _ _ _ _ k4 (fr1 _) (fun _ e => e) (fun _ e => .inl e), get_put_self rfl hlt3, k2', hAL⟩
        | ret =>
          simp only [jumpOf, Option.isNone_some, Bool.false_eq_true, if_false]
          exact ⟨.ret, by simp, hE _ _ _ _ _ k4 (fr1 _) (fun _ e => e) (fun _ e => .inl e), get_put_self rfl hlt3, k2', hAL⟩
    · have hne : id ≠ L := by have := hR id e; show id ≠ h.next; omega
      rw [get_put_ne hne, s2 id (by have := hR id e; show id < h1.next; omega) (.inr e), hR1 id e]
  · refine ⟨h0 _, get_alloc_self rfl, rfl, fun e => ?_⟩
    have := hA0 _ e
    have hL : L = h.next := rfl
    omega

/-- As 'JK', where the function that tells also writes some objects that were there ahead (A0). -/
def JKW (B : Nat) (A0 : Nat → Prop) (K : (Nat → Prop) → AHeap → Prop) : (Nat → Prop) → AHeap → Prop := fun A h => B ≤ h.next ∧ (∀ id, A id → A0 id ∨ B ≤ id) ∧ ∃ S, K S h ∧ ∀ id, S id → id < h.next ∧ ¬ A id
theorem JKW.stab {B : Nat} {A0 : Nat → Prop} {K : (Nat → Prop) → AHeap → Prop} (hK : ∀ S h1 h2, B ≤ h1.next → K S h1 → (∀ id, S id → h2.get id = h1.get id) → (∀ id, id < B → ¬ A0 id → h2.get id = h1.get id) → h1.next ≤ h2.next → h2.low = h1.low → K S h2) : Stab (JKW B A0 K) := by
  rintro A A' h1 h2 ⟨hB, hA, S, hk, hS⟩ fr g1 g2
  have hA' : ∀ id, A' id → A0 id ∨ B ≤ id := fun id q => by
    rcases g2 id q with q | q
    · exact hA id q
    · exact .inr (by omega)
  refine ⟨Nat.le_trans hB fr.next, hA', S, hK S h1 h2 hB hk (fun id q => fr.old id (hS id q).1 (hS id q).2) (fun id q q2 => fr.old id (by omega) fun e => (hA id e).elim q2 (fun e => by omega)) fr.next fr.low, fun id q => ⟨Nat.lt_of_lt_of_le (hS id q).1 fr.next, fun e => ?_⟩⟩
  rcases g2 id e with e | e
  · exact (hS id q).2 e
  · have := (hS id q).1; omega
theorem Fr.ext' {h h1 h2 : AHeap} (fr : Fr none' h h1) (hB : ∀ id, id < h.next → h2.get id = h1.get id) (hn : h1.next ≤ h2.next) (hl : h2.low = h1.low) : Fr none' h h2 :=
  ⟨Nat.le_trans fr.next hn, hl.trans fr.low, fun id q1 q2 => by rw [hB id q1]; exact fr.old id q1 q2⟩

end Go.AM
