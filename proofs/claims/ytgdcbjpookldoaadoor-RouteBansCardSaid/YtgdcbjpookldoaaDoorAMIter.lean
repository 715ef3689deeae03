/- AM: ranges over functions, by what the function tells. -/
import Derived.Test.YtgdcbjpookldoaaDoorAMLoop
set_option linter.unusedSimpArgs false
set_option linter.unusedVariables false
namespace Go.AM
variable {P : Program} {prims : Prims}

theorem setTmps_nil (t : List Value) : setTmps t [] = t := nrfl rfl
theorem setTmps_cons (t : List Value) (k : Tmp) (v : Value) (l : List (Tmp × Value)) : setTmps t ((k, v) :: l) = setTmps (t.set k v) l := nrfl rfl

/-- A round: a call of a loop's own function. -/
theorem yield_w (hp : PMono prims) {l : Nat} {h : AHeap} {args : List Value} {r : ALoop} {Q : VQ} (hr : getLoopA h l = some r) (hlen : args.length = r.params.size) (ca : codeFine r.assign = true) (cb : codeFine r.body = true)
    (hh : wpE P prims r.assign (setTmps r.tmps (r.params.toList.zip args)) h fun x env h1 => x = .normal ∧ ∃ r1, getLoopA h1 l = some r1 ∧ r1.state = .ready ∧
      wpE P prims r.body env (h1.put l (some (.loop { r1 with state := .busy }))) fun x _ h2 => ∃ r2, getLoopA h2 l = some r2 ∧
        Q (.bool (jumpOf x).isNone) (h2.put l (some (.loop { r2 with state := if (jumpOf x).isNone then .ready else .done, pending := jumpOf x })))) :
    CallW P prims (.func (.yield l) #[] #[]) args h Q := by
  obtain ⟨n, x, e1, h1, e, rfl, r1, hr1, hs, hb⟩ := (wpE_sound hp _ ca hh).out
  obtain ⟨m, y, e2, h2, e', r2, hr2, hq⟩ := (wpE_sound hp _ cb hb).out
  refine ⟨max n m + 1, _, _, ?_, hq⟩
  unfold callE
  simp only [argsOf, Array.toList_empty, List.nil_append, hr]
  rw [if_neg (by simpa using hlen), exec_to hp (Nat.le_max_left n m) e]
  simp only [hr1]
  rw [if_neg (by simp [hs]), exec_to hp (Nat.le_max_right n m) e']
  simp only [hr2]

theorem range_w (hp : PMono prims) {f : Operand} {ps : Array Tmp} {assign body : Code} {env : Env} {h : AHeap} {Q : XQ} (hent : entersV P (evalE env f) = true)
    (hh : CallW P prims (evalE env f) [.func (.yield h.next) #[] #[]] (h.alloc (.loop { state := .ready, pending := none, tmps := env, params := ps, assign, body })) fun _ h' =>
      ∃ r x, getLoopA h' h.next = some r ∧ r.state ≠ .busy ∧ exitOf r.pending = some x ∧ Q x env (h'.put h.next (some (.loop { r with state := .exhausted })))) :
    ExecW P prims (.rangeFunc f ps assign body) env h Q := by
  obtain ⟨n, v, h', e, r, x, hr, hs, hx, hq⟩ := hh
  refine ExecW.mk ⟨n, x, env, _, ?_, hq⟩
  unfold exec
  rw [if_neg (by simp [hent]), e]
  simp only [hr]
  rw [if_neg (by simpa using hs), hx]
  rfl

def Stab (J : (Nat → Prop) → AHeap → Prop) : Prop := ∀ A A' h1 h2, J A h1 → Fr A h1 h2 → (∀ id, A id → A' id) → (∀ id, A' id → A id ∨ h1.next ≤ id) → J A' h2

/-- A function that tells things, one behind the other. 'R': what it reads of what was there; it writes what it made itself alone (A). -/
def IterOk (P : Program) (prims : Prims) (f : Value) (R : Nat → Prop) (xs : List (List Value)) (h : AHeap) : Prop :=
  ∀ (y : Value) (J : Nat → (Nat → Prop) → AHeap → Prop) (E : (Nat → Prop) → AHeap → Prop) (h0 : AHeap),
    h.next ≤ h0.next → (∀ id, id < h.next → R id → h0.get id = h.get id) → h0.low ≤ h0.next →
    (∀ i, Stab (J i)) → Stab E →
    (∀ i x A h1, xs[i]? = some x → J i A h1 → (∀ id, A id → h0.next ≤ id ∧ id < h1.next) → h0.next ≤ h1.next → h1.low = h0.low → (∀ id, R id → h1.get id = h0.get id) → CallW P prims y x h1 fun v h2 => ∃ b, v = .bool b ∧ h1.next ≤ h2.next ∧ h2.low = h1.low ∧
      (∀ id, id < h1.next → (A id ∨ R id) → h2.get id = h1.get id) ∧ if b then J (i + 1) A h2 else E A h2) →
    J 0 none' h0 → CallW P prims f [y] h0 fun _ h' => ∃ A, (∀ id, A id → h0.next ≤ id ∧ id < h'.next) ∧ h0.next ≤ h'.next ∧ h'.low = h0.low ∧ (J xs.length A h' ∨ E A h')

theorem jump_back {x : AExit} : exitOf (jumpOf x) = some x := by cases x <;> rfl
theorem getLoopA_of {h : AHeap} {l : Nat} {r : ALoop} (hl : h.low ≤ l) (hg : h.get l = some (.loop r)) : getLoopA h l = some r := by
  unfold getLoopA; rw [if_pos hl, hg]

theorem range_iter (hp : PMono prims) {f : Operand} {ps : Array Tmp} {assign body : Code} {env : Env} {h : AHeap} {Q : XQ} {R : Nat → Prop} {xs : List (List Value)}
    (hent : entersV P (evalE env f) = true) (ca : codeFine assign = true) (cb : codeFine body = true) (hps : ∀ x ∈ xs, x.length = ps.size) (hR : ∀ id, R id → id < h.next) (hlow : h.low ≤ h.next)
    (hit : IterOk P prims (evalE env f) R xs h)
    (J : Nat → (Nat → Prop) → AHeap → Prop) (E : AExit → (Nat → Prop) → AHeap → Prop) (hJ : ∀ i, Stab (J i)) (hE : ∀ x, Stab (E x))
    (envF : Env → List Value → Env) (hassign : ∀ x ∈ xs, ∀ h1, wpE P prims assign (setTmps env (ps.toList.zip x)) h1 fun y e h2 => y = .normal ∧ e = envF env x ∧ h2 = h1)
    (h0 : ∀ o, J 0 (· = h.next) (h.alloc o))
    (step : ∀ i x A h1, xs[i]? = some x → J i A h1 → (∀ id, A id → h.next ≤ id ∧ id < h1.next) → h.next < h1.next → h1.low = h.low → (∀ id, R id → h1.get id = h.get id) → wpE P prims body (envF env x) h1 fun y _ h3 =>
      h1.next ≤ h3.next ∧ h3.low = h1.low ∧ (∀ id, id < h1.next → (A id ∨ R id) → h3.get id = h1.get id) ∧ match y with | .normal => J (i + 1) A h3 | y => E y A h3)
    (hend : ∀ A h', J xs.length A h' → (∀ id, A id → h.next ≤ id) → h.next ≤ h'.next → h'.low = h.low → Q .normal env h')
    (hexit : ∀ x A h', E x A h' → (∀ id, A id → h.next ≤ id) → h.next ≤ h'.next → h'.low = h.low → Q x env h') :
    ExecW P prims (.rangeFunc f ps assign body) env h Q := by
  refine range_w hp hent ?_
  let L := h.next
  let r0 : ALoop := { state := .ready, pending := none, tmps := env, params := ps, assign, body }
  let J' : Nat → (Nat → Prop) → AHeap → Prop := fun i A h1 => J i (fun id => A id ∨ id = L) h1 ∧ h1.get L = some (.loop r0) ∧ h1.low = h.low ∧ ∀ id, A id → L < id
  let E' : (Nat → Prop) → AHeap → Prop := fun A h1 => ∃ x, x ≠ .normal ∧ E x (fun id => A id ∨ id = L) h1 ∧ h1.get L = some (.loop { r0 with state := .done, pending := jumpOf x }) ∧ h1.low = h.low ∧ ∀ id, A id → L < id
  have key := hit (.func (.yield L) #[] #[]) J' E' (h.alloc (.loop r0)) (Nat.le_succ _) (fun id h1 h2 => get_alloc_ne (by omega)) (Nat.le_succ_of_le hlow) ?_ ?_ ?_ ?_
  · refine key.mono ?_
    rintro v h' ⟨A, hA, hn, hl, hq⟩
    have hn' : h.next + 1 ≤ h'.next := hn
    rcases hq with ⟨q, hg, _, hAL⟩ | ⟨x, hx, q, hg, _, hAL⟩
    · refine ⟨r0, .normal, getLoopA_of (by rw [hl]; exact hlow) hg, by simp [r0], rfl, ?_⟩
      refine hend (fun id => A id ∨ id = L) _ (hJ _ _ _ _ _ q ((Fr.refl _ h').put _ (.inr (.inr rfl))) (fun _ e => e) (fun _ e => .inl e)) (fun id e => ?_) (by show h.next ≤ h'.next; omega) hl
      rcases e with e | e
      · have := hAL id e; show h.next ≤ id; have : h.next < id := this; omega
      · subst e; exact Nat.le_refl _
    · refine ⟨_, x, getLoopA_of (by rw [hl]; exact hlow) hg, by simp, jump_back, ?_⟩
      refine hexit x (fun id => A id ∨ id = L) _ (hE _ _ _ _ _ q ((Fr.refl _ h').put _ (.inr (.inr rfl))) (fun _ e => e) (fun _ e => .inl e)) (fun id e => ?_) (by show h.next ≤ h'.next; omega) hl
      rcases e with e | e
      · have := hAL id e; have : h.next < id := this; omega
      · subst e; exact Nat.le_refl _
  · rintro i A A' h1 h2 ⟨q, hg, hl, hAL⟩ fr g1 g2
    have hlt : L < h1.next := get_some_lt hg
    refine ⟨hJ _ _ _ _ _ q (fr.mono fun _ _ e => .inl e) (fun id e => e.imp (g1 id) (fun q => q)) (fun id e => ?_), ?_, fr.low.trans hl, fun id e => ?_⟩
    · rcases e with e | e
      · exact (g2 id e).imp .inl (fun q => q)
      · exact .inl (.inr e)
    · rw [fr.old L hlt (fun e => by have := hAL _ e; omega)]; exact hg
    · rcases g2 id e with e | e
      · exact hAL id e
      · omega
  · rintro A A' h1 h2 ⟨x, hx, q, hg, hl, hAL⟩ fr g1 g2
    have hlt : L < h1.next := get_some_lt hg
    refine ⟨x, hx, hE _ _ _ _ _ q (fr.mono fun _ _ e => .inl e) (fun id e => e.imp (g1 id) (fun q => q)) (fun id e => ?_), ?_, fr.low.trans hl, fun id e => ?_⟩
    · rcases e with e | e
      · exact (g2 id e).imp .inl (fun q => q)
      · exact .inl (.inr e)
    · rw [fr.old L hlt (fun e => by have := hAL _ e; omega)]; exact hg
    · rcases g2 id e with e | e
      · exact hAL id e
      · omega
  · rintro i x A h1 hx ⟨q, hg, hl, hAL⟩ hA hn hl' hRk
    have hlt : L < h1.next := get_some_lt hg
    have hmem : x ∈ xs := List.mem_of_getElem? hx
    refine yield_w hp (r := r0) (getLoopA_of (by rw [hl]; exact hlow) hg) (hps x hmem) ca cb ?_
    refine wpE_mono (hassign x hmem h1) ?_
    rintro y e h2 ⟨rfl, rfl, rfl⟩
    refine ⟨rfl, r0, getLoopA_of (by rw [hl]; exact hlow) hg, rfl, ?_⟩
    have fr0 : Fr (fun id => A id ∨ id = L) h2 (h2.put L (some (.loop { r0 with state := .busy }))) := (Fr.refl _ h2).put _ (.inr (.inr rfl))
    have q' := hJ i _ _ _ _ q fr0 (fun _ e => e) (fun _ e => .inl e)
    have st := step i x (fun id => A id ∨ id = L) _ hx q' (fun id e => ?_) hlt hl (fun id e => ?_)
    · refine wpE_mono st ?_
      rintro y e h3 ⟨k1, k2, k3, k4⟩
      have hgL : h3.get L = some (.loop { r0 with state := .busy }) := by
        rw [k3 L hlt (.inl (.inr rfl)), get_put_self rfl hlt]
      have k2' : h3.low = h.low := k2.trans hl
      refine ⟨_, getLoopA_of (by rw [k2']; exact hlow) hgL, _, rfl, k1, k2, ?_, ?_⟩
      · intro id h1' h2'
        have hne : id ≠ L := by
          rintro rfl
          rcases h2' with e | e
          · have := hAL _ e; omega
          · have : L < h.next := hR _ e
            exact absurd this (Nat.lt_irrefl _)
        rw [get_put_ne hne, k3 id h1' (h2'.imp .inl (fun q => q)), get_put_ne hne]
      · have hlt3 : L < h3.next := get_some_lt hgL
        have fr1 : ∀ o, Fr (fun id => A id ∨ id = L) h3 (h3.put L o) := fun o => (Fr.refl _ h3).put _ (.inr (.inr rfl))
        cases y with
        | normal =>
          simp only [jumpOf, Option.isNone_none, if_true]
          exact ⟨hJ _ _ _ _ _ k4 (fr1 _) (fun _ e => e) (fun _ e => .inl e), get_put_self rfl hlt3, k2', hAL⟩
        | exit j =>
          simp only [jumpOf, Option.isNone_some, Bool.false_eq_true, if_false]
          exact ⟨.exit j, by simp, hE _ _ _ _ _ k4 (fr1 _) (fun _ e => e) (fun _ e => .inl e), get_put_self rfl hlt3, k2', hAL⟩
        | ret =>
          simp only [jumpOf, Option.isNone_some, Bool.false_eq_true, if_false]
          exact ⟨.ret, by simp, hE _ _ _ _ _ k4 (fr1 _) (fun _ e => e) (fun _ e => .inl e), get_put_self rfl hlt3, k2', hAL⟩
    · rcases e with e | e
      · have := hA id e; have h5 : (h.alloc (.loop r0)).next = h.next + 1 := rfl; rw [h5] at this; show h.next ≤ id ∧ id < h2.next; omega
      · subst e; exact ⟨Nat.le_refl _, hlt⟩
    · have hne : id ≠ L := by have := hR id e; show id ≠ h.next; omega
      rw [get_put_ne hne, hRk id e]
      exact get_alloc_ne (by have := hR id e; omega)
  · refine ⟨?_, get_alloc_self rfl, rfl, fun id e => e.elim⟩
    exact (hJ 0) _ _ _ _ (h0 _) (Fr.refl _ _) (fun id e => .inr e) (fun id e => .inl (e.elim (fun q => q.elim) (fun q => q)))

theorem entersV_of {g : FuncId} {fn : Func} {a c : Array Value} (hfn : P.funcs[g]? = some fn) (hb : fn.body.isSome = true) : entersV P (.func (.func g) a c) = true := by
  unfold entersV; simp only [hfn]; simp [hb]
/-- What is known of objects that were there ahead of the loop. -/
def Core (L : Nat) (core : AHeap → Prop) : (Nat → Prop) → AHeap → Prop := fun A h' => (L ≤ h'.next ∧ ∀ id, A id → L ≤ id) ∧ core h'
theorem Core.stab {L : Nat} {core : AHeap → Prop} (hc : ∀ h1 h2, L ≤ h1.next → core h1 → Fr (fun id => L ≤ id) h1 h2 → core h2) : Stab (Core L core) := by
  rintro A A' h1 h2 ⟨⟨a, b⟩, c⟩ fr g1 g2
  refine ⟨⟨Nat.le_trans a fr.next, fun id hid => ?_⟩, hc h1 h2 a c (fr.mono fun id _ q => b id q)⟩
  rcases g2 id hid with q | q
  · exact b id q
  · omega
theorem Stab.no : Stab (fun _ _ => False) := fun _ _ _ _ h _ _ _ => h

end Go.AM
