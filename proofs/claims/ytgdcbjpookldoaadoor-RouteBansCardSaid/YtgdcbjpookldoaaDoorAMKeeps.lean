/- AM: what an abstract run leaves of a heap, whatever the world. -/
import Derived.Test.YtgdcbjpookldoaaDoorAMCall
set_option linter.unusedSimpArgs false
set_option linter.unusedVariables false
namespace Go.AM
variable {P : Program} {h : AHeap}

theorem Keeps.ofAlloc (hl : h.low ≤ h.next) (o : AObj) : Keeps h (h.alloc o) := by
  refine ⟨by simp, rfl, fun id hid => ?_, fun id hid hg => ?_, fun id r hg => ⟨r, ?_⟩⟩
  · rw [AHeap.get_alloc, if_neg (by omega)]
  · rw [AHeap.get_alloc, if_neg (by omega)]; exact hg
  · rw [AHeap.get_alloc, if_neg ?_]; exact hg
    intro e; subst e; rw [h.get_ge _ (Nat.le_refl _)] at hg; cases hg
theorem get_lt {id : Nat} {o : AObj} (hg : h.get id = some o) : id < h.next := by
  rcases Nat.lt_or_ge id h.next with h1 | h1
  · exact h1
  · rw [h.get_ge id h1] at hg; cases hg
theorem Keeps.ofPut {id : Nat} {o o' : AObj} (hg : h.get id = some o) (hl : h.low ≤ id) (hloop : ∀ r, o = .loop r → ∃ r', o' = .loop r') : Keeps h (h.put id (some o')) := by
  have hid := get_lt hg
  have gp := h.get_put id (some o') hid
  refine ⟨Nat.le_refl _, rfl, fun j hj => ?_, fun j hj hn => ?_, fun j r hr => ?_⟩
  · rw [gp, if_neg (by omega)]
  · rw [gp, if_neg (fun e => by subst e; rw [hg] at hn; cases hn)]; exact hn
  · rw [gp]
    by_cases e : j = id
    · subst e; rw [hg] at hr; cases hr; obtain ⟨r', rfl⟩ := hloop r rfl; exact ⟨r', by simp⟩
    · rw [if_neg e]; exact ⟨r, hr⟩
theorem Keeps.ofKill {id : Nat} {c : List Value} {e : TypeId} {b : Bool} (hg : h.get id = some (.cells c e b)) (hl : h.low ≤ id) : Keeps h (h.put id none) := by
  have hid := get_lt hg
  have gp := h.get_put id none hid
  refine ⟨Nat.le_refl _, rfl, fun j hj => ?_, fun j hj hn => ?_, fun j r hr => ?_⟩
  · rw [gp, if_neg (by omega)]
  · rw [gp]; split
    · rfl
    · exact hn
  · rw [gp, if_neg (fun e => by subst e; rw [hg] at hr; cases hr)]; exact ⟨r, hr⟩

theorem bindSome {α β : Type} {x : Option α} {f : α → Option β} {y : β} (hh : x.bind f = some y) : ∃ a, x = some a ∧ f a = some y := by
  cases x with
  | none => simp at hh
  | some a => exact ⟨a, rfl, hh⟩
theorem mapSome {α β : Type} {x : Option α} {f : α → β} {y : β} (hh : x.map f = some y) : ∃ a, x = some a ∧ f a = y := by
  cases x with
  | none => simp at hh
  | some a => exact ⟨a, rfl, by simpa using hh⟩

theorem aStore_keeps {t : TypeId} {x v : Value} {h' : AHeap} (hh : aStore P h t x v = some h') : Keeps h h' := by
  unfold aStore at hh
  split at hh
  · split at hh
    · rename_i hg
      obtain ⟨i, _, hh⟩ := bindSome hh
      split at hh
      · rename_i hc; cases hh; exact Keeps.ofPut hg hc.1 (fun r e => by cases e)
      · cases hh
    · cases hh
  · cases hh
theorem aMapUpdate_keeps {t : TypeId} {m k v : Value} {h' : AHeap} (hh : aMapUpdate P h t m k v = some h') : Keeps h h' := by
  unfold aMapUpdate at hh
  split at hh
  · split at hh
    · rename_i hg
      split at hh
      · cases hh
      · rename_i hc
        simp only [Bool.or_eq_true, decide_eq_true_eq, not_or, Nat.not_lt] at hc
        obtain ⟨r, _, hh⟩ := bindSome hh
        split at hh
        · cases hh; exact Keeps.ofPut hg hc.2 (fun r e => by cases e)
        · cases hh; exact Keeps.ofPut hg hc.2 (fun r e => by cases e)
    · cases hh
  · cases hh
theorem aDelete_keeps {t : TypeId} {m k : Value} {h' : AHeap} (hh : aDelete P h t m k = some h') : Keeps h h' := by
  unfold aDelete at hh
  split at hh
  · split at hh
    · rename_i hg
      split at hh
      · cases hh
      · rename_i hc
        simp only [Bool.or_eq_true, decide_eq_true_eq, not_or, Nat.not_lt] at hc
        obtain ⟨r, _, hh⟩ := bindSome hh
        split at hh
        · cases hh; exact Keeps.ofPut hg hc.2 (fun r e => by cases e)
        · cases hh; exact Keeps.refl _
    · cases hh
  · split at hh
    · cases hh; exact Keeps.refl _
    · cases hh
  · cases hh
theorem aClear_keeps {t : TypeId} {x : Value} {h' : AHeap} (hh : aClear P h t x = some h') : Keeps h h' := by
  unfold aClear at hh
  split at hh
  · cases hh; exact Keeps.refl _
  · split at hh
    · rename_i hg
      split at hh
      · rename_i hc; cases hh; exact Keeps.ofPut hg hc (fun r e => by cases e)
      · cases hh
    · cases hh
  · split at hh
    · cases hh; exact Keeps.refl _
    · split at hh
      · split at hh
        · rename_i hg
          obtain ⟨i, _, hh⟩ := bindSome hh
          obtain ⟨z, _, hh⟩ := bindSome hh
          split at hh
          · rename_i hc; cases hh; exact Keeps.ofPut hg hc.1 (fun r e => by cases e)
          · cases hh
        · cases hh
      · cases hh
  · cases hh
theorem aCopy_keeps {t : TypeId} {d s v : Value} {h' : AHeap} (hh : aCopy P h t d s = some (v, h')) : Keeps h h' := by
  unfold aCopy at hh
  split at hh
  · obtain ⟨i, _, hh⟩ := bindSome hh
    obtain ⟨n, _, hh⟩ := bindSome hh
    simp only at hh
    split at hh
    · cases hh; exact Keeps.refl _
    · obtain ⟨cs, _, hh⟩ := bindSome hh
      split at hh
      · split at hh
        · rename_i hg
          split at hh
          · rename_i hc; cases hh; exact Keeps.ofPut hg hc.1 (fun r e => by cases e)
          · cases hh
        · cases hh
      · cases hh
  · cases hh
theorem aAppend_keeps (hl : h.low ≤ h.next) {t : TypeId} {s v : Value} {cs : List Value} {n : Nat} {z : Bool} {h' : AHeap} (hh : aAppend P h t s cs n z = some (v, h')) : Keeps h h' := by
  unfold aAppend at hh
  split at hh
  · obtain ⟨i, _, hh⟩ := bindSome hh
    split at hh
    · cases hh
    · split at hh
      · split at hh
        · cases hh; exact Keeps.refl _
        · split at hh
          · cases hh
          · split at hh
            · split at hh
              · rename_i hg
                split at hh
                · rename_i hc; cases hh; exact Keeps.ofPut hg hc.1 (fun r e => by cases e)
                · cases hh
              · cases hh
            · cases hh
      · obtain ⟨zr, _, hh⟩ := bindSome hh
        split at hh
        · cases hh
        · split at hh
          · split at hh
            · cases hh; exact Keeps.ofAlloc hl _
            · cases hh
          · split at hh
            · rename_i hg
              split at hh
              · simp only at hh
                split at hh
                · split at hh
                  · rename_i hc
                    cases hh
                    exact (Keeps.ofKill hg hc.1).trans (Keeps.ofAlloc (by simpa using hl) _)
                  · cases hh
                · cases hh; exact Keeps.ofAlloc hl _
              · cases hh
            · cases hh
          · cases hh
  · cases hh

theorem aHeap_keeps (hl : h.low ≤ h.next) {ρ : Operand → Value} {op : Op} {v : Value} {h' : AHeap} (hh : aHeap P ρ op h = some (v, h')) : Keeps h h' ∧ (writesO op = false → h' = h) := by
  unfold aHeap at hh
  split at hh
  · obtain ⟨a, _, e⟩ := mapSome hh; cases e; exact ⟨Keeps.refl _, fun _ => rfl⟩
  · obtain ⟨a, _, e⟩ := mapSome hh; cases e; exact ⟨Keeps.refl _, fun _ => rfl⟩
  · obtain ⟨a, ha, e⟩ := mapSome hh; cases e; exact ⟨aStore_keeps ha, fun e => by simp [writesO] at e⟩
  · obtain ⟨a, _, e⟩ := mapSome hh; cases e; exact ⟨Keeps.refl _, fun _ => rfl⟩
  · obtain ⟨a, _, e⟩ := mapSome hh; cases e; exact ⟨Keeps.refl _, fun _ => rfl⟩
  · obtain ⟨a, ha, e⟩ := mapSome hh; cases e; exact ⟨aMapUpdate_keeps ha, fun e => by simp [writesO] at e⟩
  · obtain ⟨a, ha, e⟩ := mapSome hh; cases e; exact ⟨aMapUpdate_keeps ha, fun e => by simp [writesO] at e⟩
  · split at hh
    · obtain ⟨t, _, hh⟩ := bindSome hh
      obtain ⟨x, _, hh⟩ := bindSome hh
      obtain ⟨a, _, e⟩ := mapSome hh; cases e; exact ⟨Keeps.refl _, fun _ => rfl⟩
    · obtain ⟨t, _, hh⟩ := bindSome hh
      obtain ⟨x, _, hh⟩ := bindSome hh
      obtain ⟨a, _, e⟩ := mapSome hh; cases e; exact ⟨Keeps.refl _, fun _ => rfl⟩
    · split at hh
      · cases hh
      · obtain ⟨t, _, hh⟩ := bindSome hh
        obtain ⟨s, _, hh⟩ := bindSome hh
        obtain ⟨x, _, hh⟩ := bindSome hh
        obtain ⟨⟨cs, n, z⟩, _, hh⟩ := bindSome hh
        exact ⟨aAppend_keeps hl hh, fun e => by simp [writesO] at e⟩
    · obtain ⟨t, _, hh⟩ := bindSome hh
      obtain ⟨s, _, hh⟩ := bindSome hh
      obtain ⟨x, _, hh⟩ := bindSome hh
      exact ⟨aCopy_keeps hh, fun e => by simp [writesO] at e⟩
    · obtain ⟨t, _, hh⟩ := bindSome hh
      obtain ⟨s, _, hh⟩ := bindSome hh
      obtain ⟨x, _, hh⟩ := bindSome hh
      obtain ⟨a, ha, e⟩ := mapSome hh; cases e; exact ⟨aDelete_keeps ha, fun e => by simp [writesO] at e⟩
    · obtain ⟨t, _, hh⟩ := bindSome hh
      obtain ⟨s, _, hh⟩ := bindSome hh
      obtain ⟨a, ha, e⟩ := mapSome hh; cases e; exact ⟨aClear_keeps ha, fun e => by simp [writesO] at e⟩
    · cases hh
  · cases hh

theorem aOp_keeps (hl : h.low ≤ h.next) {ρ : Operand → Value} {op : Op} {v : Value} {h' : AHeap} (hh : aOp P ρ op h = some (v, h')) :
    Keeps h h' ∧ (writesO op = false → ∀ id, id < h.next → h'.get id = h.get id) := by
  unfold aOp at hh
  split at hh
  · cases hh; exact ⟨Keeps.refl _, fun _ _ _ => rfl⟩
  · cases hh; exact ⟨Keeps.ofAlloc hl _, fun _ id hid => by rw [AHeap.get_alloc, if_neg (by omega)]⟩
  · obtain ⟨a, b⟩ := aHeap_keeps hl hh
    exact ⟨a, fun hw id _ => by rw [b hw]⟩

theorem Keeps.lowNext {h' : AHeap} (k : Keeps h h') (hl : h.low ≤ h.next) : h'.low ≤ h'.next := by have := k.next; have := k.low; omega

/-- Calls leave what is old. -/
def CallKeeps (call : CallV) : Prop := ∀ {fv : Value} {args : List Value} {h : AHeap} {r : Value} {h' : AHeap}, h.low ≤ h.next → call fv args h = some (r, h') → Keeps h h'

theorem opE_keeps {call : CallV} (hc : CallKeeps call) (hl : h.low ≤ h.next) {env : Env} {o : Oper} {v : Value} {h' : AHeap} (hh : opE P call env o h = some (v, h')) :
    Keeps h h' ∧ (writesO o.op = false → isCallO o.op = false → ∀ id, id < h.next → h'.get id = h.get id) := by
  unfold opE at hh
  split at hh
  · rename_i f args ats ho
    exact ⟨hc hl hh, fun _ e => by rw [ho] at e; simp [isCallO] at e⟩
  · obtain ⟨a, b⟩ := aOp_keeps hl hh
    exact ⟨a, fun hw _ => b hw⟩

theorem aNewStr_keeps (hl : h.low ≤ h.next) {s d : TypeId} {x v : Value} {h' : AHeap} (hh : aNewStr P h s d x = some (v, h')) : Keeps h h' := by
  unfold aNewStr at hh
  split at hh
  · split at hh
    · split at hh
      · cases hh; exact Keeps.ofAlloc hl _
      · cases hh
    · cases hh
  · cases hh
theorem opA_keeps {call : CallV} (hc : CallKeeps call) (hl : h.low ≤ h.next) {env : Env} {o : Oper} {v : Value} {h' : AHeap} (hh : opA P call env o h = some (v, h')) : Keeps h h' := by
  unfold opA at hh
  split at hh
  · split at hh
    · rename_i r hr
      cases hh
      exact aNewStr_keeps hl hr
    · exact (opE_keeps hc hl hh).1
  · exact (opE_keeps hc hl hh).1

theorem opsE_keeps {call : CallV} (hc : CallKeeps call) (all : List Oper) : ∀ (os : List Oper) {env : Env} {h : AHeap} {env' : Env} {h' : AHeap}, h.low ≤ h.next → opsE P call all os env h = some (env', h') → Keeps h h' := by
  intro os
  induction os with
  | nil => intro env h env' h' _ hh; simp [opsE] at hh; obtain ⟨rfl, rfl⟩ := hh; exact Keeps.refl _
  | cons o os ih =>
    intro env h env' h' hl hh
    simp only [opsE] at hh
    split at hh
    · split at hh
      · rename_i v h1 ho
        have k := opA_keeps hc hl ho
        exact k.trans (ih (k.lowNext hl) hh)
      · cases hh
    · exact ih hl hh

/-- A run that may write nothing that is there. -/
theorem Keeps.unprotect {h1 : AHeap} (k : Keeps { h with low := h.next } h1) (hl : h.low ≤ h.next) : Keeps h { h1 with low := h.low } := by
  refine ⟨k.next, rfl, fun id hid => ?_, fun id hid hg => ?_, fun id r hr => ?_⟩
  · exact k.old id (show id < h.next by omega)
  · exact k.dead id hid hg
  · exact k.loop id r hr

theorem drawE_keeps {call : CallV} (hc : CallKeeps call) (all : List Oper) (ah : List Nat) : ∀ (os : List Oper) (j : Nat) {env : Env} {h : AHeap} {l : List (Env × AHeap × Value)} {env' : Env} {h' : AHeap}, h.low ≤ h.next → drawE P call all ah j os env h = some (l, env', h') → Keeps h h' := by
  intro os
  induction os with
  | nil => intro j env h l env' h' _ hh; simp [drawE] at hh; obtain ⟨_, _, rfl⟩ := hh; exact Keeps.refl _
  | cons o os ih =>
    intro j env h l env' h' hl hh
    simp only [drawE] at hh
    split at hh
    · split at hh
      · split at hh
        · rename_i v h1 ho
          obtain ⟨⟨l0, r0⟩, h9, e⟩ := mapSome hh
          cases e
          have k := (opE_keeps (h := { h with low := h.next }) hc (Nat.le_refl _) ho).1.unprotect hl
          exact k.trans (ih _ (k.lowNext hl) h9)
        · cases hh
      · split at hh
        · rename_i v h1 ho
          obtain ⟨⟨l0, r0⟩, h9, e⟩ := mapSome hh
          cases e
          have k := (opE_keeps hc hl ho).1
          exact k.trans (ih _ (k.lowNext hl) h9)
        · cases hh
    · obtain ⟨⟨l0, r0⟩, h9, e⟩ := mapSome hh
      cases e
      exact ih _ hl h9

theorem iterE_keeps {step : Env → AHeap → Option (AExit × Env × AHeap)} (hs : ∀ {env h x env' h'}, h.low ≤ h.next → step env h = some (x, env', h') → Keeps h h') :
    ∀ (n : Nat) {env : Env} {h : AHeap} {x : AExit} {env' : Env} {h' : AHeap}, h.low ≤ h.next → iterE step n env h = some (x, env', h') → Keeps h h' := by
  intro n
  induction n with
  | zero => intro env h x env' h' _ hh; simp [iterE] at hh
  | succ n ih =>
    intro env h x env' h' hl hh
    simp only [iterE] at hh
    cases e : step env h with
    | none => rw [e] at hh; simp at hh
    | some r =>
      obtain ⟨y, env1, h1⟩ := r
      rw [e] at hh
      have k := hs hl e
      cases y with
      | normal => exact k.trans (ih (k.lowNext hl) hh)
      | exit id => simp at hh; obtain ⟨rfl, rfl, rfl⟩ := hh; exact k
      | ret => simp at hh; obtain ⟨rfl, rfl, rfl⟩ := hh; exact k

theorem exec_keeps {call : CallV} (hc : CallKeeps call) (n : Nat) (c : Code) : ∀ {env : Env} {h : AHeap} {x : AExit} {env' : Env} {h' : AHeap}, h.low ≤ h.next → exec P call n c env h = some (x, env', h') → Keeps h h' := by
  induction c with
  | skip => intro env h x env' h' _ hh; simp [exec] at hh; obtain ⟨_, _, rfl⟩ := hh; exact Keeps.refl _
  | label l => intro env h x env' h' _ hh; simp [exec] at hh; obtain ⟨_, _, rfl⟩ := hh; exact Keeps.refl _
  | ret => intro env h x env' h' _ hh; simp [exec] at hh; obtain ⟨_, _, rfl⟩ := hh; exact Keeps.refl _
  | exit id => intro env h x env' h' _ hh; simp [exec] at hh; obtain ⟨_, _, rfl⟩ := hh; exact Keeps.refl _
  | goto l => intro env h x env' h' _ hh; simp [exec] at hh
  | refuse l => intro env h x env' h' _ hh; simp [exec] at hh
  | region id ops draw =>
    intro env h x env' h' hl hh
    simp only [exec] at hh
    obtain ⟨⟨env1, h1⟩, h2, e⟩ := mapSome hh
    cases e
    unfold regionE at h2
    split at h2
    · split at h2
      · split at h2
        · rename_i hd
          split at h2
          · cases h2; exact drawE_keeps hc _ _ _ _ hl hd
          · cases h2
        · cases h2
      · cases h2
    · exact opsE_keeps hc _ _ hl h2
  | seq c1 c2 ih1 ih2 =>
    intro env h x env' h' hl hh
    simp only [exec] at hh
    cases e : exec P call n c1 env h with
    | none => rw [e] at hh; simp at hh
    | some r =>
      obtain ⟨y, env1, h1⟩ := r
      rw [e] at hh
      have k := ih1 hl e
      cases y with
      | normal => exact k.trans (ih2 (k.lowNext hl) hh)
      | exit id => simp at hh; obtain ⟨rfl, rfl, rfl⟩ := hh; exact k
      | ret => simp at hh; obtain ⟨rfl, rfl, rfl⟩ := hh; exact k
  | cond c c1 c2 ih1 ih2 =>
    intro env h x env' h' hl hh
    simp only [exec] at hh
    split at hh
    · exact ih1 hl hh
    · exact ih2 hl hh
    · cases hh
  | block id c ih =>
    intro env h x env' h' hl hh
    simp only [exec] at hh
    cases e : exec P call n c env h with
    | none => rw [e] at hh; simp at hh
    | some r =>
      obtain ⟨y, env1, h1⟩ := r
      rw [e] at hh
      have k := ih hl e
      cases y with
      | normal => simp at hh; obtain ⟨_, _, rfl⟩ := hh; exact k
      | exit id' =>
        simp only at hh
        split at hh
        · simp at hh; obtain ⟨_, _, rfl⟩ := hh; exact k
        · simp at hh; obtain ⟨_, _, rfl⟩ := hh; exact k
      | ret => simp at hh; obtain ⟨_, _, rfl⟩ := hh; exact k
  | loop c ih => intro env h x env' h' hl hh; simp only [exec] at hh; exact iterE_keeps ih n hl hh
  | scope c ih => intro env h x env' h' hl hh; simp only [exec] at hh; exact ih hl hh
  | rangeFunc f ps c1 c2 _ _ =>
    intro env h x env' h' hl hh
    simp only [exec] at hh
    split at hh
    · cases hh
    · split at hh
      · rename_i v h1 hcall
        split at hh
        · rename_i r hr
          split at hh
          · cases hh
          · obtain ⟨y, _, e⟩ := mapSome hh
            cases e
            have k0 : Keeps h (h.alloc (.loop { state := .ready, pending := none, tmps := env, params := ps, assign := c1, body := c2 })) := Keeps.ofAlloc hl _
            have k1 := hc (k0.lowNext hl) hcall
            obtain ⟨g1, g2⟩ := getLoopA_some hr
            exact (k0.trans k1).trans (Keeps.ofPut g2 g1 (fun r' e => ⟨_, rfl⟩))
        · cases hh
      · cases hh

def PrimsKeep (prims : Prims) : Prop := ∀ g p, prims g = some p → ∀ call, CallKeeps call → ∀ {all : List Value} {h : AHeap} {r : Value} {h' : AHeap}, h.low ≤ h.next → p call all h = some (r, h') → Keeps h h'

theorem callE_keeps {prims : Prims} (hp : PrimsKeep prims) : ∀ n, CallKeeps (callE P prims n) := by
  intro n
  induction n with
  | zero => intro fv args h r h' _ hh; simp [callE] at hh
  | succ n ih =>
    intro fv args h r h' hl hh
    simp only [callE] at hh
    split at hh
    · split at hh
      · rename_i p hpg; exact hp _ p hpg _ ih hl hh
      · split at hh
        · split at hh
          · split at hh
            · rename_i hx
              obtain ⟨v, _, e⟩ := mapSome hh
              cases e
              exact exec_keeps ih n _ hl hx
            · rename_i hx
              obtain ⟨v, _, e⟩ := mapSome hh
              cases e
              exact exec_keeps ih n _ hl hx
            · cases hh
          · cases hh
        · cases hh
    · split at hh
      · rename_i r0 hr0
        split at hh
        · cases hh
        · split at hh
          · rename_i env1 h1 hx1
            split at hh
            · rename_i r1 hr1
              split at hh
              · cases hh
              · split at hh
                · rename_i x envx h2 hx2
                  split at hh
                  · rename_i r2 hr2
                    cases hh
                    have k1 := exec_keeps ih n _ hl hx1
                    obtain ⟨g1, g2⟩ := getLoopA_some hr1
                    have k2 := Keeps.ofPut (o' := .loop { r1 with state := .busy }) g2 g1 (fun r' e => ⟨_, rfl⟩)
                    have hl2 := (k1.trans k2).lowNext hl
                    have k3 := exec_keeps ih n _ hl2 hx2
                    obtain ⟨g3, g4⟩ := getLoopA_some hr2
                    exact ((k1.trans k2).trans k3).trans (Keeps.ofPut g4 g3 (fun r' e => ⟨_, rfl⟩))
                  · cases hh
                · cases hh
            · cases hh
          · cases hh
      · cases hh
    · cases hh

end Go.AM
