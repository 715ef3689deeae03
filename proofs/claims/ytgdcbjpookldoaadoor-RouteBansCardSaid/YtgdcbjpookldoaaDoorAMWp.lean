/- AM: what a run of code comes to, as a predicate: more rounds give the same; the run piece by piece. -/
import Derived.Test.YtgdcbjpookldoaaDoorAMExec
set_option linter.unusedSimpArgs false
set_option linter.unusedVariables false
namespace Go.AM

def CallLe (c c' : CallV) : Prop := ∀ f args h r, c f args h = some r → c' f args h = some r
def PMono (prims : Prims) : Prop := ∀ g p, prims g = some p → ∀ c c', CallLe c c' → ∀ all h r, p c all h = some r → p c' all h = some r

theorem CallLe.refl (c : CallV) : CallLe c c := fun _ _ _ _ h => h

variable {P : Program}

theorem opE_le {c c' : CallV} (hc : CallLe c c') {env : Env} {o : Oper} {h : AHeap} {r : Value × AHeap} (hh : opE P c env o h = some r) : opE P c' env o h = some r := by
  unfold opE at hh ⊢
  split at hh
  · exact hc _ _ _ _ hh
  · exact hh

theorem opA_le {c c' : CallV} (hc : CallLe c c') {env : Env} {o : Oper} {h : AHeap} {r : Value × AHeap} (hh : opA P c env o h = some r) : opA P c' env o h = some r := by
  unfold opA at hh ⊢
  split at hh
  · split at hh
    · exact hh
    · exact opE_le hc hh
  · exact opE_le hc hh
/-- Without strings that become bytes. -/
theorem opA_eq {c : CallV} {env : Env} {o : Oper} (hn : isNewO P o.op = false) (h : AHeap) : opA P c env o h = opE P c env o h := by
  unfold opA
  split
  · rename_i s d x ho
    have : aNewStr P h s d (evalE env x) = none := by
      unfold aNewStr
      split
      · rename_i e b hs hd _
        rw [ho] at hn
        simp [isNewO, hs, hd] at hn
      · rfl
    rw [this]
  · rfl

theorem opsE_le {c c' : CallV} (hc : CallLe c c') (all : List Oper) : ∀ (os : List Oper) {env : Env} {h : AHeap} {r : Env × AHeap}, opsE P c all os env h = some r → opsE P c' all os env h = some r
  | [], _, _, _, hh => hh
  | o :: os, env, h, r, hh => by
    unfold opsE at hh ⊢
    split at hh
    · rename_i hw
      rw [if_pos hw]
      cases e : opA P c env o h with
      | none => rw [e] at hh; cases hh
      | some q =>
        rw [e] at hh
        rw [opA_le hc e]
        exact opsE_le hc all os hh
    · rename_i hw
      rw [if_neg hw]
      exact opsE_le hc all os hh

theorem drawE_le {c c' : CallV} (hc : CallLe c c') (all : List Oper) (ah : List Nat) : ∀ (os : List Oper) {j : Nat} {env : Env} {h : AHeap} {r}, drawE P c all ah j os env h = some r → drawE P c' all ah j os env h = some r
  | [], _, _, _, _, hh => hh
  | o :: os, j, env, h, r, hh => by
    unfold drawE at hh ⊢
    split at hh
    · rename_i hw
      rw [if_pos hw]
      split at hh
      · rename_i ht
        rw [if_pos ht]
        cases e : opE P c env o { h with low := h.next } with
        | none => rw [e] at hh; cases hh
        | some q =>
          rw [e] at hh
          rw [opE_le hc e]
          simp only [Option.map_eq_some_iff] at hh ⊢
          obtain ⟨x, hx, rfl⟩ := hh
          exact ⟨x, drawE_le hc all ah os hx, rfl⟩
      · rename_i ht
        rw [if_neg ht]
        cases e : opE P c env o h with
        | none => rw [e] at hh; cases hh
        | some q =>
          rw [e] at hh
          rw [opE_le hc e]
          simp only [Option.map_eq_some_iff] at hh ⊢
          obtain ⟨x, hx, rfl⟩ := hh
          exact ⟨x, drawE_le hc all ah os hx, rfl⟩
    · rename_i hw
      rw [if_neg hw]
      simp only [Option.map_eq_some_iff] at hh ⊢
      obtain ⟨x, hx, rfl⟩ := hh
      exact ⟨x, drawE_le hc all ah os hx, rfl⟩

theorem regionE_le {c c' : CallV} (hc : CallLe c c') {ops : Array Oper} {d : Bool} {env : Env} {h : AHeap} {r : Env × AHeap} (hh : regionE P c ops d env h = some r) : regionE P c' ops d env h = some r := by
  unfold regionE at hh ⊢
  split at hh
  · rename_i hd
    rw [if_pos hd]
    split at hh
    · rename_i ho
      rw [if_pos ho]
      cases e : drawE P c ops.toList (aheadOf ops.toList) 0 ops.toList env h with
      | none => rw [e] at hh; cases hh
      | some q => rw [e] at hh; rw [drawE_le hc _ _ _ e]; exact hh
    · cases hh
  · rename_i hd
    rw [if_neg hd]
    exact opsE_le hc _ _ hh

theorem iterE_le {s s' : Env → AHeap → Option (AExit × Env × AHeap)} (hs : ∀ env h r, s env h = some r → s' env h = some r) : ∀ (n n' : Nat), n ≤ n' → ∀ {env h r}, iterE s n env h = some r → iterE s' n' env h = some r
  | 0, _, _, _, _, _, hh => by cases hh
  | n + 1, n', hn, env, h, r, hh => by
    obtain ⟨m, rfl⟩ : ∃ m, n' = m + 1 := ⟨n' - 1, by omega⟩
    unfold iterE at hh ⊢
    cases e : s env h with
    | none => rw [e] at hh; cases hh
    | some q =>
      rw [e] at hh
      rw [hs _ _ _ e]
      obtain ⟨x, env1, h1⟩ := q
      cases x with
      | normal => exact iterE_le hs n m (by omega) hh
      | _ => exact hh

theorem exec_le {c c' : CallV} (hc : CallLe c c') {n n' : Nat} (hn : n ≤ n') (code : Code) : ∀ {env : Env} {h : AHeap} {r}, exec P c n code env h = some r → exec P c' n' code env h = some r := by
  induction code with
  | region id ops d =>
    intro env h r hh
    unfold exec at hh ⊢
    simp only [Option.map_eq_some_iff] at hh ⊢
    obtain ⟨x, hx, rfl⟩ := hh
    exact ⟨x, regionE_le hc hx, rfl⟩
  | seq a b iha ihb =>
    intro env h r hh
    unfold exec at hh ⊢
    cases e : exec P c n a env h with
    | none => rw [e] at hh; cases hh
    | some q =>
      rw [e] at hh
      rw [iha e]
      obtain ⟨x, env1, h1⟩ := q
      cases x with
      | normal => exact ihb hh
      | _ => exact hh
  | cond k a b iha ihb =>
    intro env h r hh
    unfold exec at hh ⊢
    split at hh
    · exact iha hh
    · exact ihb hh
    · cases hh
  | block id a iha =>
    intro env h r hh
    unfold exec at hh ⊢
    cases e : exec P c n a env h with
    | none => rw [e] at hh; cases hh
    | some q =>
      rw [e] at hh
      rw [iha e]
      exact hh
  | loop a iha =>
    intro env h r hh
    unfold exec at hh ⊢
    exact iterE_le (fun env h r hh => iha hh) n n' hn hh
  | scope a iha =>
    intro env h r hh
    unfold exec at hh ⊢
    exact iha hh
  | rangeFunc f ps a b iha ihb =>
    intro env h r hh
    unfold exec at hh ⊢
    split at hh
    · cases hh
    · rename_i he
      rw [if_neg he]
      split at hh
      · rename_i v h1 e
        rw [hc _ _ _ _ e]
        exact hh
      · cases hh
  | skip => intro env h r hh; exact hh
  | label l => intro env h r hh; exact hh
  | ret => intro env h r hh; exact hh
  | exit id => intro env h r hh; exact hh
  | goto l => intro env h r hh; cases hh
  | refuse w => intro env h r hh; cases hh

theorem callE_succ {prims : Prims} (hp : PMono prims) : ∀ n, CallLe (callE P prims n) (callE P prims (n + 1))
  | 0 => fun _ _ _ _ hh => by cases hh
  | n + 1 => by
    have ih := callE_succ hp n
    intro f args h r hh
    unfold callE at hh ⊢
    split at hh
    · rename_i g all e
      try rw [e]
      try simp only at hh ⊢
      split at hh
      · rename_i p hpp
        try rw [hpp]
        exact hp _ _ hpp _ _ ih _ _ _ hh
      · rename_i hpp
        try rw [hpp]
        try simp only at hh ⊢
        split at hh
        · rename_i fn hfn
          try rw [hfn]
          try simp only at hh ⊢
          split at hh
          · rename_i c hb
            try rw [hb]
            try simp only at hh ⊢
            split at hh
            · rename_i env1 h1 e1
              rw [exec_le ih (Nat.le_succ n) _ e1]
              exact hh
            · rename_i env1 h1 e1
              rw [exec_le ih (Nat.le_succ n) _ e1]
              exact hh
            · cases hh
          · cases hh
        · cases hh
    · rename_i l all e
      try rw [e]
      try simp only at hh ⊢
      split at hh
      · rename_i q hq
        try rw [hq]
        try simp only at hh ⊢
        split at hh
        · cases hh
        · rename_i hl
          rw [if_neg hl]
          split at hh
          · rename_i env1 h1 e1
            rw [exec_le ih (Nat.le_succ n) _ e1]
            try simp only at hh ⊢
            split at hh
            · rename_i r1 hr1
              try rw [hr1]
              try simp only at hh ⊢
              split at hh
              · cases hh
              · rename_i hs
                rw [if_neg hs]
                split at hh
                · rename_i x env2 h2 e2
                  rw [exec_le ih (Nat.le_succ n) _ e2]
                  exact hh
                · cases hh
            · cases hh
          · cases hh
      · cases hh
    · cases hh

theorem callE_le {prims : Prims} (hp : PMono prims) {n m : Nat} (h : n ≤ m) : CallLe (callE P prims n) (callE P prims m) := by
  induction h with
  | refl => exact CallLe.refl _
  | step _ ih => exact fun f args h r hh => callE_succ hp _ _ _ _ _ (ih _ _ _ _ hh)

/-! ### Runs as predicates -/

abbrev VQ := Value → AHeap → Prop
abbrev XQ := AExit → Env → AHeap → Prop
abbrev EQ := Env → AHeap → Prop

/-- A call comes to an end, of which Q holds. -/
def CallW (P : Program) (prims : Prims) (f : Value) (args : List Value) (h : AHeap) (Q : VQ) : Prop :=
  ∃ n v h', callE P prims n f args h = some (v, h') ∧ Q v h'
/-- So does a piece of code. -/
def ExecW (P : Program) (prims : Prims) (c : Code) (env : Env) (h : AHeap) (Q : XQ) : Prop :=
  ∃ n x env' h', exec P (callE P prims n) n c env h = some (x, env', h') ∧ Q x env' h'

variable {prims : Prims}

theorem CallW.mono {f : Value} {args : List Value} {h : AHeap} {Q Q' : VQ} (hh : CallW P prims f args h Q) (hq : ∀ v h', Q v h' → Q' v h') : CallW P prims f args h Q' := by
  obtain ⟨n, v, h', e, q⟩ := hh
  exact ⟨n, v, h', e, hq _ _ q⟩
theorem ExecW.mono {c : Code} {env : Env} {h : AHeap} {Q Q' : XQ} (hh : ExecW P prims c env h Q) (hq : ∀ x e h', Q x e h' → Q' x e h') : ExecW P prims c env h Q' := by
  obtain ⟨n, x, e', h', e, q⟩ := hh
  exact ⟨n, x, e', h', e, hq _ _ _ q⟩

theorem exec_to (hp : PMono prims) {n m : Nat} (hn : n ≤ m) {c : Code} {env : Env} {h : AHeap} {r} (hh : exec P (callE P prims n) n c env h = some r) : exec P (callE P prims m) m c env h = some r :=
  exec_le (callE_le hp hn) hn c hh

/-- How a guard stands. -/
def guardW (g : Option (Nat × Bool)) (y : Nat → Option Bool) (A B : Prop) : Prop :=
  match g with
  | none => A
  | some (j, b) => (y j = some b → A) ∧ (y j ≠ some b → B)

def optW (r : Option Value) (h : AHeap) (K : VQ) : Prop := ∃ v, r = some v ∧ K v h
def optH (r : Option AHeap) (K : VQ) : Prop := ∃ h, r = some h ∧ K undef h
def optR (r : R Value) (K : VQ) : Prop := ∃ p, r = some p ∧ K p.1 p.2

/-- What holds of an operation's outcome. 't': a call is tied (in a region that draws); else it writes nothing that lay there. -/
def opW (P : Program) (prims : Prims) (t : Bool) (env : Env) (op : Op) (h : AHeap) (K : VQ) : Prop :=
  match op with
  | .call { callee := .value f, args, .. } =>
    if t then CallW P prims (evalE env f) (args.toList.map (evalE env)) h K
    else CallW P prims (evalE env f) (args.toList.map (evalE env)) { h with low := h.next } fun v h' => K v { h' with low := h.low }
  | .convert s d x => (match aNewStr P h s d (evalE env x) with | some r => K r.1 r.2 | none => optR (aOp P (evalE env) (.convert s d x) h) K)
  | op => optR (aOp P (evalE env) op h) K

/-- Is an operation a call that may write? -/
def tiedW (draw : Bool) (all : List Oper) (ah : List Nat) (j : Nat) : Bool := !draw || tied all ah j

def opsW (P : Program) (prims : Prims) (draw : Bool) (all : List Oper) (ah : List Nat) : Nat → List Oper → Env → AHeap → EQ → Prop
  | _, [], env, h, Q => Q env h
  | j, o :: os, env, h, Q =>
    guardW o.guard (yieldedE all env)
      (opW P prims (tiedW draw all ah j) env o.op h fun v h' => opsW P prims draw all ah (j + 1) os (putE env o.dst v) h' Q)
      (opsW P prims draw all ah (j + 1) os (putE env o.dst undef) h Q)

theorem wanted_of {g : Option (Nat × Bool)} {o : Oper} (ho : o.guard = g) {y : Nat → Option Bool} {A B : Prop} (hg : guardW g y A B) : (Region.wanted o y = true ∧ A) ∨ (Region.wanted o y = false ∧ B) := by
  unfold Region.wanted
  rw [ho]
  cases g with
  | none => exact .inl ⟨rfl, hg⟩
  | some p =>
    obtain ⟨j, b⟩ := p
    simp only
    by_cases e : y j = some b
    · exact .inl ⟨by simp [e], hg.1 e⟩
    · exact .inr ⟨by simpa using e, hg.2 e⟩

/-- An operation's run, a call that isn't tied protected. -/
def runO (P : Program) (call : CallV) (t : Bool) (env : Env) (o : Oper) (h : AHeap) : R Value :=
  if isCallO o.op && !t then (opA P call env o { h with low := h.next }).map fun r => (r.1, { r.2 with low := h.low }) else opA P call env o h

theorem runO_le {c c' : CallV} (hc : CallLe c c') {t : Bool} {env : Env} {o : Oper} {h : AHeap} {r} (hh : runO P c t env o h = some r) : runO P c' t env o h = some r := by
  unfold runO at hh ⊢
  split at hh
  · rename_i e
    rw [if_pos e]
    simp only [Option.map_eq_some_iff] at hh ⊢
    obtain ⟨x, hx, rfl⟩ := hh
    exact ⟨x, opA_le hc hx, rfl⟩
  · rename_i e
    rw [if_neg e]
    exact opA_le hc hh

theorem opW_run {t : Bool} {env : Env} {o : Oper} {h : AHeap} {K : VQ} (hh : opW P prims t env o.op h K) :
    ∃ n v h', K v h' ∧ runO P (callE P prims n) t env o h = some (v, h') := by
  unfold opW at hh
  split at hh
  · rename_i f args tys e
    have hcall : isCallO o.op = true := by rw [e]; rfl
    split at hh
    · rename_i ht
      obtain ⟨n, v, h', e1, q⟩ := hh
      refine ⟨n, v, h', q, ?_⟩
      unfold runO
      rw [hcall, ht]
      simp only [Bool.not_true, Bool.and_false, Bool.false_eq_true, if_false]
      unfold opA
      rw [e]
      simp only
      unfold opE
      rw [e]
      exact e1
    · rename_i ht
      obtain ⟨n, v, h', e1, q⟩ := hh
      refine ⟨n, v, _, q, ?_⟩
      have ht' : t = false := by simpa using ht
      unfold runO
      rw [hcall, ht']
      simp only [Bool.not_false, Bool.and_true, if_true]
      have : opA P (callE P prims n) env o { h with low := h.next } = some (v, h') := by
        unfold opA
        rw [e]
        simp only
        unfold opE
        rw [e]
        exact e1
      rw [this]; rfl
  · rename_i s d x e
    have hcall : isCallO o.op = false := by rw [e]; rfl
    split at hh
    · rename_i r hr
      refine ⟨0, r.1, r.2, hh, ?_⟩
      unfold runO
      rw [hcall]
      simp only [Bool.false_and, Bool.false_eq_true, if_false]
      unfold opA
      rw [e]
      simp only
      rw [hr]
    · rename_i hr
      obtain ⟨⟨v, h'⟩, e1, hh⟩ := hh
      refine ⟨0, v, h', hh, ?_⟩
      unfold runO
      rw [hcall]
      simp only [Bool.false_and, Bool.false_eq_true, if_false]
      unfold opA
      rw [e]
      simp only
      rw [hr]
      simp only
      unfold opE
      rw [e]
      exact e1
  · rename_i hne hnc
    have hcall : isCallO o.op = false := by
      unfold isCallO
      split
      · rename_i hx; exact absurd hx (hne _ _ _)
      · rfl
    obtain ⟨⟨v, h'⟩, e, hh⟩ := hh
    refine ⟨0, v, h', hh, ?_⟩
    unfold runO
    rw [hcall]
    simp only [Bool.false_and, Bool.false_eq_true, if_false]
    unfold opA
    split
    · rename_i hx; exact absurd hx (hnc _ _ _)
    · unfold opE
      split
      · rename_i hx; exact absurd hx (hne _ _ _)
      · exact e

/-- The text's order. -/
theorem opsW_plain (hp : PMono prims) (all : List Oper) (ah : List Nat) {Q : EQ} : ∀ (os : List Oper) (j : Nat) {env : Env} {h : AHeap}, opsW P prims false all ah j os env h Q →
    ∃ n env' h', opsE P (callE P prims n) all os env h = some (env', h') ∧ Q env' h'
  | [], _, env, h, hh => ⟨0, env, h, rfl, hh⟩
  | o :: os, j, env, h, hh => by
    unfold opsW at hh
    rcases wanted_of rfl hh with ⟨hw, hh⟩ | ⟨hw, hh⟩
    · obtain ⟨n, v, h1, hk, e⟩ := opW_run hh
      have e' : opA P (callE P prims n) env o h = some (v, h1) := by
        unfold runO tiedW at e
        simpa using e
      obtain ⟨m, env', h', e2, q⟩ := opsW_plain hp all ah os (j + 1) hk
      refine ⟨max n m, env', h', ?_, q⟩
      unfold opsE
      rw [if_pos hw, opA_le (callE_le hp (Nat.le_max_left n m)) e']
      exact opsE_le (callE_le hp (Nat.le_max_right n m)) _ _ e2
    · obtain ⟨m, env', h', e2, q⟩ := opsW_plain hp all ah os (j + 1) hh
      refine ⟨m, env', h', ?_, q⟩
      unfold opsE
      rw [if_neg (by rw [hw]; simp)]
      exact e2

theorem opsW_draw (hp : PMono prims) (all : List Oper) (ah : List Nat) {Q : EQ} : ∀ (os : List Oper) (j : Nat) {env : Env} {h : AHeap}, (∀ o ∈ os, isNewO P o.op = false) → opsW P prims true all ah j os env h Q →
    ∃ n l env' h', drawE P (callE P prims n) all ah j os env h = some (l, env', h') ∧ Q env' h'
  | [], _, env, h, _, hh => ⟨0, [], env, h, rfl, hh⟩
  | o :: os, j, env, h, hnew, hh => by
    have hno := hnew o (List.mem_cons_self ..)
    have hnos : ∀ o ∈ os, isNewO P o.op = false := fun o ho => hnew o (List.mem_cons_of_mem _ ho)
    unfold opsW at hh
    rcases wanted_of rfl hh with ⟨hw, hh⟩ | ⟨hw, hh⟩
    · obtain ⟨n, v, h1, hk, e⟩ := opW_run hh
      obtain ⟨m, l, env', h', e2, q⟩ := opsW_draw hp all ah os (j + 1) hnos hk
      refine ⟨max n m, (env, h, v) :: l, env', h', ?_, q⟩
      have e' := runO_le (callE_le hp (Nat.le_max_left n m)) e
      have e2' := drawE_le (callE_le hp (Nat.le_max_right n m)) _ _ _ e2
      unfold runO tiedW at e'
      rw [opA_eq hno, opA_eq hno] at e'
      unfold drawE
      rw [if_pos hw]
      simp only [Bool.not_true, Bool.false_or] at e'
      split at e'
      · rename_i ht
        rw [if_pos ht]
        simp only [Option.map_eq_some_iff] at e'
        obtain ⟨⟨v1, h2⟩, hx, hy⟩ := e'
        cases hy
        rw [hx]
        simp only
        rw [e2']; rfl
      · rename_i ht
        rw [if_neg ht, e']
        simp only
        rw [e2']; rfl
    · obtain ⟨m, l, env', h', e2, q⟩ := opsW_draw hp all ah os (j + 1) hnos hh
      refine ⟨m, (env, h, undef) :: l, env', h', ?_, q⟩
      unfold drawE
      rw [if_neg (by rw [hw]; simp), e2]; rfl

/-- Has a region no loose reader? -/
def looseFree (ops : List Oper) : Bool := (List.range ops.length).all fun i => !loose ops i
/-- The regions of a piece of code that draw may be drawn. -/
def codeFine : Code → Bool
  | .region _ ops d => !d || drawOk ops.toList
  | .seq a b => codeFine a && codeFine b
  | .cond _ a b => codeFine a && codeFine b
  | .block _ a | .loop a | .scope a => codeFine a
  | .rangeFunc _ _ a b => codeFine a && codeFine b
  | _ => true

theorem looseOk_of {ops : List Oper} (hl : ((List.range ops.length).all fun i => !loose ops i) = true) (l : List (Env × AHeap × Value)) (hn : AHeap) : looseOk P ops l hn = true := by
  unfold looseOk
  simp only [List.all_eq_true] at hl ⊢
  intro i hi
  rw [hl i hi]; rfl

/-- A region that draws. -/
def drawW (P : Program) (prims : Prims) (id : Nat) (ops : Array Oper) (env : Env) (h : AHeap) (Q : EQ) : Prop :=
  ExecW P prims (.region id ops true) env h fun x e h' => x = .normal ∧ Q e h'

/-- What holds behind a piece of code. Loops, ranges over functions, regions that draw stay closed. -/
def wpE (P : Program) (prims : Prims) : Code → Env → AHeap → XQ → Prop
  | .skip, env, h, Q | .label _, env, h, Q => Q .normal env h
  | .ret, env, h, Q => Q .ret env h
  | .exit id, env, h, Q => Q (.exit id) env h
  | .region _ ops false, env, h, Q => opsW P prims false ops.toList [] 0 ops.toList env h (Q .normal)
  | .region id ops true, env, h, Q => drawW P prims id ops env h (Q .normal)
  | .seq a b, env, h, Q => wpE P prims a env h fun x env h => match x with | .normal => wpE P prims b env h Q | x => Q x env h
  | .cond c a b, env, h, Q => match evalE env c with | .bool t => (t = true → wpE P prims a env h Q) ∧ (t = false → wpE P prims b env h Q) | _ => False
  | .block id a, env, h, Q => wpE P prims a env h fun x env h => match x with | .exit i => if i = id then Q .normal env h else Q (.exit i) env h | x => Q x env h
  | .scope a, env, h, Q => wpE P prims a env h Q
  | .loop a, env, h, Q => ExecW P prims (.loop a) env h Q
  | .rangeFunc f ps a b, env, h, Q => ExecW P prims (.rangeFunc f ps a b) env h Q
  | .goto _, _, _, _ | .refuse _, _, _, _ => False

theorem wpE_sound (hp : PMono prims) (c : Code) : codeFine c = true → ∀ {env : Env} {h : AHeap} {Q : XQ}, wpE P prims c env h Q → ExecW P prims c env h Q := by
  induction c with
  | skip => intro _ env h Q hh; exact ⟨0, _, _, _, rfl, hh⟩
  | label l => intro _ env h Q hh; exact ⟨0, _, _, _, rfl, hh⟩
  | ret => intro _ env h Q hh; exact ⟨0, _, _, _, rfl, hh⟩
  | exit id => intro _ env h Q hh; exact ⟨0, _, _, _, rfl, hh⟩
  | goto l => intro _ env h Q hh; cases hh
  | refuse w => intro _ env h Q hh; cases hh
  | loop a _ => intro _ env h Q hh; exact hh
  | rangeFunc f ps a b _ _ => intro _ env h Q hh; exact hh
  | scope a ih =>
    intro hc env h Q hh
    obtain ⟨n, x, e', h', e, q⟩ := ih hc hh
    exact ⟨n, x, e', h', e, q⟩
  | region id ops d =>
    intro hc env h Q hh
    cases d with
    | false =>
      obtain ⟨n, env', h', e, q⟩ := opsW_plain hp _ _ _ _ hh
      refine ⟨n, _, env', h', ?_, q⟩
      unfold exec regionE
      rw [if_neg (by simp), e]; rfl
    | true =>
      exact ExecW.mono hh fun x e h' q => by obtain ⟨rfl, q⟩ := q; exact q
  | seq a b iha ihb =>
    intro hc env h Q hh
    unfold codeFine at hc
    simp only [Bool.and_eq_true] at hc
    obtain ⟨n, x, e1, h1, e, q⟩ := iha hc.1 hh
    cases x with
    | normal =>
      obtain ⟨m, y, e2, h2, e', q'⟩ := ihb hc.2 q
      refine ⟨max n m, y, e2, h2, ?_, q'⟩
      unfold exec
      rw [exec_to hp (Nat.le_max_left n m) e]
      exact exec_to hp (Nat.le_max_right n m) e'
    | exit i => exact ⟨n, _, e1, h1, by unfold exec; rw [e], q⟩
    | ret => exact ⟨n, _, e1, h1, by unfold exec; rw [e], q⟩
  | cond k a b iha ihb =>
    intro hc env h Q hh
    unfold codeFine at hc
    simp only [Bool.and_eq_true] at hc
    unfold wpE at hh
    split at hh
    · rename_i t e
      cases t with
      | true => obtain ⟨n, x, e1, h1, e2, q⟩ := iha hc.1 (hh.1 rfl); exact ⟨n, x, e1, h1, by unfold exec; rw [e]; exact e2, q⟩
      | false => obtain ⟨n, x, e1, h1, e2, q⟩ := ihb hc.2 (hh.2 rfl); exact ⟨n, x, e1, h1, by unfold exec; rw [e]; exact e2, q⟩
    · cases hh
  | block id a ih =>
    intro hc env h Q hh
    obtain ⟨n, x, e1, h1, e, q⟩ := ih hc hh
    cases x with
    | normal => exact ⟨n, _, e1, h1, by unfold exec; rw [e], q⟩
    | ret => exact ⟨n, _, e1, h1, by unfold exec; rw [e], q⟩
    | exit i =>
      simp only at q
      split at q
      · rename_i hi
        exact ⟨n, _, e1, h1, by unfold exec; rw [e]; simp [hi], q⟩
      · rename_i hi
        exact ⟨n, _, e1, h1, by unfold exec; rw [e]; simp [hi], q⟩

theorem opW_mono {t : Bool} {env : Env} {op : Op} {h : AHeap} {K K' : VQ} (hh : opW P prims t env op h K) (hk : ∀ v h', K v h' → K' v h') : opW P prims t env op h K' := by
  unfold opW at hh ⊢
  split at hh
  · by_cases ht : t = true
    · rw [if_pos ht] at hh ⊢; exact hh.mono hk
    · rw [if_neg ht] at hh ⊢; exact hh.mono fun v h' q => hk _ _ q
  · split at hh
    · exact hk _ _ hh
    · obtain ⟨p, e, q⟩ := hh
      exact ⟨p, e, hk _ _ q⟩
  · obtain ⟨p, e, q⟩ := hh
    exact ⟨p, e, hk _ _ q⟩
theorem opsW_mono {d : Bool} {all : List Oper} {ah : List Nat} {Q Q' : EQ} (hq : ∀ e h, Q e h → Q' e h) : ∀ (os : List Oper) (j : Nat) {env : Env} {h : AHeap}, opsW P prims d all ah j os env h Q → opsW P prims d all ah j os env h Q'
  | [], _, _, _, hh => hq _ _ hh
  | o :: os, j, env, h, hh => by
    unfold opsW guardW at hh ⊢
    split at hh
    · exact opW_mono hh fun v h' q => opsW_mono hq os _ q
    · exact ⟨fun e => opW_mono (hh.1 e) fun v h' q => opsW_mono hq os _ q, fun e => opsW_mono hq os _ (hh.2 e)⟩
theorem wpE_mono {c : Code} : ∀ {env : Env} {h : AHeap} {Q Q' : XQ}, wpE P prims c env h Q → (∀ x e h', Q x e h' → Q' x e h') → wpE P prims c env h Q' := by
  induction c with
  | seq a b iha ihb =>
    intro env h Q Q' hh hq
    refine iha hh fun x e h' q => ?_
    cases x with
    | normal => exact ihb q hq
    | _ => exact hq _ _ _ q
  | cond k a b iha ihb =>
    intro env h Q Q' hh hq
    unfold wpE at hh ⊢
    split at hh
    · exact ⟨fun e => iha (hh.1 e) hq, fun e => ihb (hh.2 e) hq⟩
    · cases hh
  | block id a ih =>
    intro env h Q Q' hh hq
    refine ih hh fun x e h' q => ?_
    cases x with
    | exit i =>
      simp only at q ⊢
      split at q
      · rename_i hi; rw [if_pos hi]; exact hq _ _ _ q
      · rename_i hi; rw [if_neg hi]; exact hq _ _ _ q
    | _ => exact hq _ _ _ q
  | scope a ih => intro env h Q Q' hh hq; exact ih hh hq
  | loop a _ => intro env h Q Q' hh hq; exact ExecW.mono hh hq
  | rangeFunc f ps a b _ _ => intro env h Q Q' hh hq; exact ExecW.mono hh hq
  | region id ops d =>
    intro env h Q Q' hh hq
    cases d with
    | false => exact opsW_mono (fun e h q => hq _ _ _ q) _ _ hh
    | true => exact ExecW.mono hh fun x e h' q => ⟨q.1, hq _ _ _ q.2⟩
  | skip => intro env h Q Q' hh hq; exact hq _ _ _ hh
  | label l => intro env h Q Q' hh hq; exact hq _ _ _ hh
  | ret => intro env h Q Q' hh hq; exact hq _ _ _ hh
  | exit id => intro env h Q Q' hh hq; exact hq _ _ _ hh
  | goto l => intro env h Q Q' hh hq; cases hh
  | refuse w => intro env h Q Q' hh hq; cases hh

/-- A region that draws and has no loose reader. -/
theorem drawW_fine (hp : PMono prims) {id : Nat} {ops : Array Oper} {env : Env} {h : AHeap} {Q : EQ} (ho : drawOk ops.toList = true) (hl : looseFree ops.toList = true) (hn : (ops.toList.all fun o => !isNewO P o.op) = true)
    (hh : opsW P prims true ops.toList (aheadOf ops.toList) 0 ops.toList env h Q) : drawW P prims id ops env h Q := by
  obtain ⟨n, l, env', h', e, q⟩ := opsW_draw hp _ _ _ _ (fun o ho => by simpa using List.all_eq_true.1 hn o ho) hh
  refine ⟨n, _, env', h', ?_, rfl, q⟩
  unfold exec regionE
  rw [if_pos rfl, if_pos ho, e]
  simp only
  rw [if_pos (looseOk_of hl _ _)]; rfl

/-- A region that draws, with a trace of what was done. -/
def opsT (P : Program) (prims : Prims) (all : List Oper) (ah : List Nat) : Nat → List Oper → Env → AHeap → List (Env × AHeap × Value) → EQ → Prop
  | _, [], env, h, tr, Q => looseOk P all tr.reverse h = true ∧ Q env h
  | j, o :: os, env, h, tr, Q =>
    guardW o.guard (yieldedE all env)
      (opW P prims (tiedW true all ah j) env o.op h fun v h' => opsT P prims all ah (j + 1) os (putE env o.dst v) h' ((env, h, v) :: tr) Q)
      (opsT P prims all ah (j + 1) os (putE env o.dst undef) h ((env, h, undef) :: tr) Q)

theorem opsT_draw (hp : PMono prims) (all : List Oper) (ah : List Nat) {Q : EQ} : ∀ (os : List Oper) (j : Nat) {env : Env} {h : AHeap} {tr}, (∀ o ∈ os, isNewO P o.op = false) → opsT P prims all ah j os env h tr Q →
    ∃ n l env' h', drawE P (callE P prims n) all ah j os env h = some (l, env', h') ∧ looseOk P all (tr.reverse ++ l) h' = true ∧ Q env' h'
  | [], _, env, h, tr, _, hh => ⟨0, [], env, h, rfl, by simpa using hh.1, hh.2⟩
  | o :: os, j, env, h, tr, hnew, hh => by
    have hno := hnew o (List.mem_cons_self ..)
    have hnos : ∀ o ∈ os, isNewO P o.op = false := fun o ho => hnew o (List.mem_cons_of_mem _ ho)
    unfold opsT at hh
    rcases wanted_of rfl hh with ⟨hw, hh⟩ | ⟨hw, hh⟩
    · obtain ⟨n, v, h1, hk, e⟩ := opW_run hh
      obtain ⟨m, l, env', h', e2, q1, q⟩ := opsT_draw hp all ah os (j + 1) hnos hk
      refine ⟨max n m, (env, h, v) :: l, env', h', ?_, by simpa using q1, q⟩
      have e' := runO_le (callE_le hp (Nat.le_max_left n m)) e
      have e2' := drawE_le (callE_le hp (Nat.le_max_right n m)) _ _ _ e2
      unfold runO tiedW at e'
      rw [opA_eq hno, opA_eq hno] at e'
      unfold drawE
      rw [if_pos hw]
      simp only [Bool.not_true, Bool.false_or] at e'
      split at e'
      · rename_i ht
        rw [if_pos ht]
        simp only [Option.map_eq_some_iff] at e'
        obtain ⟨⟨v1, h2⟩, hx, hy⟩ := e'
        cases hy
        rw [hx]
        simp only
        rw [e2']; rfl
      · rename_i ht
        rw [if_neg ht, e']
        simp only
        rw [e2']; rfl
    · obtain ⟨m, l, env', h', e2, q1, q⟩ := opsT_draw hp all ah os (j + 1) hnos hh
      refine ⟨m, (env, h, undef) :: l, env', h', ?_, by simpa using q1, q⟩
      unfold drawE
      rw [if_neg (by rw [hw]; simp), e2]; rfl

theorem drawW_loose (hp : PMono prims) {id : Nat} {ops : Array Oper} {env : Env} {h : AHeap} {Q : EQ} (ho : drawOk ops.toList = true) (hn : (ops.toList.all fun o => !isNewO P o.op) = true)
    (hh : opsT P prims ops.toList (aheadOf ops.toList) 0 ops.toList env h [] Q) : drawW P prims id ops env h Q := by
  obtain ⟨n, l, env', h', e, q1, q⟩ := opsT_draw hp _ _ _ _ (fun o ho => by simpa using List.all_eq_true.1 hn o ho) hh
  refine ⟨n, _, env', h', ?_, rfl, q⟩
  unfold exec regionE
  rw [if_pos rfl, if_pos ho, e]
  simp only
  rw [if_pos (by simpa using q1)]; rfl

/-- A loop, by what stays true of it. -/
theorem loopW (hp : PMono prims) {c : Code} (hc : codeFine c = true) (I : Nat → Env → AHeap → Prop) {Q : XQ}
    (step : ∀ n env h, I n env h → wpE P prims c env h fun x env' h' => match x with | .normal => ∃ m, m < n ∧ I m env' h' | x => Q x env' h') :
    ∀ n env h, I n env h → ExecW P prims (.loop c) env h Q := by
  intro n
  induction n using Nat.strongRecOn with
  | _ n ih =>
    intro env h hI
    obtain ⟨k, x, e1, h1, e, q⟩ := wpE_sound hp c hc (step n env h hI)
    cases x with
    | normal =>
      obtain ⟨m, hm, q⟩ := q
      obtain ⟨k2, y, e2, h2, e', q'⟩ := ih m hm e1 h1 q
      refine ⟨max k k2 + 1, y, e2, h2, ?_, q'⟩
      unfold exec iterE
      rw [exec_to hp (by omega) e]
      simp only
      have e3 := exec_le (callE_le hp (show k2 ≤ max k k2 + 1 by omega)) (Nat.le_refl k2) (.loop c) e'
      unfold exec at e3
      exact iterE_le (fun env h r hh => exec_le (CallLe.refl _) (show k2 ≤ max k k2 + 1 by omega) c hh) k2 (max k k2) (by omega) e3
    | exit i =>
      refine ⟨k + 1, _, e1, h1, ?_, q⟩
      unfold exec iterE
      rw [exec_to hp (by omega) e]
    | ret =>
      refine ⟨k + 1, _, e1, h1, ?_, q⟩
      unfold exec iterE
      rw [exec_to hp (by omega) e]

/-- How a function's run ends. -/
def retK (P : Program) (fn : Func) (Q : VQ) : XQ := fun x env h => match x with
  | .normal | .ret => optW (resultsE P fn env h) h Q
  | _ => False

/-- A call of Go code with a body. -/
theorem callW_of (hp : PMono prims) {g : FuncId} {first cap : Array Value} {args : List Value} {fn : Func} {c : Code} {h : AHeap} {Q : VQ} (hpr : prims g = none) (hfn : P.funcs[g]? = some fn) (hb : fn.body = some c) (hc : codeFine c = true)
    (hh : wpE P prims c ((first.toList ++ args ++ cap.toList) ++ List.replicate (fn.ntmps - (first.toList ++ args ++ cap.toList).length) undef) h (retK P fn Q)) : CallW P prims (.func (.func g) first cap) args h Q := by
  obtain ⟨n, x, e1, h1, e, q⟩ := wpE_sound hp c hc hh
  unfold retK at q
  split at q
  · obtain ⟨v, hv, q⟩ := q
    refine ⟨n + 1, v, h1, ?_, q⟩
    unfold callE
    simp only [argsOf, hpr, hfn, hb]
    rw [e]; simp only [hv]; rfl
  · obtain ⟨v, hv, q⟩ := q
    refine ⟨n + 1, v, h1, ?_, q⟩
    unfold callE
    simp only [argsOf, hpr, hfn, hb]
    rw [e]; simp only [hv]; rfl
  · cases q

/-- What stands for a function's run. -/
theorem callW_prim (hp : PMono prims) {g : FuncId} {first cap : Array Value} {args : List Value} {h h' : AHeap} {v : Value} {Q : VQ} {p} (hpr : prims g = some p) (hh : ∃ n, p (callE P prims n) (first.toList ++ args ++ cap.toList) h = some (v, h')) (hq : Q v h') : CallW P prims (.func (.func g) first cap) args h Q := by
  obtain ⟨n, e⟩ := hh
  refine ⟨n + 1, v, h', ?_, hq⟩
  unfold callE
  simp only [argsOf, hpr]
  exact e

theorem ExecW.out {c : Code} {env : Env} {h : AHeap} {Q : XQ} (hh : ExecW P prims c env h Q) : ∃ n x env' h', exec P (callE P prims n) n c env h = some (x, env', h') ∧ Q x env' h' := hh
theorem ExecW.mk {c : Code} {env : Env} {h : AHeap} {Q : XQ} (hh : ∃ n x env' h', exec P (callE P prims n) n c env h = some (x, env', h') ∧ Q x env' h') : ExecW P prims c env h Q := hh
attribute [irreducible] drawW ExecW
end Go.AM
