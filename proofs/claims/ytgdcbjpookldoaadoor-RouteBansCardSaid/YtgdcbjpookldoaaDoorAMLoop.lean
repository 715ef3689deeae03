/- AM: loops by shape; ranges over functions. -/
import Derived.Test.YtgdcbjpookldoaaDoorAMOps2
set_option linter.unusedSimpArgs false
set_option linter.unusedVariables false
namespace Go.AM
variable {P : Program} {prims : Prims}

/-! ### The shape of an environment -/
def Sh (env : Env) (n : Nat) (l : List (Nat × Value)) : Prop := env.length = n ∧ ∀ p ∈ l, env.getD p.1 undef = p.2
theorem Sh_nil (env : Env) (n : Nat) : Sh env n [] = (env.length = n) := by simp [Sh]
theorem Sh_cons (env : Env) (n k : Nat) (v : Value) (l : List (Nat × Value)) : Sh env n ((k, v) :: l) = (env.getD k undef = v ∧ Sh env n l) := by
  apply propext
  simp only [Sh, List.mem_cons, forall_eq_or_imp]
  constructor
  · rintro ⟨a, b, c⟩; exact ⟨b, a, c⟩
  · rintro ⟨a, b, c⟩; exact ⟨b, a, c⟩
def lkE : List (Nat × Value) → Nat → Value → Value
  | [], _, d => d
  | (k, v) :: l, i, d => if i = k then v else lkE l i d
theorem lkE_nil (i : Nat) (d : Value) : lkE [] i d = d := nrfl rfl
theorem lkE_cons (k : Nat) (v : Value) (l : List (Nat × Value)) (i : Nat) (d : Value) : lkE ((k, v) :: l) i d = if i = k then v else lkE l i d := nrfl rfl
def tabL : Nat → (Nat → Value) → List (Nat × Value) → Nat → List Value
  | 0, _, _, _ => []
  | n + 1, ρ, l, i => lkE l i (ρ i) :: tabL n ρ l (i + 1)
theorem tabL_zero (ρ : Nat → Value) (l : List (Nat × Value)) (i : Nat) : tabL 0 ρ l i = [] := nrfl rfl
theorem tabL_succ (n : Nat) (ρ : Nat → Value) (l : List (Nat × Value)) (i : Nat) : tabL (n + 1) ρ l i = lkE l i (ρ i) :: tabL n ρ l (i + 1) := nrfl rfl
theorem lkE_getD (env : Env) : ∀ (l : List (Nat × Value)), (∀ p ∈ l, env.getD p.1 undef = p.2) → ∀ i, lkE l i (env.getD i undef) = env.getD i undef
  | [], _, _ => rfl
  | (k, v) :: l, h, i => by
    unfold lkE
    split
    · rename_i e; subst e; exact (h (i, v) (by simp)).symm
    · exact lkE_getD env l (fun p hp => h p (by simp [hp])) i
theorem tabL_getD (env0 : Env) (l : List (Nat × Value)) (hl : ∀ p ∈ l, env0.getD p.1 undef = p.2) : ∀ (env : Env) (i : Nat), env0.drop i = env → env = tabL env.length (fun k => env0.getD k undef) l i
  | [], i, _ => rfl
  | x :: env, i, h => by
    have hx : env0.getD i undef = x := by
      have := congrArg (fun l => l[0]?) h
      simp only [List.getElem?_drop, Nat.add_zero, List.getElem?_cons_zero] at this
      simp [List.getD, this]
    rw [List.length_cons, tabL_succ, lkE_getD env0 l hl, hx]
    congr 1
    exact tabL_getD env0 l hl env (i + 1) (by rw [← List.drop_drop, h]; rfl)
theorem Sh.open' {env : Env} {n : Nat} {l : List (Nat × Value)} (h : Sh env n l) : ∃ ρ : Nat → Value, env = tabL n ρ l 0 := by
  obtain ⟨h1, h2⟩ := h
  exact ⟨_, by have := tabL_getD env l h2 env 0 rfl; rw [h1] at this; exact this⟩

/-- A loop whose states have a shape: 'I' says of a round's state which slots hold what, and what is known. -/
theorem loop_w (hp : PMono prims) {c : Code} {σ : Type} (nt : Nat) (sh : σ → List (Nat × Value)) (I : σ → AHeap → Prop) (m : σ → Nat) {Q : XQ} (hc : codeFine c = true) (s0 : σ) {env : Env} {h : AHeap} (h0 : Sh env nt (sh s0)) (hI : I s0 h)
    (step : ∀ s h ρ, I s h → wpE P prims c (tabL nt ρ (sh s) 0) h fun x env' h' => match x with | .normal => ∃ s', m s' < m s ∧ Sh env' nt (sh s') ∧ I s' h' | x => Q x env' h') :
    ExecW P prims (.loop c) env h Q := by
  refine loopW hp hc (fun n env h => ∃ s, n = m s ∧ Sh env nt (sh s) ∧ I s h) ?_ (m s0) env h ⟨s0, rfl, h0, hI⟩
  rintro n env h ⟨s, rfl, hs, hI⟩
  obtain ⟨ρ, rfl⟩ := hs.open'
  have := step s h ρ hI
  refine (wpE_mono this) ?_
  intro x e' h' hq
  cases x with
  | normal => obtain ⟨s', a, b, c⟩ := hq; exact ⟨m s', a, s', rfl, b, c⟩
  | exit i => exact hq
  | ret => exact hq

/-! ### Branches, by one word each -/
section
variable {env : Env} {h : AHeap}
theorem cond_spl {Q : XQ} {p : Prop} {inst : Decidable p} {a b : Code} (h1 : decide p = true → p → condV P prims (.bool (decide p)) a b env h Q) (h2 : decide p = false → ¬ p → condV P prims (.bool (decide p)) a b env h Q) : condV P prims (.bool (decide p)) a b env h Q := by
  by_cases hp : p
  · exact h1 (decide_eq_true hp) hp
  · exact h2 (decide_eq_false hp) hp
theorem guard_spl {Q : EQ} {d b : Bool} {all : List Oper} {ah : List Nat} {j : Nat} {os : List Oper} {dst : Option Tmp} {op : Op} {p : Prop} {inst : Decidable p}
    (h1 : decide p = true → p → guardO P prims (some (decide p)) b d all ah j dst op os env h Q) (h2 : decide p = false → ¬ p → guardO P prims (some (decide p)) b d all ah j dst op os env h Q) : guardO P prims (some (decide p)) b d all ah j dst op os env h Q := by
  by_cases hp : p
  · exact h1 (decide_eq_true hp) hp
  · exact h2 (decide_eq_false hp) hp
theorem cond_b {Q : XQ} {t : Bool} {a b : Code} (h1 : t = true → t = true → condV P prims (.bool t) a b env h Q) (h2 : t = false → t = false → condV P prims (.bool t) a b env h Q) : condV P prims (.bool t) a b env h Q := by
  cases t
  · exact h2 rfl rfl
  · exact h1 rfl rfl
theorem guard_b {Q : EQ} {d b : Bool} {all : List Oper} {ah : List Nat} {j : Nat} {os : List Oper} {dst : Option Tmp} {op : Op} {t : Bool}
    (h1 : t = true → t = true → guardO P prims (some t) b d all ah j dst op os env h Q) (h2 : t = false → t = false → guardO P prims (some t) b d all ah j dst op os env h Q) : guardO P prims (some t) b d all ah j dst op os env h Q := by
  cases t
  · exact h2 rfl rfl
  · exact h1 rfl rfl
end
theorem opW_tied {all : List Oper} {ah : List Nat} {j : Nat} {env : Env} {op : Op} {h : AHeap} {K : VQ} (ht : tied all ah j = true) (hh : opW P prims true env op h K) : opW P prims (tiedW true all ah j) env op h K := by
  have : tiedW true all ah j = true := ht
  rw [this]; exact hh
theorem opW_untied {all : List Oper} {ah : List Nat} {j : Nat} {env : Env} {op : Op} {h : AHeap} {K : VQ} (ht : tied all ah j = false) (hh : opW P prims false env op h K) : opW P prims (tiedW true all ah j) env op h K := by
  have : tiedW true all ah j = false := ht
  rw [this]; exact hh
/-! ### Loose readers -/
def looseL (ops : List Oper) : List (Nat × List Nat) := (List.range ops.length).filterMap fun i => if loose ops i then some (i, (List.range (ops.length + 1)).filter (feasible ops i)) else none
def hAt (l : List (Env × AHeap × Value)) (hn : AHeap) (k : Nat) : AHeap := ((l[k]?).map (·.2.1)).getD hn
def stabK (P : Program) (op : Op) (env : Env) (h : AHeap) (v : Value) (l : List (Env × AHeap × Value)) (hn : AHeap) : List Nat → Prop
  | [] => True
  | k :: ks => stable P (evalE env) op (hAt l hn k) h.next v = true ∧ stabK P op env h v l hn ks
def stabS (P : Program) (all : List Oper) (o : Option Oper) (x : Option (Env × AHeap × Value)) (l : List (Env × AHeap × Value)) (hn : AHeap) (ks : List Nat) : Prop := ∃ o' env h v, o = some o' ∧ x = some (env, h, v) ∧ (Region.wanted o' (yieldedE all env) = true → stabK P o'.op env h v l hn ks)
/-- Of an operation that was left out nothing is asked. -/
def stabG (y : Option Bool) (b : Bool) (S : Prop) : Prop := y = some b → S
theorem stabG_tt (S : Prop) : stabG (some true) true S = S := propext ⟨fun q => q rfl, fun q _ => q⟩
theorem stabG_ff (S : Prop) : stabG (some false) false S = S := propext ⟨fun q => q rfl, fun q _ => q⟩
theorem stabG_tf (S : Prop) : stabG (some true) false S = True := propext ⟨fun _ => trivial, fun _ e => by cases e⟩
theorem stabG_ft (S : Prop) : stabG (some false) true S = True := propext ⟨fun _ => trivial, fun _ e => by cases e⟩
theorem stabG_none (b : Bool) (S : Prop) : stabG none b S = True := propext ⟨fun _ => trivial, fun _ e => by cases e⟩
def lchk (P : Program) (all : List Oper) (l : List (Env × AHeap × Value)) (hn : AHeap) : List (Nat × List Nat) → Prop
  | [] => True
  | (i, ks) :: r => stabS P all all[i]? l[i]? l hn ks ∧ lchk P all l hn r
theorem stabK_all {op : Op} {env : Env} {h : AHeap} {v : Value} {l : List (Env × AHeap × Value)} {hn : AHeap} : ∀ {ks : List Nat}, stabK P op env h v l hn ks → ∀ k ∈ ks, stable P (evalE env) op (hAt l hn k) h.next v = true
  | [], _, k, hk => by cases hk
  | q :: ks, hh, k, hk => by
    rcases List.mem_cons.1 hk with rfl | hk
    · exact hh.1
    · exact stabK_all hh.2 k hk
theorem lchk_all {all : List Oper} {l : List (Env × AHeap × Value)} {hn : AHeap} : ∀ {LL : List (Nat × List Nat)}, lchk P all l hn LL → ∀ p ∈ LL, stabS P all all[p.1]? l[p.1]? l hn p.2
  | [], _, p, hp => by cases hp
  | (i, ks) :: r, hh, p, hp => by
    rcases List.mem_cons.1 hp with rfl | hp
    · exact hh.1
    · exact lchk_all hh.2 p hp
theorem looseOk_by {all : List Oper} {l : List (Env × AHeap × Value)} {hn : AHeap} (LL : List (Nat × List Nat)) (hLL : looseL all = LL) (hh : lchk P all l hn LL) : looseOk P all l hn = true := by
  unfold looseOk
  rw [List.all_eq_true]
  intro i hi
  cases hl : loose all i with
  | false => rfl
  | true =>
    have hmem : (i, (List.range (all.length + 1)).filter (feasible all i)) ∈ LL := by
      rw [← hLL]
      unfold looseL
      rw [List.mem_filterMap]
      exact ⟨i, hi, by rw [hl]; rfl⟩
    obtain ⟨o, env, h, v, e1, e2, hk⟩ := lchk_all hh _ hmem
    simp only at e1 e2 hk
    rw [e1, e2]
    simp only [Bool.not_true, Bool.false_or, Bool.or_eq_true, Bool.not_eq_true', List.all_eq_true]
    cases hw : Region.wanted o (yieldedE all env) with
    | false => left; rfl
    | true =>
      right
      intro k hk'
      cases hf : feasible all i k with
      | false => left; rfl
      | true => right; exact stabK_all (hk hw) k (List.mem_filter.2 ⟨hk', hf⟩)
theorem lchk_nil (all : List Oper) (l : List (Env × AHeap × Value)) (hn : AHeap) : lchk P all l hn [] = True := nrfl rfl
theorem lchk_cons (all : List Oper) (l : List (Env × AHeap × Value)) (hn : AHeap) (i : Nat) (ks : List Nat) (r : List (Nat × List Nat)) : lchk P all l hn ((i, ks) :: r) = (stabS P all all[i]? l[i]? l hn ks ∧ lchk P all l hn r) := nrfl rfl
theorem stabS_some (all : List Oper) (dst : Option Tmp) (op : Op) (ty : TypeId) (pos : String) (af : Array Edge) (env : Env) (h : AHeap) (v : Value) (l : List (Env × AHeap × Value)) (hn : AHeap) (ks : List Nat) :
    stabS P all (some ⟨dst, op, ty, pos, af, none⟩) (some (env, h, v)) l hn ks = stabK P op env h v l hn ks := by
  apply propext
  constructor
  · rintro ⟨o', e', h', v', q1, q2, q3⟩; cases q1; cases q2; exact q3 (by simp [Region.wanted])
  · intro q; exact ⟨_, _, _, _, rfl, rfl, fun _ => q⟩
theorem stabS_guard (all : List Oper) (dst : Option Tmp) (op : Op) (ty : TypeId) (pos : String) (af : Array Edge) (j : Nat) (b : Bool) (w : Value) (env : Env) (h : AHeap) (v : Value) (l : List (Env × AHeap × Value)) (hn : AHeap) (ks : List Nat) :
    stabS P all (some ⟨dst, op, ty, pos, af, some (j, b)⟩) (some (w :: env, h, v)) l hn ks = stabG (yieldedE all (w :: env) j) b (stabK P op (w :: env) h v l hn ks) := by
  apply propext
  constructor
  · rintro ⟨o', e', h', v', q1, q2, q3⟩; cases q1; cases q2; exact fun e => q3 (by simp [Region.wanted, e])
  · intro q; exact ⟨_, _, _, _, rfl, rfl, fun e => q (by simpa [Region.wanted] using e)⟩
theorem stabK_nil (op : Op) (env : Env) (h : AHeap) (v : Value) (l : List (Env × AHeap × Value)) (hn : AHeap) : stabK P op env h v l hn [] = True := nrfl rfl
theorem stabK_cons (op : Op) (env : Env) (h : AHeap) (v : Value) (l : List (Env × AHeap × Value)) (hn : AHeap) (k : Nat) (ks : List Nat) : stabK P op env h v l hn (k :: ks) = (stable P (evalE env) op (hAt l hn k) h.next v = true ∧ stabK P op env h v l hn ks) := nrfl rfl
theorem hAt_eq (l : List (Env × AHeap × Value)) (hn : AHeap) (k : Nat) : hAt l hn k = ((l[k]?).map (·.2.1)).getD hn := nrfl rfl
/-- Would a load find the same? -/
def stabL (P : Program) (hk : AHeap) (t : TypeId) (x : Value) (n : Nat) (v : Value) : Prop := ∃ id off, x = .pointer (some ⟨id, off, none⟩) ∧ id < n ∧ aLoad P hk t x = some v ∧ sameV 20 v v = true ∧ belowV n 20 v = true
theorem stable_load (env : Env) (t : TypeId) (a : Operand) (hk : AHeap) (n : Nat) (v : Value) (hh : stabL P hk t (evalE env a) n v) : stable P (evalE env) (.load t a) hk n v = true := by
  obtain ⟨id, off, e, hid, hl, h1, h2⟩ := hh
  have hlt : id < hk.next := by
    rw [e, ld_ptr] at hl
    obtain ⟨_, _, hl⟩ := Option.bind_eq_some_iff.1 hl
    cases hg : hk.get id with
    | none => rw [hg] at hl; cases hl
    | some o => exact get_some_lt hg
  have hg : AHeap.get { hk with next := min hk.next n } id = hk.get id := by
    unfold AHeap.get
    simp only
    rw [if_pos (by omega), if_pos hlt]
  have hl' : aLoad P { hk with next := min hk.next n } t (evalE env a) = some v := by
    rw [e, ld_ptr, hg]; rw [e, ld_ptr] at hl; exact hl
  unfold stable aOp aPure aHeap
  simp only [hl', Option.map_some, h1, h2, Bool.and_self]
theorem sameV_int (n : Nat) (k : IntKind) (a : Int) : sameV (n + 1) (.int k a) (.int k a) = true := by simp [sameV]
theorem sameV_bool (n : Nat) (a : Bool) : sameV (n + 1) (.bool a) (.bool a) = true := by simp [sameV]
theorem sameV_string (n : Nat) (a : ByteArray) : sameV (n + 1) (.string a) (.string a) = true := by simp [sameV]
theorem sameV_ptr (n : Nat) (id off : Nat) : sameV (n + 1) (.pointer (some ⟨id, off, none⟩)) (.pointer (some ⟨id, off, none⟩)) = true := by simp [sameV]
theorem sameV_slice (n : Nat) (id off l c : Nat) : sameV (n + 1) (.slice (some ⟨id, off, none⟩) l c) (.slice (some ⟨id, off, none⟩) l c) = true := by simp [sameV]
theorem sameV_snil (n : Nat) (l c : Nat) : sameV (n + 1) (.slice none l c) (.slice none l c) = true := by simp [sameV]
theorem stabL_int {hk : AHeap} {t : TypeId} {id off n : Nat} {k : IntKind} {a : Int} (hid : id < n) (hl : aLoad P hk t (.pointer (some ⟨id, off, none⟩)) = some (.int k a)) : stabL P hk t (.pointer (some ⟨id, off, none⟩)) n (.int k a) :=
  ⟨id, off, rfl, hid, hl, sameV_int _ _ _, rfl⟩
theorem stabL_ptr {hk : AHeap} {t : TypeId} {id off n i o : Nat} (hid : id < n) (hi : i < n) (hl : aLoad P hk t (.pointer (some ⟨id, off, none⟩)) = some (.pointer (some ⟨i, o, none⟩))) : stabL P hk t (.pointer (some ⟨id, off, none⟩)) n (.pointer (some ⟨i, o, none⟩)) :=
  ⟨id, off, rfl, hid, hl, sameV_ptr _ _ _, by simp [belowV, hi]⟩
theorem setRow_nil (c : List Value) (off : Nat) : setRow c off [] = c := nrfl rfl
theorem setRow_cons (c : List Value) (off : Nat) (v : Value) (vs : List Value) : setRow c off (v :: vs) = setRow (c.set off v) (off + 1) vs := nrfl rfl

end Go.AM
