/- AM: ranges over functions, by what the function tells. -/
import Derived.Test.YtbaohngkapmhlaaDoorAMLoop
set_option linter.unusedSimpArgs false
set_option linter.unusedVariables false
namespace Go.AM
variable {P : Program} {prims : Prims}

theorem setTmps_nil (t : List Value) : setTmps t [] = t := nrfl rfl
theorem setTmps_cons (t : List Value) (k : Tmp) (v : Value) (l : List (Tmp × Value)) : setTmps t ((k, v) :: l) = setTmps (t.set k v) l := nrfl rfl

/-- A round: a call of a loop's own function. -/
theorem yield_w (hp : PMono prims) {l : Nat} {h : AHeap} {args : List Value} {r : ALoop} {Q : VQ} (hr : getLoopA h l = some r) (hlen : args.length = r.params.size) (ca : codeFine r.assign = true) (cb : codeFine r.body = true)
    (hh : wpE P prims r.assign (setTmps r.tmps (r.params.toList.zip args)) h fun x env h1 => x = .normal ∧ ∃ r1, getLoopA h1 l = some r1 ∧ r1.state = .ready ∧
      wpE P prims r.body env (h1.put l (some (.loop { r1 with state := .busy }))) fun x _ h2 => ∃ r2, getLoopA h2 l = some r2 ∧
        Q (.bool (jumpOf x).isNone) (h2.put l (some (.loop { r2 with state := if (jumpOf x).isNone then .ready else .done, pending := jumpOf x })))) :
    CallW P prims (.func (.yield l) #[] #[]) args h Q := by
  obtain ⟨n, x, e1, h1, e, rfl, r1, hr1, hs, hb⟩ := (wpE_sound hp _ ca hh).out
  obtain ⟨m, y, e2, h2, e', r2, hr2, hq⟩ := (wpE_sound hp _ cb hb).out
  refine ⟨max n m + 1, _, _, ?_, hq⟩
  unfold callE
  simp only [argsOf, Array.toList_empty, List.nil_append, hr]
  rw [if_neg (by simpa using hlen), exec_to hp (Nat.le_max_left n m) e]
  simp only [hr1]
  rw [if_neg (by simp [hs]), exec_to hp (Nat.le_max_right n m) e']
  simp only [hr2]

theorem range_w (hp : PMono prims) {f : Operand} {ps : Array Tmp} {assign body : Code} {env : Env} {h : AHeap} {Q : XQ} (hent : entersV P (evalE env f) = true)
    (hh : CallW P prims (evalE env f) [.func (.yield h.next) #[] #[]] (h.alloc (.loop { state := .ready, pending := none, tmps := env, params := ps, assign, body })) fun _ h' =>
      ∃ r x, getLoopA h' h.next = some r ∧ r.state ≠ .busy ∧ exitOf r.pending = some x ∧ Q x env (h'.put h.next (some (.loop { r with state := .exhausted })))) :
    ExecW P prims (.rangeFunc f ps assign body) env h Q := by
  obtain ⟨n, v, h', e, r, x, hr, hs, hx, hq⟩ := hh
  refine ExecW.mk ⟨n, x, env, _, ?_, hq⟩
  unfold exec
  rw [if_neg (by simp [hent]), e]
  simp only [hr]
  rw [if_neg (by simpa using hs), hx]
  rfl

def Stab (J : (Nat → Prop) → AHeap → Prop) : Prop := ∀ A A' h1 h2, J A h1 → Fr A h1 h2 → (∀ id, A id → A' id) → (∀ id, A' id → A id ∨ h1.next ≤ id) → J A' h2

/-- A function that tells things, one behind the other. 'R': what it reads of what was there; it writes what it made itself alone (A). -/
def IterOk (P : Program) (prims : Prims) (f : Value) (R : Nat → Prop) (xs : List (List Value)) (h : AHeap) : Prop :=
  ∀ (y : Value) (J : Nat → (Nat → Prop) → AHeap → Prop) (E : (Nat → Prop) → AHeap → Prop) (h0 : AHeap),
    h.next ≤ h0.next → (∀ id, id < h.next → R id → h0.get id = h.get id) → h0.low ≤ h0.next →
    (∀ i, Stab (J i)) → Stab E →
    (∀ i x A h1, xs[i]? = some x → J i A h1 → (∀ id, A id → h0.next ≤ id ∧ id < h1.next) → h0.next ≤ h1.next → h1.low = h0.low → (∀ id, R id → h1.get id = h0.get id) → CallW P prims y x h1 fun v h2 => ∃ b, v = .bool b ∧ h1.next ≤ h2.next ∧ h2.low = h1.low ∧
      (∀ id, id < h1.next → (A id ∨ R id) → h2.get id = h1.get id) ∧ if b then J (i + 1) A h2 else E A h2) →
    J 0 none' h0 → CallW P prims f [y] h0 fun _ h' => ∃ A, (∀ id, A id → h0.next ≤ id ∧ id < h'.next) ∧ h0.next ≤ h'.next ∧ h'.low = h0.low ∧ (J xs.length A h' ∨ E A h')

theorem jump_back {x : AExit} : exitOf (jumpOf x) = some x := by cases x <;> rfl
theorem getLoopA_of {h : AHeap} {l : Nat} {r : ALoop} (hl : h.low ≤ l) (hg : h.get l = some (.loop r)) : getLoopA h l = some r := by
  unfold getLoopA; rw [if_pos hl, hg]

theorem entersV_of {g : FuncId} {fn : Func} {a c : Array Value} (hfn : P.funcs[g]? = some fn) (hb : fn.body.isSome = true) : entersV P (.func (.func g) a c) = true := by
  unfold entersV; simp only [hfn]; simp [hb]
/-- What is known of objects that were there ahead of the loop. -/
def Core (L : Nat) (core : AHeap → Prop) : (Nat → Prop) → AHeap → Prop := fun A h' => (L ≤ h'.next ∧ ∀ id, A id → L ≤ id) ∧ core h'
theorem Core.stab {L : Nat} {core : AHeap → Prop} (hc : ∀ h1 h2, L ≤ h1.next → core h1 → Fr (fun id => L ≤ id) h1 h2 → core h2) : Stab (Core L core) := by
  rintro A A' h1 h2 ⟨⟨a, b⟩, c⟩ fr g1 g2
  refine ⟨⟨Nat.le_trans a fr.next, fun id hid => ?_⟩, hc h1 h2 a c (fr.mono fun id _ q => b id q)⟩
  rcases g2 id hid with q | q
  · exact b id q
  · omega
theorem Stab.no : Stab (fun _ _ => False) := fun _ _ _ _ h _ _ _ => h

end Go.AM
