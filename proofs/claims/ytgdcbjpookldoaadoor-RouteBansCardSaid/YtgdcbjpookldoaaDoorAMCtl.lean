/- AM: the run of code is that of the model. -/
import Derived.Test.YtgdcbjpookldoaaDoorAMHeap4
import Derived.LoopNIn
import Derived.RangeFuncRecord
import Derived.RangeFuncNested
set_option linter.unusedSimpArgs false
set_option linter.unusedVariables false
namespace Go.AM
variable {P : Program} {B : Nat} {μ : Map} {h : AHeap} {w : World}

/-- The package's variables that the abstract heap holds stand where they stand. -/
def GOk (G : Nat → Bool) (μ : Map) : Prop := ∀ g, G g = true → ∃ loc, μ g = some loc ∧ loc.blk = g ∧ loc.base = 0
theorem GOk.mono {G : Nat → Bool} {μ μ' : Map} (hg : GOk G μ) (hm : μ.le μ') : GOk G μ' := fun g e => let ⟨loc, a, b, c⟩ := hg g e; ⟨loc, hm _ _ a, b, c⟩

def operOk (G : Nat → Bool) : Operand → Bool
  | .const v => closedV v
  | .global g => G g
  | _ => true
def opOk (G : Nat → Bool) (o : Oper) : Bool := o.op.operands.toList.all (operOk G)
def codeOk (G : Nat → Bool) : Code → Bool
  | .region _ ops _ => ops.toList.all (opOk G)
  | .seq a b => codeOk G a && codeOk G b
  | .cond c a b => operOk G c && codeOk G a && codeOk G b
  | .block _ a | .loop a | .scope a => codeOk G a
  | .rangeFunc f _ a b => operOk G f && codeOk G a && codeOk G b
  | _ => true

theorem OperOk.of {G : Nat → Bool} (hg : GOk G μ) {x : Operand} (hx : operOk G x = true) : OperOk μ x := by
  cases x with
  | const v => exact hx
  | global g => exact hg g hx
  | _ => trivial
theorem CodeOk.of {G : Nat → Bool} (hg : GOk G μ) {c : Code} (hc : codeOk G c = true) : CodeOk μ c := by
  induction c with
  | region id ops d => exact fun o ho x hx => OperOk.of hg (List.all_eq_true.1 (List.all_eq_true.1 hc o ho) x hx)
  | seq a b ha hb => simp only [codeOk, Bool.and_eq_true] at hc; exact ⟨ha hc.1, hb hc.2⟩
  | cond c a b ha hb => simp only [codeOk, Bool.and_eq_true] at hc; exact ⟨OperOk.of hg hc.1.1, ha hc.1.2, hb hc.2⟩
  | block id a ha => exact ha hc
  | loop a ha => exact ha hc
  | scope a ha => exact ha hc
  | rangeFunc f ps a b ha hb => simp only [codeOk, Bool.and_eq_true] at hc; exact ⟨OperOk.of hg hc.1.1, ha hc.1.2, hb hc.2⟩
  | _ => trivial

theorem getD_VR {env : Env} {tmps : Array Value} (he : VRs μ env tmps.toList) (t : Nat) : VR μ (env.getD t undef) (tmps.getD t undef) := by
  rw [List.getD_eq_getElem?_getD]
  cases hx : env[t]? with
  | none =>
    have h1 : tmps[t]? = none := by
      have := he.1; simp at this
      have h2 := List.getElem?_eq_none_iff.1 hx
      simp; omega
    have h2 : tmps.getD t undef = undef := by simp [Array.getD_eq_getD_getElem?, h1]
    rw [h2]; exact VR.undef μ
  | some x =>
    obtain ⟨x', h1, h2⟩ := he.get hx
    have h3 : tmps.getD t undef = x' := by
      rw [Array.getElem?_toList] at h1
      simp [Array.getD_eq_getD_getElem?, h1]
    rw [h3]; exact h2

theorem eval_VR {env : Env} {a : Act} (he : VRs μ env a.tmps.toList) {x : Operand} (hx : OperOk μ x) : VR μ (evalE env x) (a.eval x) := by
  cases x with
  | tmp t => exact getD_VR he t
  | const v => exact VR.closed hx
  | global g =>
    obtain ⟨loc, h1, h2, h3⟩ := hx
    have := VR.ptr (μ := μ) g 0 loc h1
    rw [h2, h3] at this
    exact this
  | func f => exact .func f _ _ _ _ rfl (fun i x x' a _ => by simp at a) rfl (fun i x x' a _ => by simp at a)

theorem put_VR {env : Env} {a : Act} (he : VRs μ env a.tmps.toList) {v v' : Value} (hv : VR μ v v') (d : Option Tmp) : VRs μ (putE env d v) (a.put d v').tmps.toList := by
  cases d with
  | none => exact he
  | some t => simp only [putE, Act.put, Array.toList_setIfInBounds]; exact he.set t hv

theorem put_defers (a : Act) (d : Option Tmp) (v : Value) : (a.put d v).defers = a.defers := by cases d <;> rfl

theorem yielded_eq {all : List Oper} {env : Env} {tmps : Array Value} (he : VRs μ env tmps.toList) (j : Nat) : yieldedE all env j = yielded all.toArray tmps j := by
  unfold yieldedE yielded
  simp only [List.getElem?_toArray]
  cases hd : (all[j]?).bind (·.dst) with
  | none => rfl
  | some t =>
    simp only [Option.bind_some]
    cases hx : env[t]? with
    | none =>
      have h1 : tmps[t]? = none := by
        have := he.1; simp at this
        have h2 := List.getElem?_eq_none_iff.1 hx
        simp; omega
      rw [h1]
    | some x =>
      obtain ⟨x', h1, h2⟩ := he.get hx
      rw [Array.getElem?_toList] at h1
      rw [h1]
      cases h2 <;> rfl

theorem wanted_eq {all : List Oper} {env : Env} {tmps : Array Value} (he : VRs μ env tmps.toList) (o : Oper) : Region.wanted o (yieldedE all env) = Region.wanted o (yielded all.toArray tmps) := by
  have : yieldedE all env = yielded all.toArray tmps := funext (yielded_eq he)
  rw [this]

/-- A fence of no bounds, in a function's frame or in a round's. -/
def fenceAt : Option Nat → Fence
  | none => Fence.wide
  | some l => Fence.wide.inRound l
theorem fenceAt_round (ro : Option Nat) : (fenceAt ro).round = ro := by cases ro <;> rfl
theorem fenceAt_fn (ro : Option Nat) (f : FuncId) : (fenceAt ro).fn f := by cases ro <;> exact trivial
theorem fenceAt_depth (ro : Option Nat) : (fenceAt ro).depth = none := by cases ro <;> rfl
theorem fenceAt_calls {ro : Option Nat} {f : FuncId} {args : Array Value} {w : World} {R : Ending → World → Prop} (h : CallsIn Fence.wide 0 P f args w R) : CallsIn (fenceAt ro) 0 P f args w R := by
  cases ro <;> exact h
theorem fenceAt_round' {ro : Option Nat} {l : Nat} {f : FuncId} {tmps : Array Value} {x y : Code} {w : World} {R : Ending → World → Prop} (h : RoundIn Fence.wide 0 P l f tmps x y w R) : RoundIn (fenceAt ro) 0 P l f tmps x y w R := by
  cases ro <;> exact h

/-- What a call of a value comes to. -/
def InvOk (P : Program) (fv : Value) (args : Array Value) (w : World) (must : Bool) (R : Value → World → Prop) : Prop :=
  ∃ d, Deferred.ofValue fv args = pure d ∧
    ((must = false ∧ ∃ v w', (invoke d.target d.args).run P w = .ok (.value v) w' ∧ R v w') ∨
     (∃ f as w1, (invoke d.target d.args).run P w = .ok (.enter f as) w1 ∧ CallsIn Fence.wide 0 P f as w1 (fun e w' => ∃ v, e = .returned v ∧ R v w')) ∨
     (must = false ∧ ∃ l f tmps x y w1, (invoke d.target d.args).run P w = .ok (.round l f tmps x y) w1 ∧ RoundIn Fence.wide 0 P l f tmps x y w1 (fun e w' => ∃ v, e = .returned v ∧ R v w')))

def CallR (P : Program) (B : Nat) (μ : Map) (h : AHeap) (w : World) (r : Value) (h' : AHeap) (v' : Value) (w' : World) : Prop :=
  ∃ μ', VR μ' r v' ∧ Post P B μ h w μ' h' w' ∧ Keeps h h'

def CallSound (P : Program) (G : Nat → Bool) (call : CallV) : Prop :=
  ∀ {B : Nat} {μ : Map} {h : AHeap} {w : World} {fv : Value} {args : List Value} {r : Value} {h' : AHeap}, call fv args h = some (r, h') → GOk G μ → HR P B μ h w →
    ∀ {fv' : Value} {args' : Array Value}, VR μ fv fv' → VRs μ args args'.toList → InvOk P fv' args' w (entersV P fv) (CallR P B μ h w r h')

theorem opE_sound {G : Nat → Bool} {call : CallV} (hc : CallSound P G call) {env : Env} {o : Oper} {v : Value} {h' : AHeap} (hh : opE P call env o h = some (v, h')) (hg : GOk G μ) (hr : HR P B μ h w)
    {a : Act} (hev : ∀ x ∈ o.op.operands.toList, VR μ (evalE env x) (a.eval x)) (ro : Option Nat) {next : Act → World → Prop} {Q : Exit → Act → World → Prop}
    (hn : ∀ v' w' μ', VR μ' v v' → Post P B μ h w μ' h' w' → Keeps h h' → next (a.put o.dst v') w') : o.wpIn (fenceAt ro) 0 P a w next Q := by
  refine ⟨fun f _ => fenceAt_fn ro f, ?_⟩
  unfold opE at hh
  split at hh
  · rename_i f args ats ho
    rw [Oper.semAt_plain _ _ _ (by rw [ho]; intro c hc'; cases hc')]
    have hf := hev f (by rw [ho]; simp [Op.operands, Call.operands])
    have hargs : VRs μ (args.toList.map (evalE env)) (args.map a.eval).toList := by
      rw [Array.toList_map]
      exact VRs.map fun x hx => hev x (by rw [ho]; simp only [Op.operands, Call.operands, Array.toList_append, List.mem_append]; exact .inr hx)
    obtain ⟨d, hd, hcase⟩ := hc hh hg hr hf hargs
    have hrun : (execOp a.eval o).run P w = (invoke d.target d.args).run P w := by
      simp only [execOp, ho, resolve, hd, Sem.run_bind, Sem.run_pure, Result.andThen_ok]
    rw [hrun]
    rcases hcase with ⟨_, v', w', e1, μ', g1, g2, g3⟩ | ⟨f', as, w1, e1, hcall⟩ | ⟨_, l, f', tmps, x, y, w1, e1, hround⟩
    · rw [e1]; exact hn v' w' μ' g1 g2 g3
    · rw [e1]
      refine ⟨fun hd => (by rw [fenceAt_depth] at hd; cases hd), ?_⟩
      refine (fenceAt_calls hcall).mono ?_
      rintro e w' ⟨v', rfl, μ', g1, g2, g3⟩
      exact hn v' w' μ' g1 g2 g3
    · rw [e1]
      refine ⟨fun hd => (by rw [fenceAt_depth] at hd; cases hd), ?_⟩
      refine (fenceAt_round' hround).mono ?_
      rintro e w' ⟨v', rfl, μ', g1, g2, g3⟩
      exact hn v' w' μ' g1 g2 g3
  · have nd : ∀ c, o.op ≠ .defer c := by
      intro c hc'
      rw [hc'] at hh
      simp [aOp, aPure, aHeap] at hh
    rw [Oper.semAt_plain _ _ _ nd]
    obtain ⟨v', w', μ', e1, g1, g2, g3⟩ := aOp_sound hr o hh hev
    rcases e1 with e1 | ⟨e1, rfl⟩
    · rw [e1]; exact hn v' w' μ' g1 g2 g3
    · rw [e1]; exact hn _ w' μ' g1 g2 g3

theorem opA_sound {G : Nat → Bool} {call : CallV} (hc : CallSound P G call) {env : Env} {o : Oper} {v : Value} {h' : AHeap} (hh : opA P call env o h = some (v, h')) (hg : GOk G μ) (hr : HR P B μ h w)
    {a : Act} (hev : ∀ x ∈ o.op.operands.toList, VR μ (evalE env x) (a.eval x)) (ro : Option Nat) {next : Act → World → Prop} {Q : Exit → Act → World → Prop}
    (hn : ∀ v' w' μ', VR μ' v v' → Post P B μ h w μ' h' w' → Keeps h h' → next (a.put o.dst v') w') : o.wpIn (fenceAt ro) 0 P a w next Q := by
  unfold opA at hh
  split at hh
  · rename_i s d x ho
    split at hh
    · rename_i r hr'
      cases hh
      refine ⟨fun f _ => fenceAt_fn ro f, ?_⟩
      rw [Oper.semAt_plain _ _ _ (by rw [ho]; intro c hc'; cases hc')]
      obtain ⟨v', w', μ', e1, g1, g2, g3⟩ := aNewStr_sound hr o ho hr' hev
      rcases e1 with e1 | ⟨e1, rfl⟩
      · rw [e1]; exact hn v' w' μ' g1 g2 g3
      · rw [e1]; exact hn _ w' μ' g1 g2 g3
    · exact opE_sound hc hh hg hr hev ro hn
  · exact opE_sound hc hh hg hr hev ro hn

theorem opsE_sound {G : Nat → Bool} {call : CallV} (hc : CallSound P G call) (all : List Oper) (ro : Option Nat) {Q : Exit → Act → World → Prop} :
    ∀ (os : List Oper) (k : Nat) {env : Env} {h : AHeap} {env' : Env} {h' : AHeap}, all.drop k = os → opsE P call all os env h = some (env', h') →
    ∀ {μ : Map} {w : World} {a : Act}, (∀ o ∈ all, OpersOk μ o) → GOk G μ → HR P B μ h w → VRs μ env a.tmps.toList →
    (∀ μ' a' w', VRs μ' env' a'.tmps.toList → a'.defers = a.defers → Post P B μ h w μ' h' w' → Keeps h h' → Q .normal a' w') →
    wpOpsIn (fenceAt ro) 0 P all.toArray Q (List.range' k os.length) a w := by
  intro os
  induction os with
  | nil =>
    intro k env h env' h' hd hh μ w a hall hg hr he hq
    simp [opsE] at hh; obtain ⟨rfl, rfl⟩ := hh
    exact hq μ a w he rfl (Post.refl hr) (Keeps.refl h)
  | cons o os ih =>
    intro k env h env' h' hd hh μ w a hall hg hr he hq
    have hk : all[k]? = some o := by
      have := congrArg (fun l => l[0]?) hd
      simpa [List.getElem?_drop] using this
    have hd' : all.drop (k + 1) = os := by
      have := congrArg (List.drop 1) hd
      simpa [List.drop_drop, Nat.add_comm] using this
    have hok : OpersOk μ o := hall o (List.mem_of_getElem? hk)
    simp only [List.length_cons, List.range'_succ]
    simp only [wpOpsIn]
    have hk' : all.toArray[k]? = some o := by simpa using hk
    rw [hk']
    simp only [opsE] at hh
    rw [wanted_eq he] at hh
    split at hh
    · rename_i hw
      simp only [hw, if_true]
      split at hh
      · rename_i v h1 ho
        refine opA_sound hc ho hg hr (fun x hx => eval_VR he (hok x hx)) ro ?_
        intro v' w1 μ1 g1 g2 g3
        refine ih (k + 1) hd' hh (fun o ho => (hall o ho).mono g2.le) (hg.mono g2.le) g2.hr (put_VR (he.mono g2.le) g1 o.dst) ?_
        intro μ' a' w' q1 q2 q3 q4
        exact hq μ' a' w' q1 (by rw [q2, put_defers]) (Post.trans hr g3 g2 q3) (g3.trans q4)
      · simp at hh
    · rename_i hw
      simp only [hw, Bool.false_eq_true, if_false]
      refine ⟨fun f _ => fenceAt_fn ro f, ?_⟩
      refine ih (k + 1) hd' hh hall hg hr (put_VR he (VR.undef μ) o.dst) ?_
      intro μ' a' w' q1 q2 q3 q4
      exact hq μ' a' w' q1 (by rw [q2, put_defers]) q3 q4

end Go.AM
