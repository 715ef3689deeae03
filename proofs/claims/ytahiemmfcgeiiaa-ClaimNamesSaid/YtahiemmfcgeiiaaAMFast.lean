/- AM: the same run, laid out so that the kernel goes through it fast: by recursors, each arm a small constant. -/
import Derived.Test.YtahiemmfcgeiiaaAMLaw
namespace Go.AM

noncomputable def getF (l : List Value) : Nat → Value := @List.rec Value (fun _ => Nat → Value) (fun _ => undef) (fun x _ ih n => @Nat.rec (fun _ => Value) x (fun n _ => ih n) n) l
theorem getF_eq : ∀ (l : List Value) (n : Nat), getF l n = l.getD n undef
  | [], _ => rfl
  | x :: l, 0 => rfl
  | x :: l, n + 1 => by
    have := getF_eq l n
    show getF l n = _
    rw [this]; simp
noncomputable def setF (v : Value) (l : List Value) : Nat → List Value := @List.rec Value (fun _ => Nat → List Value) (fun _ => []) (fun x xs ih n => @Nat.rec (fun _ => List Value) (v :: xs) (fun n _ => x :: ih n) n) l
theorem setF_eq (v : Value) : ∀ (l : List Value) (n : Nat), setF v l n = l.set n v
  | [], _ => rfl
  | x :: l, 0 => rfl
  | x :: l, n + 1 => by
    have := setF_eq v l n
    show x :: setF v l n = _
    rw [this]; rfl
noncomputable def evalTmp (env : Env) (t : Nat) : Value := getF env t
noncomputable def evalF (env : Env) (x : Operand) : Value := @Operand.rec (fun _ => Value) (getF env) (fun v => v) (fun g => .pointer (some ⟨g, 0, none⟩)) (fun f => .func (.func f) #[] #[]) x
theorem evalF_eq (env : Env) (x : Operand) : evalF env x = evalE env x := by
  cases x with
  | tmp t => exact getF_eq env t
  | _ => rfl
noncomputable def putF (env : Env) (v : Value) (d : Option Tmp) : Env := @Option.rec Tmp (fun _ => Env) env (setF v env) d
theorem putF_eq (env : Env) (v : Value) (d : Option Tmp) : putF env v d = putE env d v := by
  cases d with
  | none => rfl
  | some t => exact setF_eq v env t

def aBinSame (k k' : IntKind) (f : Unit → Option Value) : Option Value := if k ≠ k' then none else f ()
noncomputable def binInt (P : Program) (op : BinOp) (t : TypeId) (k : IntKind) (a : Int) (k' : IntKind) (b : Int) : Option Value :=
  @BinOp.rec (fun _ => Option Value)
    (aBinSame k k' fun _ => some (.int k (k.wrap (a + b)))) (aBinSame k k' fun _ => some (.int k (k.wrap (a - b)))) (aBinSame k k' fun _ => some (.int k (k.wrap (a * b))))
    (aBin P .quo t (.int k a) (.int k' b)) (aBin P .rem t (.int k a) (.int k' b)) (aBin P .and t (.int k a) (.int k' b)) (aBin P .or t (.int k a) (.int k' b)) (aBin P .xor t (.int k a) (.int k' b))
    (aBin P .shl t (.int k a) (.int k' b)) (aBin P .shr t (.int k a) (.int k' b)) (aBin P .andNot t (.int k a) (.int k' b))
    (aBinSame k k' fun _ => some (.bool (a == b))) (aBinSame k k' fun _ => some (.bool (a != b))) (aBinSame k k' fun _ => some (.bool (a < b))) (aBinSame k k' fun _ => some (.bool (a ≤ b))) (aBinSame k k' fun _ => some (.bool (a > b))) (aBinSame k k' fun _ => some (.bool (a ≥ b))) op
theorem binInt_eq (P : Program) (op : BinOp) (t : TypeId) (k : IntKind) (a : Int) (k' : IntKind) (b : Int) : binInt P op t k a k' b = aBin P op t (.int k a) (.int k' b) := by
  cases op <;> rfl
noncomputable def binF (P : Program) (op : BinOp) (t : TypeId) (x y : Value) : Option Value :=
  match x, y with
  | .int k a, .int k' b => binInt P op t k a k' b
  | x, y => aBin P op t x y
theorem binF_eq (P : Program) (op : BinOp) (t : TypeId) (x y : Value) : binF P op t x y = aBin P op t x y := by
  unfold binF
  split
  · exact binInt_eq ..
  · rfl

noncomputable def lenF (P : Program) (env : Env) (h : AHeap) (args : Array Operand) (argTypes : Array TypeId) : R Value := (argTypes[0]?).bind fun t => (args[0]?).bind fun x => (aLen P h t (evalF env x)).map fun v => (v, h)
noncomputable def builtinF (P : Program) (env : Env) (h : AHeap) (args : Array Operand) (argTypes : Array TypeId) (b : Builtin) : R Value :=
  match b with
  | .len => lenF P env h args argTypes
  | b => aOp P (evalE env) (.call { callee := .builtin b, args, argTypes }) h
noncomputable def calleeF (P : Program) (call : CallV) (env : Env) (h : AHeap) (args : Array Operand) (argTypes : Array TypeId) (c : Callee) : R Value :=
  @Callee.rec (fun _ => R Value) (fun f => call (evalF env f) (args.toList.map (evalF env)) h) (fun r m => aOp P (evalE env) (.call { callee := .invoke r m, args, argTypes }) h) (builtinF P env h args argTypes) c
noncomputable def fMove (P : Program) (call : CallV) (env : Env) (h : AHeap) (x0 : Operand) : R Value := some (evalF env x0, h)
noncomputable def fAssign (P : Program) (call : CallV) (env : Env) (h : AHeap) (x0 : Operand) : R Value := some (evalF env x0, h)
noncomputable def fPick (P : Program) (call : CallV) (env : Env) (h : AHeap) (x0 : Operand) (x1 : Operand) (x2 : Operand) : R Value := match evalF env x0 with | .bool t => some (if t then evalF env x1 else evalF env x2, h) | _ => none
noncomputable def fAlloc (P : Program) (call : CallV) (env : Env) (h : AHeap) (x0 : TypeId) : R Value := aOp P (evalE env) (.alloc x0) h
noncomputable def fBox (P : Program) (call : CallV) (env : Env) (h : AHeap) (x0 : TypeId) (x1 : Operand) : R Value := aOp P (evalE env) (.box x0 x1) h
noncomputable def fBuild (P : Program) (call : CallV) (env : Env) (h : AHeap) (x0 : TypeId) (x1 : Array (Nat × Operand)) : R Value := aOp P (evalE env) (.build x0 x1) h
noncomputable def fBuildSlice (P : Program) (call : CallV) (env : Env) (h : AHeap) (x0 : TypeId) (x1 : Nat) (x2 : Array (Nat × Operand)) : R Value := aOp P (evalE env) (.buildSlice x0 x1 x2) h
noncomputable def fInsert (P : Program) (call : CallV) (env : Env) (h : AHeap) (x0 : TypeId) (x1 : Operand) (x2 : Operand) (x3 : Operand) : R Value := aOp P (evalE env) (.insert x0 x1 x2 x3) h
noncomputable def fLoad (P : Program) (call : CallV) (env : Env) (h : AHeap) (x0 : TypeId) (x1 : Operand) : R Value := (aLoad P h x0 (evalF env x1)).map fun v => (v, h)
noncomputable def fStore (P : Program) (call : CallV) (env : Env) (h : AHeap) (x0 : TypeId) (x1 : Operand) (x2 : Operand) : R Value := (aStore P h x0 (evalF env x1) (evalF env x2)).map fun h' => (undef, h')
noncomputable def fReady (P : Program) (call : CallV) (env : Env) (h : AHeap) (x0 : Nat) : R Value := aOp P (evalE env) (.ready x0) h
noncomputable def fWaits (P : Program) (call : CallV) (env : Env) (h : AHeap) (x0 : Nat) : R Value := aOp P (evalE env) (.waits x0) h
noncomputable def fNilCheck (P : Program) (call : CallV) (env : Env) (h : AHeap) (x0 : Operand) : R Value := aOp P (evalE env) (.nilCheck x0) h
noncomputable def fBinOp (P : Program) (call : CallV) (env : Env) (h : AHeap) (x0 : BinOp) (x1 : TypeId) (x2 : Operand) (x3 : Operand) (x4 : TypeId) : R Value := (binF P x0 x1 (evalF env x2) (evalF env x3)).map fun v => (v, h)
noncomputable def fUnOp (P : Program) (call : CallV) (env : Env) (h : AHeap) (x0 : UnOp) (x1 : TypeId) (x2 : Operand) : R Value := (aUn x0 (evalF env x2)).map fun v => (v, h)
noncomputable def fConvert (P : Program) (call : CallV) (env : Env) (h : AHeap) (x0 : TypeId) (x1 : TypeId) (x2 : Operand) : R Value := match aConvert P x0 x1 (evalF env x2) with | some v => some (v, h) | none => (aConvStr P h x0 x1 (evalF env x2)).map fun v => (v, h)
noncomputable def fSliceToArrayPointer (P : Program) (call : CallV) (env : Env) (h : AHeap) (x0 : TypeId) (x1 : Operand) : R Value := aOp P (evalE env) (.sliceToArrayPointer x0 x1) h
noncomputable def fMakeInterface (P : Program) (call : CallV) (env : Env) (h : AHeap) (x0 : TypeId) (x1 : Operand) : R Value := aOp P (evalE env) (.makeInterface x0 x1) h
noncomputable def fMakeFunc (P : Program) (call : CallV) (env : Env) (h : AHeap) (x0 : Fn) (x1 : Array Operand) (x2 : Array Operand) : R Value := aOp P (evalE env) (.makeFunc x0 x1 x2) h
noncomputable def fMakeMap (P : Program) (call : CallV) (env : Env) (h : AHeap) (x0 : TypeId) (x1 : Option Operand) : R Value := aOp P (evalE env) (.makeMap x0 x1) h
noncomputable def fMakeChan (P : Program) (call : CallV) (env : Env) (h : AHeap) (x0 : TypeId) (x1 : Operand) : R Value := aOp P (evalE env) (.makeChan x0 x1) h
noncomputable def fMakeSlice (P : Program) (call : CallV) (env : Env) (h : AHeap) (x0 : TypeId) (x1 : Operand) (x2 : Operand) : R Value := aOp P (evalE env) (.makeSlice x0 x1 x2) h
noncomputable def fSlice (P : Program) (call : CallV) (env : Env) (h : AHeap) (x0 : TypeId) (x1 : Operand) (x2 : Option Operand) (x3 : Option Operand) (x4 : Option Operand) : R Value := aOp P (evalE env) (.slice x0 x1 x2 x3 x4) h
noncomputable def fFieldAddr (P : Program) (call : CallV) (env : Env) (h : AHeap) (x0 : TypeId) (x1 : Operand) (x2 : Nat) : R Value := (aFieldAddr P x0 (evalF env x1) x2).map fun v => (v, h)
noncomputable def fField (P : Program) (call : CallV) (env : Env) (h : AHeap) (x0 : TypeId) (x1 : Operand) (x2 : Nat) : R Value := (aField P x0 (evalF env x1) x2).map fun v => (v, h)
noncomputable def fIndexAddr (P : Program) (call : CallV) (env : Env) (h : AHeap) (x0 : TypeId) (x1 : Operand) (x2 : Operand) : R Value := (aIndexAddr P x0 (evalF env x1) (evalF env x2)).map fun v => (v, h)
noncomputable def fIndex (P : Program) (call : CallV) (env : Env) (h : AHeap) (x0 : TypeId) (x1 : Operand) (x2 : Operand) : R Value := (aIndex P x0 (evalF env x1) (evalF env x2)).map fun v => (v, h)
noncomputable def fLookup (P : Program) (call : CallV) (env : Env) (h : AHeap) (x0 : TypeId) (x1 : Operand) (x2 : Operand) (x3 : Bool) : R Value := (aLookup P h x0 (evalF env x1) (evalF env x2) x3).map fun v => (v, h)
noncomputable def fMapUpdate (P : Program) (call : CallV) (env : Env) (h : AHeap) (x0 : TypeId) (x1 : Operand) (x2 : Operand) (x3 : Operand) : R Value := aOp P (evalE env) (.mapUpdate x0 x1 x2 x3) h
noncomputable def fMapEntry (P : Program) (call : CallV) (env : Env) (h : AHeap) (x0 : TypeId) (x1 : Operand) (x2 : Operand) : R Value := aOp P (evalE env) (.mapEntry x0 x1 x2) h
noncomputable def fEntryStore (P : Program) (call : CallV) (env : Env) (h : AHeap) (x0 : TypeId) (x1 : Operand) (x2 : Operand) (x3 : Operand) : R Value := aOp P (evalE env) (.entryStore x0 x1 x2 x3) h
noncomputable def fRange (P : Program) (call : CallV) (env : Env) (h : AHeap) (x0 : TypeId) (x1 : Operand) : R Value := aOp P (evalE env) (.range x0 x1) h
noncomputable def fNext (P : Program) (call : CallV) (env : Env) (h : AHeap) (x0 : Operand) (x1 : Bool) : R Value := aOp P (evalE env) (.next x0 x1) h
noncomputable def fEntry (P : Program) (call : CallV) (env : Env) (h : AHeap) (x0 : Operand) : R Value := aOp P (evalE env) (.entry x0) h
noncomputable def fTypeAssert (P : Program) (call : CallV) (env : Env) (h : AHeap) (x0 : Operand) (x1 : TypeId) (x2 : TypeId) (x3 : Bool) : R Value := aOp P (evalE env) (.typeAssert x0 x1 x2 x3) h
noncomputable def fExtract (P : Program) (call : CallV) (env : Env) (h : AHeap) (x0 : Operand) (x1 : Nat) : R Value := (aExtract (evalF env x0) x1).map fun v => (v, h)
noncomputable def fCall (P : Program) (call : CallV) (env : Env) (h : AHeap) (x0 : Call) : R Value := calleeF P call env h x0.args x0.argTypes x0.callee
noncomputable def fGo (P : Program) (call : CallV) (env : Env) (h : AHeap) (x0 : Call) : R Value := aOp P (evalE env) (.go x0) h
noncomputable def fDefer (P : Program) (call : CallV) (env : Env) (h : AHeap) (x0 : Call) : R Value := aOp P (evalE env) (.defer x0) h
noncomputable def fPanic (P : Program) (call : CallV) (env : Env) (h : AHeap) (x0 : Operand) : R Value := aOp P (evalE env) (.panic x0) h
noncomputable def fSend (P : Program) (call : CallV) (env : Env) (h : AHeap) (x0 : Operand) (x1 : Operand) : R Value := aOp P (evalE env) (.send x0 x1) h
noncomputable def fRecv (P : Program) (call : CallV) (env : Env) (h : AHeap) (x0 : TypeId) (x1 : Operand) (x2 : Bool) : R Value := aOp P (evalE env) (.recv x0 x1 x2) h
noncomputable def fSelect (P : Program) (call : CallV) (env : Env) (h : AHeap) (x0 : Array SelectCase) (x1 : Bool) : R Value := aOp P (evalE env) (.select x0 x1) h
noncomputable def opF (P : Program) (call : CallV) (env : Env) (h : AHeap) (op : Op) : R Value := @Op.rec (fun _ => R Value) (fMove P call env h) (fAssign P call env h) (fPick P call env h) (fAlloc P call env h) (fBox P call env h) (fBuild P call env h) (fBuildSlice P call env h) (fInsert P call env h) (fLoad P call env h) (fStore P call env h) (fReady P call env h) (fWaits P call env h) (fNilCheck P call env h) (fBinOp P call env h) (fUnOp P call env h) (fConvert P call env h) (fSliceToArrayPointer P call env h) (fMakeInterface P call env h) (fMakeFunc P call env h) (fMakeMap P call env h) (fMakeChan P call env h) (fMakeSlice P call env h) (fSlice P call env h) (fFieldAddr P call env h) (fField P call env h) (fIndexAddr P call env h) (fIndex P call env h) (fLookup P call env h) (fMapUpdate P call env h) (fMapEntry P call env h) (fEntryStore P call env h) (fRange P call env h) (fNext P call env h) (fEntry P call env h) (fTypeAssert P call env h) (fExtract P call env h) (fCall P call env h) (fGo P call env h) (fDefer P call env h) (fPanic P call env h) (fSend P call env h) (fRecv P call env h) (fSelect P call env h) op

theorem evalF_fun (env : Env) : evalF env = evalE env := funext (evalF_eq env)

theorem opF_eq (P : Program) (call : CallV) (env : Env) (h : AHeap) (o : Oper) : opF P call env h o.op = opE P call env o h := by
  unfold opE
  generalize o.op = op
  cases op with
  | move x => show some (evalF env x, h) = _; rw [evalF_eq]; rfl
  | assign x => show some (evalF env x, h) = _; rw [evalF_eq]; rfl
  | pick c a b =>
    show fPick P call env h c a b = _
    unfold fPick
    rw [evalF_fun]
    simp only [aOp, aPure]
    cases evalE env c <;> rfl
  | load t a => show fLoad P call env h t a = _; unfold fLoad; rw [evalF_fun]; rfl
  | store t a x => show fStore P call env h t a x = _; unfold fStore; rw [evalF_fun]; rfl
  | binOp op t x y u =>
    show fBinOp P call env h op t x y u = _
    unfold fBinOp
    rw [evalF_fun, binF_eq]
    simp only [aOp, aPure, aHeap]
    cases aBin P op t (evalE env x) (evalE env y) <;> rfl
  | unOp op t x =>
    show fUnOp P call env h op t x = _
    unfold fUnOp
    rw [evalF_fun]
    simp only [aOp, aPure, aHeap]
    cases aUn op (evalE env x) <;> rfl
  | convert s d x =>
    show fConvert P call env h s d x = _
    unfold fConvert
    rw [evalF_fun]
    simp only [aOp, aPure, aHeap]
    cases aConvert P s d (evalE env x) <;> rfl
  | fieldAddr t x f =>
    show fFieldAddr P call env h t x f = _
    unfold fFieldAddr
    rw [evalF_fun]
    simp only [aOp, aPure, aHeap]
    cases aFieldAddr P t (evalE env x) f <;> rfl
  | field t x f =>
    show fField P call env h t x f = _
    unfold fField
    rw [evalF_fun]
    simp only [aOp, aPure, aHeap]
    cases aField P t (evalE env x) f <;> rfl
  | indexAddr t x i =>
    show fIndexAddr P call env h t x i = _
    unfold fIndexAddr
    rw [evalF_fun]
    simp only [aOp, aPure, aHeap]
    cases aIndexAddr P t (evalE env x) (evalE env i) <;> rfl
  | index t x i =>
    show fIndex P call env h t x i = _
    unfold fIndex
    rw [evalF_fun]
    simp only [aOp, aPure, aHeap]
    cases aIndex P t (evalE env x) (evalE env i) <;> rfl
  | extract x i =>
    show fExtract P call env h x i = _
    unfold fExtract
    rw [evalF_fun]
    simp only [aOp, aPure, aHeap]
    cases aExtract (evalE env x) i <;> rfl
  | lookup t x k ok => show fLookup P call env h t x k ok = _; unfold fLookup; rw [evalF_fun]; rfl
  | call c =>
    obtain ⟨callee, args, argTypes⟩ := c
    cases callee with
    | value f =>
      show call (evalF env f) (args.toList.map (evalF env)) h = _
      rw [evalF_fun]
    | invoke r m => rfl
    | builtin b =>
      show builtinF P env h args argTypes b = _
      unfold builtinF
      split
      · unfold lenF; rw [evalF_fun]; rfl
      · rfl
  | _ => rfl

noncomputable def opsStep (P : Program) (call : CallV) (all : List Oper) (o : Oper) (ih : Env → AHeap → Option (Env × AHeap)) (env : Env) (h : AHeap) : Option (Env × AHeap) :=
  if Region.wanted o (yieldedE all env) then
    match opF P call env h o.op with
    | some (v, h') => ih (putF env v o.dst) h'
    | none => none
  else ih (putF env undef o.dst) h
noncomputable def opsF (P : Program) (call : CallV) (all os : List Oper) : Env → AHeap → Option (Env × AHeap) :=
  @List.rec Oper (fun _ => Env → AHeap → Option (Env × AHeap)) (fun env h => some (env, h)) (fun o _ ih => opsStep P call all o ih) os
theorem opsF_eq (P : Program) (call : CallV) (all : List Oper) : ∀ (os : List Oper) (env : Env) (h : AHeap), opsF P call all os env h = opsE P call all os env h
  | [], _, _ => rfl
  | o :: os, env, h => by
    show opsStep P call all o (opsF P call all os) env h = _
    unfold opsStep opsE
    rw [opF_eq]
    simp only [putF_eq]
    split
    · cases opE P call env o h with
      | none => rfl
      | some r => exact opsF_eq P call all os _ _
    · exact opsF_eq P call all os _ _

abbrev DrawR := Option (List (Env × AHeap × Value) × Env × AHeap)
noncomputable def drawOne (env : Env) (h : AHeap) (v : Value) (r : DrawR) : DrawR := r.map fun r => ((env, h, v) :: r.1, r.2)
noncomputable def drawStep (P : Program) (call : CallV) (all : List Oper) (ah : List Nat) (o : Oper) (ih : Nat → Env → AHeap → DrawR) (j : Nat) (env : Env) (h : AHeap) : DrawR :=
  if Region.wanted o (yieldedE all env) then
    if isCallO o.op && !tied all ah j then
      match opF P call env { h with low := h.next } o.op with
      | some (v, h') => drawOne env h v (ih (j + 1) (putF env v o.dst) { h' with low := h.low })
      | none => none
    else
      match opF P call env h o.op with
      | some (v, h') => drawOne env h v (ih (j + 1) (putF env v o.dst) h')
      | none => none
  else drawOne env h undef (ih (j + 1) (putF env undef o.dst) h)
noncomputable def drawF (P : Program) (call : CallV) (all : List Oper) (ah : List Nat) (os : List Oper) : Nat → Env → AHeap → DrawR :=
  @List.rec Oper (fun _ => Nat → Env → AHeap → DrawR) (fun _ env h => some ([], env, h)) (fun o _ ih => drawStep P call all ah o ih) os
theorem drawF_eq (P : Program) (call : CallV) (all : List Oper) (ah : List Nat) : ∀ (os : List Oper) (j : Nat) (env : Env) (h : AHeap), drawF P call all ah os j env h = drawE P call all ah j os env h
  | [], _, _, _ => rfl
  | o :: os, j, env, h => by
    show drawStep P call all ah o (drawF P call all ah os) j env h = _
    unfold drawStep drawE drawOne
    rw [opF_eq, opF_eq]
    simp only [putF_eq, drawF_eq P call all ah os]
    split
    · split
      · cases opE P call env o { h with low := h.next } <;> rfl
      · cases opE P call env o h <;> rfl
    · rfl

noncomputable def regF (P : Program) (call : CallV) (ops : Array Oper) (draw : Bool) (env : Env) (h : AHeap) : Option (Env × AHeap) :=
  if draw then (if drawOk ops.toList then (match drawF P call ops.toList (aheadOf ops.toList) ops.toList 0 env h with | some (l, env', h') => if looseOk P ops.toList l h' then some (env', h') else none | none => none) else none)
  else opsF P call ops.toList ops.toList env h
theorem regF_eq (P : Program) (call : CallV) (ops : Array Oper) (draw : Bool) (env : Env) (h : AHeap) : regF P call ops draw env h = regionE P call ops draw env h := by
  unfold regF regionE
  rw [drawF_eq, opsF_eq]
  split
  · split
    · cases drawE P call ops.toList (aheadOf ops.toList) 0 ops.toList env h <;> rfl
    · rfl
  · rfl

abbrev CodeR := Env → AHeap → Option (AExit × Env × AHeap)
noncomputable def cRegion (P : Program) (call : CallV) (_ : Nat) (ops : Array Oper) (draw : Bool) : CodeR := fun env h => (regF P call ops draw env h).map fun (env', h') => (.normal, env', h')
def cSeq (_ _ : Code) (a b : CodeR) : CodeR := fun env h => match a env h with | some (.normal, env', h') => b env' h' | r => r
noncomputable def cCond (c : Operand) (_ _ : Code) (a b : CodeR) : CodeR := fun env h => match evalF env c with | .bool true => a env h | .bool false => b env h | _ => none
def cBlock (id : Nat) (_ : Code) (a : CodeR) : CodeR := fun env h =>
  match a env h with
  | some (.exit id', env', h') => if id' == id then some (.normal, env', h') else some (.exit id', env', h')
  | r => r
def iterStep (step : CodeR) (ih : CodeR) : CodeR := fun env h => match step env h with | some (.normal, env', h') => ih env' h' | r => r
noncomputable def iterF (step : CodeR) (n : Nat) : CodeR := @Nat.rec (fun _ => CodeR) (fun _ _ => none) (fun _ ih => iterStep step ih) n
theorem iterF_eq (step : CodeR) : ∀ (n : Nat) (env : Env) (h : AHeap), iterF step n env h = iterE step n env h
  | 0, _, _ => rfl
  | n + 1, env, h => by
    show iterStep step (iterF step n) env h = _
    unfold iterStep iterE
    cases step env h with
    | none => rfl
    | some r =>
      obtain ⟨x, e, h'⟩ := r
      cases x with
      | normal => exact iterF_eq step n e h'
      | _ => rfl
noncomputable def cLoop (n : Nat) (_ : Code) (a : CodeR) : CodeR := iterF a n
noncomputable def execF (P : Program) (call : CallV) (n : Nat) (c : Code) : CodeR :=
  @Code.rec (fun _ => CodeR) (fun env h => some (.normal, env, h)) (cRegion P call) cSeq cCond cBlock (cLoop n) (fun f ps a b _ _ => exec P call n (.rangeFunc f ps a b)) (fun id env h => some (.exit id, env, h)) (fun _ a => a) (fun _ env h => some (.normal, env, h))
    (fun _ _ _ => none) (fun env h => some (.ret, env, h)) (fun _ _ _ => none) c
theorem execF_eq (P : Program) (call : CallV) (n : Nat) (c : Code) : execF P call n c = exec P call n c := by
  induction c with
  | region id ops d => funext env h; show (regF P call ops d env h).map _ = _; rw [regF_eq]; rfl
  | seq a b iha ihb =>
    show cSeq a b (execF P call n a) (execF P call n b) = _
    rw [iha, ihb]; rfl
  | cond c a b iha ihb =>
    show cCond c a b (execF P call n a) (execF P call n b) = _
    rw [iha, ihb]
    funext env h
    unfold cCond
    rw [evalF_eq]; rfl
  | block id a iha =>
    show cBlock id a (execF P call n a) = _
    rw [iha]; rfl
  | loop a iha =>
    show iterF (execF P call n a) n = _
    rw [iha]
    funext env h
    exact iterF_eq _ n env h
  | scope a iha => show execF P call n a = _; rw [iha]; rfl
  | _ => rfl

theorem execF_fun (P : Program) (call : CallV) (n : Nat) : execF P call n = exec P call n := funext (execF_eq P call n)

noncomputable def callStep (P : Program) (prims : Prims) (n : Nat) (ih : CallV) (f : Value) (args : List Value) (h : AHeap) : R Value :=
  match argsOf f args with
  | some (.func g, all) =>
    match prims g with
    | some p => p ih all h
    | none =>
      match P.funcs[g]? with
      | some fn =>
        match fn.body with
        | some c =>
          match execF P ih n c (all ++ List.replicate (fn.ntmps - all.length) undef) h with
          | some (.normal, env, h') | some (.ret, env, h') => (resultsE P fn env h').map fun v => (v, h')
          | _ => none
        | none => none
      | none => none
  | some (.yield l, all) =>
    match getLoopA h l with
    | some r =>
      if all.length ≠ r.params.size then none else
      match execF P ih n r.assign (setTmps r.tmps (r.params.toList.zip all)) h with
      | some (.normal, env, h1) =>
        match getLoopA h1 l with
        | some r1 =>
          if r1.state ≠ .ready then none else
          match execF P ih n r.body env (h1.put l (some (.loop { r1 with state := .busy }))) with
          | some (x, _, h2) =>
            match getLoopA h2 l with
            | some r2 => some (.bool (jumpOf x).isNone, h2.put l (some (.loop { r2 with state := if (jumpOf x).isNone then .ready else .done, pending := jumpOf x })))
            | none => none
          | none => none
        | none => none
      | _ => none
    | none => none
  | _ => none
noncomputable def callF (P : Program) (prims : Prims) (n : Nat) : CallV := @Nat.rec (fun _ => CallV) (fun _ _ _ => none) (fun n ih => callStep P prims n ih) n
theorem callF_eq (P : Program) (prims : Prims) : ∀ n, callF P prims n = callE P prims n
  | 0 => by funext f args h; rfl
  | n + 1 => by
    funext f args h
    show callStep P prims n (callF P prims n) f args h = _
    rw [callF_eq P prims n]
    unfold callStep callE
    simp only [execF_fun]
    rfl

end Go.AM

