/- AM: the run of code, of calls, of rounds. -/
import Derived.Test.YtgdcbjpookldoaaDoorAMDef
set_option linter.unusedSimpArgs false
set_option linter.unusedVariables false
namespace Go.AM

/-- How a piece of code is left. -/
inductive AExit where
  | normal
  | exit (id : Nat)
  | ret

def evalE (env : Env) : Operand → Value
  | .tmp t => env.getD t undef
  | .const v => v
  | .global g => .pointer (some ⟨g, 0, none⟩)
  | .func f => .func (.func f) #[] #[]

def putE (env : Env) (dst : Option Tmp) (v : Value) : Env :=
  match dst with
  | some d => env.set d v
  | none => env

def yieldedE (ops : List Oper) (env : Env) (j : Nat) : Option Bool :=
  match ((ops[j]?).bind (·.dst)).bind (env[·]?) with
  | some (.bool b) => some b
  | _ => none

/-- A call of a value: of Go code, or of a loop's round. -/
abbrev CallV := Value → List Value → AHeap → R Value

/-- One operation, a call taken by 'call'. -/
def opE (P : Program) (call : CallV) (env : Env) (o : Oper) (h : AHeap) : R Value :=
  match o.op with
  | .call { callee := .value f, args, .. } => call (evalE env f) (args.toList.map (evalE env)) h
  | op => aOp P (evalE env) op h

/-- The same where the text's order is kept: a string's bytes too. -/
def opA (P : Program) (call : CallV) (env : Env) (o : Oper) (h : AHeap) : R Value :=
  match o.op with
  | .convert s d x => (match aNewStr P h s d (evalE env x) with | some r => some r | none => opE P call env o h)
  | _ => opE P call env o h

/-- A region's operations, in the text's order. -/
def opsE (P : Program) (call : CallV) (all : List Oper) : List Oper → Env → AHeap → Option (Env × AHeap)
  | [], env, h => some (env, h)
  | o :: os, env, h =>
    if Region.wanted o (yieldedE all env) then
      match opA P call env o h with
      | some (v, h') => opsE P call all os (putE env o.dst v) h'
      | none => none
    else opsE P call all os (putE env o.dst undef) h

/-- What names a temporary: the slots that an operation reads, and the one that it writes. -/
def namesOf (all : List Oper) (o : Oper) : List Tmp :=
  o.dst.toList ++ (o.op.operands.toList.filterMap fun | .tmp t => some t | _ => none) ++
    (match o.guard with | some (j, _) => ((all[j]?).bind (·.dst)).toList | none => [])

/-- Does an operation write what is there? -/
def writesO : Op → Bool
  | .store .. | .mapUpdate .. | .insert .. => true
  | .call { callee := .builtin b, .. } => (match b with | .append | .copy | .delete | .clear => true | _ => false)
  | _ => false
def isCallO : Op → Bool
  | .call { callee := .value _, .. } => true
  | _ => false
/-- Does it look at the heap? (Calls do.) -/
def looksO : Op → Bool
  | .load .. | .lookup .. | .store .. | .mapUpdate .. | .insert .. | .slice .. | .convert .. => true
  | .call { callee := .builtin .max, .. } | .call { callee := .builtin .min, .. } => false
  | .call _ => true
  | _ => false

/-- What only looks. -/
def readsO : Op → Bool
  | .load .. | .lookup .. | .slice .. | .convert .. => true
  | .call { callee := .builtin .len, .. } | .call { callee := .builtin .cap, .. } => true
  | _ => false

/-- Are two values surely the same? -/
def sameV : Nat → Value → Value → Bool
  | 0, _, _ => false
  | n + 1, v, v' =>
    match v, v' with
    | .bool a, .bool b => a == b
    | .int k a, .int k' b => decide (k = k') && decide (a = b)
    | .string a, .string b => decide (a = b)
    | .pointer none, .pointer none => true
    | .pointer (some ⟨a, o, none⟩), .pointer (some ⟨b, q, none⟩) => decide (a = b) && decide (o = q)
    | .slice none l c, .slice none l' c' => decide (l = l') && decide (c = c')
    | .slice (some ⟨a, o, none⟩) l c, .slice (some ⟨b, q, none⟩) l' c' => decide (a = b) && decide (o = q) && decide (l = l') && decide (c = c')
    | .map none, .map none => true
    | .map (some a), .map (some b) => decide (a = b)
    | .func (.func f) a c, .func (.func g) b d => decide (f = g) && decide (a.size = b.size) && ((a.toList.zip b.toList).all fun p => sameV n p.1 p.2) && decide (c.size = d.size) && ((c.toList.zip d.toList).all fun p => sameV n p.1 p.2)
    | .nilFunc, .nilFunc => true
    | .nilIface, .nilIface => true
    | .iface t x, .iface u y => decide (t = u) && sameV n x y
    | .agg a, .agg b => decide (a.size = b.size) && ((a.toList.zip b.toList).all fun p => sameV n p.1 p.2)
    | .tuple a, .tuple b => decide (a.size = b.size) && ((a.toList.zip b.toList).all fun p => sameV n p.1 p.2)
    | _, _ => false

/-- Does a value name objects below a number only? -/
def belowV (m : Nat) : Nat → Value → Bool
  | 0, _ => false
  | n + 1, v =>
    match v with
    | .pointer (some a) => decide (a.block < m)
    | .slice (some a) _ _ => decide (a.block < m)
    | .map (some r) => decide (r < m)
    | .func (.func _) a c => (a.toList.all fun x => belowV m n x) && (c.toList.all fun x => belowV m n x)
    | .func (.yield l) _ _ => decide (l < m)
    | .iface _ x => belowV m n x
    | .agg a => a.toList.all fun x => belowV m n x
    | .tuple a => a.toList.all fun x => belowV m n x
    | _ => true

/-- Which operations stand ahead of which, by the edges that bind always: sets of places, as numbers' bits. -/
def aheadOf (ops : List Oper) : List Nat :=
  ops.foldl (init := []) fun acc o =>
    acc ++ [o.after.toList.foldl (fun s e => if Region.binds .any e then s ||| 2 ^ e.on ||| acc.getD e.on 0 else s) 0]

def isAhead (ah : List Nat) (i j : Nat) : Bool := (ah.getD j 0).testBit i

/-- Does operation j write, in a region that draws its order? A call writes where all that looks at the heap is ordered with it; where not, it is run so that it can't. -/
def tied (ops : List Oper) (ah : List Nat) (j : Nat) : Bool :=
  (List.range ops.length).all fun i => i == j || !(((ops[i]?).map fun o => looksO o.op && !readsO o.op).getD false) || isAhead ah i j || isAhead ah j i

/-- Does operation j write? -/
def isW (all : List Oper) (j : Nat) : Bool := ((all[j]?).map fun o => writesO o.op || (isCallO o.op && tied all (aheadOf all) j)).getD false

/-- Is an operation one that looks only, and not ordered with all that write? -/
def loose (ops : List Oper) (i : Nat) : Bool :=
  ((ops[i]?).map fun o => readsO o.op).getD false && (List.range ops.length).any fun j => isW ops j && !(isAhead (aheadOf ops) i j) && !(isAhead (aheadOf ops) j i)

/-- May it find just the first m operations' writing done? -/
def feasible (ops : List Oper) (i m : Nat) : Bool :=
  (m == 0 || isW ops (m - 1)) && (List.range ops.length).all fun x => !isW ops x || ((!isAhead (aheadOf ops) x i || decide (x < m)) && (!isAhead (aheadOf ops) i x || decide (m ≤ x)))

/-- What must be ordered in a region that draws. -/
def drawOk (ops : List Oper) : Bool :=
  let ah := aheadOf ops
  (List.range ops.length).all fun j =>
    ((ops[j]?).map fun o =>
      (o.after.toList.all fun e => !Region.binds .any e || decide (e.on < j)) &&
      (!writesO o.op || tied ops ah j) &&
      (List.range j).all fun i =>
        ((ops[i]?).map fun p =>
          isAhead ah i j ||
          ((!(p.dst.toList.any fun d => (namesOf ops o).contains d)) && (!(o.dst.toList.any fun d => (namesOf ops p).contains d)))).getD false).getD false

/-- The operations of a region that draws, one by one: a call that is not tied writes nothing that lay there. -/
def drawE (P : Program) (call : CallV) (all : List Oper) (ah : List Nat) : Nat → List Oper → Env → AHeap → Option (List (Env × AHeap × Value) × Env × AHeap)
  | _, [], env, h => some ([], env, h)
  | j, o :: os, env, h =>
    if Region.wanted o (yieldedE all env) then
      if isCallO o.op && !tied all ah j then
        match opE P call env o { h with low := h.next } with
        | some (v, h') => (drawE P call all ah (j + 1) os (putE env o.dst v) { h' with low := h.low }).map fun r => ((env, h, v) :: r.1, r.2)
        | none => none
      else
        match opE P call env o h with
        | some (v, h') => (drawE P call all ah (j + 1) os (putE env o.dst v) h').map fun r => ((env, h, v) :: r.1, r.2)
        | none => none
    else (drawE P call all ah (j + 1) os (putE env o.dst undef) h).map fun r => ((env, h, undef) :: r.1, r.2)

/-- Would an operation that looks only find the same in another heap? -/
def stable (P : Program) (ρ : Operand → Value) (op : Op) (h : AHeap) (n : Nat) (v : Value) : Bool :=
  match aOp P ρ op { h with next := min h.next n } with
  | some (v', _) => sameV 20 v v' && belowV n 20 v
  | none => false

def looseOk (P : Program) (all : List Oper) (l : List (Env × AHeap × Value)) (hn : AHeap) : Bool :=
  (List.range all.length).all fun i =>
    !loose all i || (match all[i]?, l[i]? with
      | some o, some (env, h, v) => !Region.wanted o (yieldedE all env) ||
        (List.range (all.length + 1)).all fun k => !feasible all i k || stable P (evalE env) o.op (((l[k]?).map (·.2.1)).getD hn) h.next v
      | _, _ => false)

def regionE (P : Program) (call : CallV) (ops : Array Oper) (draw : Bool) (env : Env) (h : AHeap) : Option (Env × AHeap) :=
  if draw then (if drawOk ops.toList then (match drawE P call ops.toList (aheadOf ops.toList) 0 ops.toList env h with | some (l, env', h') => if looseOk P ops.toList l h' then some (env', h') else none | none => none) else none)
  else opsE P call ops.toList ops.toList env h

/-- A loop's rounds. -/
def iterE (step : Env → AHeap → Option (AExit × Env × AHeap)) : Nat → Env → AHeap → Option (AExit × Env × AHeap)
  | 0, _, _ => none
  | n + 1, env, h =>
    match step env h with
    | some (.normal, env', h') => iterE step n env' h'
    | r => r

def getLoopA (h : AHeap) (l : Nat) : Option ALoop := if h.low ≤ l then (match h.get l with | some (.loop r) => some r | _ => none) else none
/-- Is a value one of Go code with a body? -/
def entersV (P : Program) : Value → Bool
  | .func (.func g) _ _ => (P.funcs[g]?).any fun fn => fn.body.isSome
  | _ => false

def jumpOf : AExit → Option Code
  | .normal => none
  | .exit id => some (.exit id)
  | .ret => some .ret
def exitOf : Option Code → Option AExit
  | none => some .normal
  | some (.exit id) => some (.exit id)
  | some .ret => some .ret
  | _ => none

/-- The run of a piece of code: 'n' bounds loops' rounds. -/
def exec (P : Program) (call : CallV) (n : Nat) : Code → Env → AHeap → Option (AExit × Env × AHeap)
  | .skip, env, h | .label _, env, h => some (.normal, env, h)
  | .ret, env, h => some (.ret, env, h)
  | .exit id, env, h => some (.exit id, env, h)
  | .region _ ops draw, env, h => (regionE P call ops draw env h).map fun (env', h') => (.normal, env', h')
  | .seq a b, env, h =>
    match exec P call n a env h with
    | some (.normal, env', h') => exec P call n b env' h'
    | r => r
  | .cond c a b, env, h =>
    match evalE env c with
    | .bool true => exec P call n a env h
    | .bool false => exec P call n b env h
    | _ => none
  | .block id body, env, h =>
    match exec P call n body env h with
    | some (.exit id', env', h') => if id' == id then some (.normal, env', h') else some (.exit id', env', h')
    | r => r
  | .loop body, env, h => iterE (exec P call n body) n env h
  | .scope body, env, h => exec P call n body env h
  | .rangeFunc f ps assign body, env, h =>
    if !entersV P (evalE env f) then none else
    match call (evalE env f) [.func (.yield h.next) #[] #[]] (h.alloc (.loop { state := .ready, pending := none, tmps := env, params := ps, assign, body })) with
    | some (_, h') =>
      match getLoopA h' h.next with
      | some r => if r.state == .busy then none else (exitOf r.pending).map fun x => (x, env, h'.put h.next (some (.loop { r with state := .exhausted })))
      | none => none
    | none => none
  | .goto _, _, _ | .refuse _, _, _ => none

def setTmps (tmps : List Value) : List (Tmp × Value) → List Value
  | [] => tmps
  | (t, v) :: l => setTmps (tmps.set t v) l

def argsOf : Value → List Value → Option (Fn × List Value)
  | .func (.func f) first cap, args => some (.func f, first.toList ++ args ++ cap.toList)
  | .func (.yield l) first _, args => some (.yield l, first.toList ++ args)
  | _, _ => none

def resOne (P : Program) (env : Env) (h : AHeap) : ResultVar → Option Value
  | .tmp t => some (env.getD t undef)
  | .cell a t => match env.getD a undef with | .pointer (some p) => aLoad P h t (.pointer (some p)) | _ => none
def resultsE (P : Program) (fn : Func) (env : Env) (h : AHeap) : Option Value :=
  match fn.results.toList with
  | [r] => resOne P env h r
  | rs => (rs.mapM (resOne P env h)).map fun vs => .tuple vs.toArray

/-- What stands for a function's own run. -/
abbrev Prims := FuncId → Option (CallV → List Value → AHeap → R Value)

/-- A call, of depth and rounds at most n. -/
def callE (P : Program) (prims : Prims) : Nat → CallV
  | 0, _, _, _ => none
  | n + 1, f, args, h =>
    match argsOf f args with
    | some (.func g, all) =>
      match prims g with
      | some p => p (callE P prims n) all h
      | none =>
        match P.funcs[g]? with
        | some fn =>
          match fn.body with
          | some c =>
            match exec P (callE P prims n) n c (all ++ List.replicate (fn.ntmps - all.length) undef) h with
            | some (.normal, env, h') | some (.ret, env, h') => (resultsE P fn env h').map fun v => (v, h')
            | _ => none
          | none => none
        | none => none
    | some (.yield l, all) =>
      match getLoopA h l with
      | some r =>
        if all.length ≠ r.params.size then none else
        match exec P (callE P prims n) n r.assign (setTmps r.tmps (r.params.toList.zip all)) h with
        | some (.normal, env, h1) =>
          match getLoopA h1 l with
          | some r1 =>
            if r1.state ≠ .ready then none else
            match exec P (callE P prims n) n r.body env (h1.put l (some (.loop { r1 with state := .busy }))) with
            | some (x, _, h2) =>
              match getLoopA h2 l with
              | some r2 => some (.bool (jumpOf x).isNone, h2.put l (some (.loop { r2 with state := if (jumpOf x).isNone then .ready else .done, pending := jumpOf x })))
              | none => none
            | none => none
          | none => none
        | _ => none
      | none => none
    | _ => none

end Go.AM
