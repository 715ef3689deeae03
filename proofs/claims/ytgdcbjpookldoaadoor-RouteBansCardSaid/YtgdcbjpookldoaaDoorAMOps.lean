/- AM: the rules by which a run's predicate is taken apart: one a construct, one an operation. -/
import Derived.Test.YtgdcbjpookldoaaDoorAMWp
set_option linter.unusedSimpArgs false
set_option linter.unusedVariables false
namespace Go.AM
variable {P : Program} {prims : Prims}

/-- A proof that is not taken for a reduction. -/
theorem nrfl.{u} {α : Sort u} {a b : α} (h : a = b) : a = b := h

/-! ### What a rule asks of a type, as numbers -/

def lkI (P : Program) (t : TypeId) : Option (Option Nat) := (P.underlying t).bind fun _ => (P.info? t).bind fun i => some (if aIsAgg P t then some i.size else none)
def szI (P : Program) (t : TypeId) : Option Nat := (P.info? t).map (·.size)
def alI (P : Program) (t : TypeId) : Option (List Value) := (aZero P t).bind fun z => if z.cells.toList.all plainV = true then some z.cells.toList else none
def elI (P : Program) (t : TypeId) : Option (TypeId × Nat) := match P.underlying t with | some (.slice e) => (P.info? e).map fun i => (e, i.size) | _ => none
def arI (P : Program) (t : TypeId) : Option (Nat × Nat) := match P.underlying t with | some (.array n e) => (P.info? e).map fun i => (n, i.size) | _ => none
def fdI (P : Program) (s : TypeId) (f : Nat) : Option Nat :=
  match P.underlying s with
  | some (.struct fields) => (fields[f]?).bind fun fd => (P.info? fd.type).bind fun i => if i.size = 0 then none else some fd.offset
  | _ => none
/-! ### Outcomes -/

theorem optW_some (v : Value) (h : AHeap) (K : VQ) : optW (some v) h K = K v h := by simp [optW]
theorem optR_some (v : Value) (h : AHeap) (K : VQ) : optR (some (v, h)) K = K v h := by simp [optR]
theorem optH_some (h : AHeap) (K : VQ) : optH (some h) K = K undef h := by simp [optH]
theorem optR_mapv (r : Option Value) (h : AHeap) (K : VQ) : optR (r.map fun v => (v, h)) K = optW r h K := by
  cases r with
  | none => simp [optR, optW]
  | some v => rw [Option.map_some, optR_some, optW_some]
/-! ### Structure -/

def seqK (P : Program) (prims : Prims) (b : Code) (Q : XQ) : XQ := fun x env h => match x with | .normal => wpE P prims b env h Q | x => Q x env h
def blockK (id : Nat) (Q : XQ) : XQ := fun x env h => match x with | .exit i => if i = id then Q .normal env h else Q (.exit i) env h | x => Q x env h
def condV (P : Program) (prims : Prims) (x : Value) (a b : Code) (env : Env) (h : AHeap) (Q : XQ) : Prop :=
  ∃ t, x = .bool t ∧ (t = true → wpE P prims a env h Q) ∧ (t = false → wpE P prims b env h Q)
def opsC (P : Program) (prims : Prims) (d : Bool) (all : List Oper) (ah : List Nat) (j : Nat) (dst : Option Tmp) (os : List Oper) (env : Env) (Q : EQ) : VQ := fun v h => opsW P prims d all ah j os (putE env dst v) h Q
/-- An operation that is guarded. -/
def guardO (P : Program) (prims : Prims) (y : Option Bool) (b d : Bool) (all : List Oper) (ah : List Nat) (j : Nat) (dst : Option Tmp) (op : Op) (os : List Oper) (env : Env) (h : AHeap) (Q : EQ) : Prop :=
  (y = some b → opW P prims (tiedW d all ah j) env op h (opsC P prims d all ah (j + 1) dst os env Q)) ∧ (y ≠ some b → opsW P prims d all ah (j + 1) os (putE env dst undef) h Q)

section
variable (v : Value) (vs : List Value) (h : AHeap) (Q : XQ)
theorem wp_skip : wpE P prims .skip (v :: vs) h Q = Q .normal (v :: vs) h := nrfl rfl
theorem wp_label (l : Nat) : wpE P prims (.label l) (v :: vs) h Q = Q .normal (v :: vs) h := nrfl rfl
theorem wp_ret : wpE P prims .ret (v :: vs) h Q = Q .ret (v :: vs) h := nrfl rfl
theorem wp_exit (id : Nat) : wpE P prims (.exit id) (v :: vs) h Q = Q (.exit id) (v :: vs) h := nrfl rfl
theorem wp_seq (a b : Code) : wpE P prims (.seq a b) (v :: vs) h Q = wpE P prims a (v :: vs) h (seqK P prims b Q) := nrfl rfl
theorem wp_scope (a : Code) : wpE P prims (.scope a) (v :: vs) h Q = wpE P prims a (v :: vs) h Q := nrfl rfl
theorem wp_block (id : Nat) (a : Code) : wpE P prims (.block id a) (v :: vs) h Q = wpE P prims a (v :: vs) h (blockK id Q) := nrfl rfl
theorem wp_region (id : Nat) (ops : Array Oper) : wpE P prims (.region id ops false) (v :: vs) h Q = opsW P prims false ops.toList [] 0 ops.toList (v :: vs) h (Q .normal) := nrfl rfl
theorem wp_draw (id : Nat) (ops : Array Oper) : wpE P prims (.region id ops true) (v :: vs) h Q = drawW P prims id ops (v :: vs) h (Q .normal) := nrfl rfl
theorem wp_cond (c : Operand) (a b : Code) : wpE P prims (.cond c a b) (v :: vs) h Q = condV P prims (evalE (v :: vs) c) a b (v :: vs) h Q := by
  unfold condV
  show (match evalE (v :: vs) c with | .bool t => (t = true → wpE P prims a (v :: vs) h Q) ∧ (t = false → wpE P prims b (v :: vs) h Q) | _ => False) = _
  cases evalE (v :: vs) c <;> simp
theorem wp_loop (a : Code) : wpE P prims (.loop a) (v :: vs) h Q = ExecW P prims (.loop a) (v :: vs) h Q := nrfl rfl
theorem wp_rangeFunc (f : Operand) (ps : Array Tmp) (a b : Code) : wpE P prims (.rangeFunc f ps a b) (v :: vs) h Q = ExecW P prims (.rangeFunc f ps a b) (v :: vs) h Q := nrfl rfl
theorem seqK_normal (b : Code) : seqK P prims b Q .normal (v :: vs) h = wpE P prims b (v :: vs) h Q := nrfl rfl
theorem seqK_ret (b : Code) : seqK P prims b Q .ret (v :: vs) h = Q .ret (v :: vs) h := nrfl rfl
theorem seqK_exit (b : Code) (i : Nat) : seqK P prims b Q (.exit i) (v :: vs) h = Q (.exit i) (v :: vs) h := nrfl rfl
theorem blockK_normal (id : Nat) : blockK id Q .normal (v :: vs) h = Q .normal (v :: vs) h := nrfl rfl
theorem blockK_ret (id : Nat) : blockK id Q .ret (v :: vs) h = Q .ret (v :: vs) h := nrfl rfl
theorem blockK_exit (id i : Nat) : blockK id Q (.exit i) (v :: vs) h = if i = id then Q .normal (v :: vs) h else Q (.exit i) (v :: vs) h := nrfl rfl
theorem condV_true (a b : Code) : condV P prims (.bool true) a b (v :: vs) h Q = wpE P prims a (v :: vs) h Q := by simp [condV]
theorem condV_false (a b : Code) : condV P prims (.bool false) a b (v :: vs) h Q = wpE P prims b (v :: vs) h Q := by simp [condV]
theorem condV_not (t : Bool) (a b : Code) : condV P prims (.bool (!t)) a b (v :: vs) h Q = condV P prims (.bool t) b a (v :: vs) h Q := by cases t <;> simp [condV]
end

section
variable {env : Env} {h : AHeap} {Q : XQ}
theorem condV_split {p : Prop} [Decidable p] {a b : Code} (h1 : p → wpE P prims a env h Q) (h2 : ¬ p → wpE P prims b env h Q) : condV P prims (.bool (decide p)) a b env h Q := by
  exact ⟨_, rfl, fun e => h1 (of_decide_eq_true e), fun e => h2 (of_decide_eq_false e)⟩
theorem condV_bool {t : Bool} {a b : Code} (h1 : t = true → wpE P prims a env h Q) (h2 : t = false → wpE P prims b env h Q) : condV P prims (.bool t) a b env h Q := ⟨t, rfl, h1, h2⟩
end

section
variable (v : Value) (vs : List Value) (h : AHeap) (Q : EQ) (d : Bool) (all : List Oper) (ah : List Nat) (j : Nat) (os : List Oper)
theorem ops_nil : opsW P prims d all ah j [] (v :: vs) h Q = Q (v :: vs) h := nrfl rfl
theorem ops_cons (dst : Option Tmp) (op : Op) (ty : TypeId) (pos : String) (af : Array Edge) :
    opsW P prims d all ah j (⟨dst, op, ty, pos, af, none⟩ :: os) (v :: vs) h Q = opW P prims (tiedW d all ah j) (v :: vs) op h (opsC P prims d all ah (j + 1) dst os (v :: vs) Q) := nrfl rfl
theorem ops_guard (dst : Option Tmp) (op : Op) (ty : TypeId) (pos : String) (af : Array Edge) (i : Nat) (b : Bool) :
    opsW P prims d all ah j (⟨dst, op, ty, pos, af, some (i, b)⟩ :: os) (v :: vs) h Q = guardO P prims (yieldedE all (v :: vs) i) b d all ah j dst op os (v :: vs) h Q := nrfl rfl
theorem opsC_run (dst : Option Tmp) (x : Value) : opsC P prims d all ah j dst os (v :: vs) Q x h = opsW P prims d all ah j os (putE (v :: vs) dst x) h Q := nrfl rfl
theorem guard_tt (dst : Option Tmp) (op : Op) : guardO P prims (some true) true d all ah j dst op os (v :: vs) h Q = opW P prims (tiedW d all ah j) (v :: vs) op h (opsC P prims d all ah (j + 1) dst os (v :: vs) Q) := by simp [guardO]
theorem guard_ff (dst : Option Tmp) (op : Op) : guardO P prims (some false) false d all ah j dst op os (v :: vs) h Q = opW P prims (tiedW d all ah j) (v :: vs) op h (opsC P prims d all ah (j + 1) dst os (v :: vs) Q) := by simp [guardO]
theorem guard_tf (dst : Option Tmp) (op : Op) : guardO P prims (some true) false d all ah j dst op os (v :: vs) h Q = opsW P prims d all ah (j + 1) os (putE (v :: vs) dst undef) h Q := by simp [guardO]
theorem guard_ft (dst : Option Tmp) (op : Op) : guardO P prims (some false) true d all ah j dst op os (v :: vs) h Q = opsW P prims d all ah (j + 1) os (putE (v :: vs) dst undef) h Q := by simp [guardO]
theorem guard_none (b : Bool) (dst : Option Tmp) (op : Op) : guardO P prims none b d all ah j dst op os (v :: vs) h Q = opsW P prims d all ah (j + 1) os (putE (v :: vs) dst undef) h Q := by simp [guardO]
theorem guard_not (t b : Bool) (dst : Option Tmp) (op : Op) : guardO P prims (some (!t)) b d all ah j dst op os (v :: vs) h Q = guardO P prims (some t) (!b) d all ah j dst op os (v :: vs) h Q := by cases t <;> cases b <;> simp [guardO]
end
section
variable {env : Env} {h : AHeap} {Q : EQ} {d b : Bool} {all : List Oper} {ah : List Nat} {j : Nat} {os : List Oper} {dst : Option Tmp} {op : Op}
end

def tpsC (P : Program) (prims : Prims) (all : List Oper) (ah : List Nat) (j : Nat) (dst : Option Tmp) (os : List Oper) (env : Env) (h0 : AHeap) (tr : List (Env × AHeap × Value)) (Q : EQ) : VQ := fun v h => opsT P prims all ah j os (putE env dst v) h ((env, h0, v) :: tr) Q
def guardT (P : Program) (prims : Prims) (y : Option Bool) (b : Bool) (all : List Oper) (ah : List Nat) (j : Nat) (dst : Option Tmp) (op : Op) (os : List Oper) (env : Env) (h : AHeap) (tr : List (Env × AHeap × Value)) (Q : EQ) : Prop :=
  (y = some b → opW P prims (tiedW true all ah j) env op h (tpsC P prims all ah (j + 1) dst os env h tr Q)) ∧ (y ≠ some b → opsT P prims all ah (j + 1) os (putE env dst undef) h ((env, h, undef) :: tr) Q)
section
variable (v : Value) (vs : List Value) (h : AHeap) (tr : List (Env × AHeap × Value)) (Q : EQ) (all : List Oper) (ah : List Nat) (j : Nat) (os : List Oper)
theorem tps_nil : opsT P prims all ah j [] (v :: vs) h tr Q = (looseOk P all tr.reverse h = true ∧ Q (v :: vs) h) := nrfl rfl
theorem tps_cons (dst : Option Tmp) (op : Op) (ty : TypeId) (pos : String) (af : Array Edge) :
    opsT P prims all ah j (⟨dst, op, ty, pos, af, none⟩ :: os) (v :: vs) h tr Q = opW P prims (tiedW true all ah j) (v :: vs) op h (tpsC P prims all ah (j + 1) dst os (v :: vs) h tr Q) := nrfl rfl
theorem tps_guard (dst : Option Tmp) (op : Op) (ty : TypeId) (pos : String) (af : Array Edge) (i : Nat) (b : Bool) :
    opsT P prims all ah j (⟨dst, op, ty, pos, af, some (i, b)⟩ :: os) (v :: vs) h tr Q = guardT P prims (yieldedE all (v :: vs) i) b all ah j dst op os (v :: vs) h tr Q := nrfl rfl
theorem tpsC_run (dst : Option Tmp) (x : Value) (h0 : AHeap) : tpsC P prims all ah j dst os (v :: vs) h0 tr Q x h = opsT P prims all ah j os (putE (v :: vs) dst x) h ((v :: vs, h0, x) :: tr) Q := nrfl rfl
theorem gT_tt (dst : Option Tmp) (op : Op) : guardT P prims (some true) true all ah j dst op os (v :: vs) h tr Q = opW P prims (tiedW true all ah j) (v :: vs) op h (tpsC P prims all ah (j + 1) dst os (v :: vs) h tr Q) := by simp [guardT]
theorem gT_ff (dst : Option Tmp) (op : Op) : guardT P prims (some false) false all ah j dst op os (v :: vs) h tr Q = opW P prims (tiedW true all ah j) (v :: vs) op h (tpsC P prims all ah (j + 1) dst os (v :: vs) h tr Q) := by simp [guardT]
theorem gT_tf (dst : Option Tmp) (op : Op) : guardT P prims (some true) false all ah j dst op os (v :: vs) h tr Q = opsT P prims all ah (j + 1) os (putE (v :: vs) dst undef) h ((v :: vs, h, undef) :: tr) Q := by simp [guardT]
theorem gT_ft (dst : Option Tmp) (op : Op) : guardT P prims (some false) true all ah j dst op os (v :: vs) h tr Q = opsT P prims all ah (j + 1) os (putE (v :: vs) dst undef) h ((v :: vs, h, undef) :: tr) Q := by simp [guardT]
end

def yV : Option Value → Option Bool | some (.bool b) => some b | _ => none
theorem yielded_yV (all : List Oper) (v : Value) (vs : List Value) (i : Nat) : yieldedE all (v :: vs) i = yV (((all[i]?).bind (·.dst)).bind ((v :: vs)[·]?)) := by
  unfold yieldedE yV
  split <;> simp_all
theorem yV_bool (b : Bool) : yV (some (.bool b)) = some b := nrfl rfl
theorem yV_undef : yV (some undef) = none := nrfl rfl

theorem tied_plain (all : List Oper) (ah : List Nat) (j : Nat) : tiedW false all ah j = true := nrfl rfl
/-! ### Operations -/

section
variable (t : Bool) (v : Value) (vs : List Value) (h : AHeap) (K : VQ)

theorem op_move (x : Operand) : opW P prims t (v :: vs) (.move x) h K = K (evalE (v :: vs) x) h := by
  show optR (some _) K = _
  exact optR_some _ _ _
theorem op_assign (x : Operand) : opW P prims t (v :: vs) (.assign x) h K = K (evalE (v :: vs) x) h := by
  show optR (some _) K = _
  exact optR_some _ _ _

def aPick : Value → Value → Value → Option Value
  | .bool t, a, b => some (if t then a else b)
  | _, _, _ => none
theorem op_pick (c a b : Operand) : opW P prims t (v :: vs) (.pick c a b) h K = optW (aPick (evalE (v :: vs) c) (evalE (v :: vs) a) (evalE (v :: vs) b)) h K := by
  show optR (aOp P _ _ h) K = _
  unfold aOp aPure aHeap aPick
  simp only
  cases evalE (v :: vs) c <;> simp [optR, optW]
theorem aPick_tt (a b : Value) : aPick (.bool true) a b = some a := nrfl rfl
theorem aPick_ff (a b : Value) : aPick (.bool false) a b = some b := nrfl rfl
def alK (r : Option (List Value)) (e : TypeId) (h : AHeap) (K : VQ) : Prop := ∃ z, r = some z ∧ K (.pointer (some ⟨h.next, 0, none⟩)) (h.alloc (.cells z e false))
theorem op_alloc (e : TypeId) : opW P prims t (v :: vs) (.alloc e) h K = alK (alI P e) e h K := by
  show optR (aOp P _ _ h) K = _
  unfold aOp aPure alI aHeap alK
  simp only
  cases aZero P e with
  | none => simp [optR]
  | some z =>
    simp only [Option.bind_some]
    by_cases hz : z.cells.toList.all plainV = true
    · rw [if_pos hz, if_pos hz]; simp [optR, ptrTo]
    · rw [if_neg hz, if_neg hz]; simp [optR]
theorem alK_some (z : List Value) (e : TypeId) : alK (some z) e h K = K (.pointer (some ⟨h.next, 0, none⟩)) (h.alloc (.cells z e false)) := by simp [alK]

def boxK (x : Value) (e : TypeId) (h : AHeap) (K : VQ) : Prop := x.cells.toList.all (·.oneCell') = true ∧ K (.pointer (some ⟨h.next, 0, none⟩)) (h.alloc (.cells x.cells.toList e false))
theorem op_box (e : TypeId) (x : Operand) : opW P prims t (v :: vs) (.box e x) h K = boxK (evalE (v :: vs) x) e h K := by
  show optR (aOp P _ _ h) K = _
  unfold aOp aPure boxK aHeap
  simp only
  by_cases hz : (evalE (v :: vs) x).cells.toList.all (·.oneCell') = true
  · rw [if_pos hz, hz]; simp [optR, ptrTo]
  · rw [if_neg hz]; simp [optR, hz]
theorem boxK_one (x : Value) (e : TypeId) (hx : x.cells = #[x]) (h1 : x.oneCell' = true) : boxK x e h K = K (.pointer (some ⟨h.next, 0, none⟩)) (h.alloc (.cells [x] e false)) := by
  unfold boxK; rw [hx]; simp [h1]
theorem boxK_int (k : IntKind) (n : Int) (e : TypeId) : boxK (.int k n) e h K = K (.pointer (some ⟨h.next, 0, none⟩)) (h.alloc (.cells [.int k n] e false)) := boxK_one _ _ _ _ rfl rfl
theorem boxK_bool (b : Bool) (e : TypeId) : boxK (.bool b) e h K = K (.pointer (some ⟨h.next, 0, none⟩)) (h.alloc (.cells [.bool b] e false)) := boxK_one _ _ _ _ rfl rfl
theorem boxK_string (s : ByteArray) (e : TypeId) : boxK (.string s) e h K = K (.pointer (some ⟨h.next, 0, none⟩)) (h.alloc (.cells [.string s] e false)) := boxK_one _ _ _ _ rfl rfl
theorem boxK_slice (a : Option Addr) (n c : Nat) (e : TypeId) : boxK (.slice a n c) e h K = K (.pointer (some ⟨h.next, 0, none⟩)) (h.alloc (.cells [.slice a n c] e false)) := boxK_one _ _ _ _ rfl rfl
theorem boxK_pointer (a : Option Addr) (e : TypeId) : boxK (.pointer a) e h K = K (.pointer (some ⟨h.next, 0, none⟩)) (h.alloc (.cells [.pointer a] e false)) := boxK_one _ _ _ _ rfl rfl
theorem boxK_map (a : Option Nat) (e : TypeId) : boxK (.map a) e h K = K (.pointer (some ⟨h.next, 0, none⟩)) (h.alloc (.cells [.map a] e false)) := boxK_one _ _ _ _ rfl rfl
theorem boxK_func (f : Fn) (a b : Array Value) (e : TypeId) : boxK (.func f a b) e h K = K (.pointer (some ⟨h.next, 0, none⟩)) (h.alloc (.cells [.func f a b] e false)) := boxK_one _ _ _ _ rfl rfl
theorem boxK_agg (l : List Value) (e : TypeId) (hl : l.all (·.oneCell') = true) : boxK (.agg l.toArray) e h K = K (.pointer (some ⟨h.next, 0, none⟩)) (h.alloc (.cells l e false)) := by
  unfold boxK; simp [Value.cells, hl]

theorem op_nilCheck (x : Operand) : opW P prims t (v :: vs) (.nilCheck x) h K = optW (match evalE (v :: vs) x with | .pointer (some a) => some (.pointer (some a)) | _ => none) h K := by
  show optR (aOp P _ _ h) K = _
  unfold aOp aPure aHeap
  simp only
  cases evalE (v :: vs) x with
  | pointer a => cases a <;> simp [optR, optW]
  | _ => simp [optR, optW]
theorem op_binOp (o : BinOp) (ty ty' : TypeId) (x y : Operand) : opW P prims t (v :: vs) (.binOp o ty x y ty') h K = optW (aBin P o ty (evalE (v :: vs) x) (evalE (v :: vs) y)) h K := by
  show optR (aOp P _ _ h) K = _
  unfold aOp aPure aHeap
  simp only
  cases aBin P o ty (evalE (v :: vs) x) (evalE (v :: vs) y) <;> simp [optR, optW, optH]
theorem op_unOp (o : UnOp) (ty : TypeId) (x : Operand) : opW P prims t (v :: vs) (.unOp o ty x) h K = optW (aUn o (evalE (v :: vs) x)) h K := by
  show optR (aOp P _ _ h) K = _
  unfold aOp aPure aHeap
  simp only
  cases aUn o (evalE (v :: vs) x) <;> simp [optR, optW, optH]
/-- What is converted: numbers, strings (no heap); bytes as a string. -/
def cvV (P : Program) (h : AHeap) (s d : TypeId) (x : Value) : Option Value := match aConvert P s d x with | some v => some v | none => aConvStr P h s d x
def cvW (P : Program) (h : AHeap) (s d : TypeId) (x : Value) (K : VQ) : Prop := match aNewStr P h s d x with | some r => K r.1 r.2 | none => optW (cvV P h s d x) h K
theorem op_convert (s d : TypeId) (x : Operand) : opW P prims t (v :: vs) (.convert s d x) h K = cvW P h s d (evalE (v :: vs) x) K := by
  show (match aNewStr P h s d (evalE (v :: vs) x) with | some r => K r.1 r.2 | none => optR (aOp P _ _ h) K) = _
  unfold cvW
  cases aNewStr P h s d (evalE (v :: vs) x) with
  | some r => exact nrfl rfl
  | none =>
    simp only
    unfold aOp aPure aHeap cvV
    simp only
    cases aConvert P s d (evalE (v :: vs) x) with
    | some y => simp [optR, optW]
    | none => simp only [Option.map_none, optR_mapv]
theorem newStr_no {s d : TypeId} {x : Value} (hx : ∀ b, x ≠ .string b) : aNewStr P h s d x = none := by
  unfold aNewStr
  split
  · rename_i b _ _; exact absurd rfl (hx b)
  · rfl
theorem cvW_slice (s d : TypeId) (a : Option Addr) (n c : Nat) : cvW P h s d (.slice a n c) K = optW (cvV P h s d (.slice a n c)) h K := by
  unfold cvW
  rw [newStr_no h (fun b e => by cases e)]
theorem op_makeFunc (f : FuncId) (first cap : Array Operand) : opW P prims t (v :: vs) (.makeFunc (.func f) first cap) h K = K (.func (.func f) (first.map (evalE (v :: vs))) (cap.map (evalE (v :: vs)))) h := by
  show optR (some _) K = _
  exact optR_some _ _ _
theorem op_makeMap0 (ty : TypeId) : opW P prims t (v :: vs) (.makeMap ty none) h K = K (.map (some h.next)) (h.alloc (.map [])) := by
  show optR (some _) K = _
  exact optR_some _ _ _
theorem op_fieldAddr (s : TypeId) (x : Operand) (f : Nat) : opW P prims t (v :: vs) (.fieldAddr s x f) h K = optW (aFieldAddr P s (evalE (v :: vs) x) f) h K := by
  show optR (aOp P _ _ h) K = _
  unfold aOp aPure aHeap
  simp only
  cases aFieldAddr P s (evalE (v :: vs) x) f <;> simp [optR, optW, optH]
theorem op_indexAddr (ty : TypeId) (x i : Operand) : opW P prims t (v :: vs) (.indexAddr ty x i) h K = optW (aIndexAddr P ty (evalE (v :: vs) x) (evalE (v :: vs) i)) h K := by
  show optR (aOp P _ _ h) K = _
  unfold aOp aPure aHeap
  simp only
  cases aIndexAddr P ty (evalE (v :: vs) x) (evalE (v :: vs) i) <;> simp [optR, optW, optH]
theorem op_index (ty : TypeId) (x i : Operand) : opW P prims t (v :: vs) (.index ty x i) h K = optW (aIndex P ty (evalE (v :: vs) x) (evalE (v :: vs) i)) h K := by
  show optR (aOp P _ _ h) K = _
  unfold aOp aPure aHeap
  simp only
  cases aIndex P ty (evalE (v :: vs) x) (evalE (v :: vs) i) <;> simp [optR, optW, optH]
theorem op_extract (x : Operand) (i : Nat) : opW P prims t (v :: vs) (.extract x i) h K = optW (aExtract (evalE (v :: vs) x) i) h K := by
  show optR (aOp P _ _ h) K = _
  unfold aOp aPure aHeap
  simp only
  cases aExtract (evalE (v :: vs) x) i <;> simp [optR, optW, optH]
theorem op_load (ty : TypeId) (x : Operand) : opW P prims t (v :: vs) (.load ty x) h K = optW (aLoad P h ty (evalE (v :: vs) x)) h K := by
  show optR (aOp P _ _ h) K = _
  unfold aOp aPure aHeap
  simp only
  cases aLoad P h ty (evalE (v :: vs) x) <;> simp [optR, optW, optH]
theorem op_store (ty : TypeId) (a x : Operand) : opW P prims t (v :: vs) (.store ty a x) h K = optH (aStore P h ty (evalE (v :: vs) a) (evalE (v :: vs) x)) K := by
  show optR (aOp P _ _ h) K = _
  unfold aOp aPure aHeap
  simp only
  cases aStore P h ty (evalE (v :: vs) a) (evalE (v :: vs) x) <;> simp [optR, optW, optH]
theorem op_lookup (ty : TypeId) (x k : Operand) (ok : Bool) : opW P prims t (v :: vs) (.lookup ty x k ok) h K = optW (aLookup P h ty (evalE (v :: vs) x) (evalE (v :: vs) k) ok) h K := by
  show optR (aOp P _ _ h) K = _
  unfold aOp aPure aHeap
  simp only
  cases aLookup P h ty (evalE (v :: vs) x) (evalE (v :: vs) k) ok <;> simp [optR, optW, optH]
theorem op_mapUpdate (ty : TypeId) (m k x : Operand) : opW P prims t (v :: vs) (.mapUpdate ty m k x) h K = optH (aMapUpdate P h ty (evalE (v :: vs) m) (evalE (v :: vs) k) (evalE (v :: vs) x)) K := by
  show optR (aOp P _ _ h) K = _
  unfold aOp aPure aHeap
  simp only
  cases aMapUpdate P h ty (evalE (v :: vs) m) (evalE (v :: vs) k) (evalE (v :: vs) x) <;> simp [optR, optW, optH]
theorem op_insert (ty : TypeId) (m k x : Operand) : opW P prims t (v :: vs) (.insert ty m k x) h K = optH (aMapUpdate P h ty (evalE (v :: vs) m) (evalE (v :: vs) k) (evalE (v :: vs) x)) K := by
  show optR (aOp P _ _ h) K = _
  unfold aOp aPure aHeap
  simp only
  cases aMapUpdate P h ty (evalE (v :: vs) m) (evalE (v :: vs) k) (evalE (v :: vs) x) <;> simp [optR, optW, optH]
theorem op_slice (ty : TypeId) (x : Operand) (lo hi mx : Option Operand) : opW P prims t (v :: vs) (.slice ty x lo hi mx) h K = optW (aSliceH P h ty (evalE (v :: vs) x) (lo.map (evalE (v :: vs))) (hi.map (evalE (v :: vs))) (mx.map (evalE (v :: vs)))) h K := by
  show optR (aOp P _ _ h) K = _
  unfold aOp aPure aHeap
  simp only
  cases aSliceH P h ty (evalE (v :: vs) x) (lo.map (evalE (v :: vs))) (hi.map (evalE (v :: vs))) (mx.map (evalE (v :: vs))) <;> simp [optR, optW, optH]
theorem op_build (ty : TypeId) (parts : Array (Nat × Operand)) : opW P prims t (v :: vs) (.build ty parts) h K = optW (aBuild P ty (parts.toList.map fun p => (p.1, evalE (v :: vs) p.2))) h K := by
  show optR (aOp P _ _ h) K = _
  unfold aOp aPure aHeap
  simp only
  cases aBuild P ty (parts.toList.map fun p => (p.1, evalE (v :: vs) p.2)) <;> simp [optR, optW, optH]

theorem op_call (f : Operand) (args : Array Operand) (tys : Array TypeId) : opW P prims true (v :: vs) (.call { callee := .value f, args := args, argTypes := tys }) h K = CallW P prims (evalE (v :: vs) f) (args.toList.map (evalE (v :: vs))) h K := nrfl rfl
theorem op_len (x : Operand) (ty : TypeId) : opW P prims t (v :: vs) (.call { callee := .builtin .len, args := #[x], argTypes := #[ty] }) h K = optW (aLen P h ty (evalE (v :: vs) x)) h K := by
  show optR (aOp P _ _ h) K = _
  unfold aOp aPure aHeap
  simp only
  show optR ((aLen P h ty (evalE (v :: vs) x)).map fun v => (v, h)) K = _
  rw [optR_mapv]
theorem op_append (s x : Operand) (ty ty' : TypeId) : opW P prims t (v :: vs) (.call { callee := .builtin .append, args := #[s, x], argTypes := #[ty, ty'] }) h K =
    optR ((aNews P h #[ty, ty'] (evalE (v :: vs) x)).bind fun r => aAppend P h ty (evalE (v :: vs) s) r.1 r.2.1 r.2.2) K := by
  show optR (aOp P _ _ h) K = _
  unfold aOp aPure aHeap
  simp only
  simp
def optT (r : Option AHeap) (K : VQ) : Prop := ∃ h, r = some h ∧ K (.tuple #[]) h
theorem optT_some (h : AHeap) (K : VQ) : optT (some h) K = K (.tuple #[]) h := by simp [optT]
theorem op_max (args : Array Operand) (tys : Array TypeId) : opW P prims t (v :: vs) (.call { callee := .builtin .max, args := args, argTypes := tys }) h K =
    optW (match args.toList.map (evalE (v :: vs)) with | x :: l => aFold aMax x l | [] => none) h K := by
  show optR (aOp P _ _ h) K = _
  unfold aOp aPure aHeap
  simp only [Array.toList_map]
  cases args.toList.map (evalE (v :: vs)) with
  | nil => simp [optR, optW]
  | cons x l => simp only; cases aFold aMax x l <;> simp [optR, optW]
theorem op_min (args : Array Operand) (tys : Array TypeId) : opW P prims t (v :: vs) (.call { callee := .builtin .min, args := args, argTypes := tys }) h K =
    optW (match args.toList.map (evalE (v :: vs)) with | x :: l => aFold aMin x l | [] => none) h K := by
  show optR (aOp P _ _ h) K = _
  unfold aOp aPure aHeap
  simp only [Array.toList_map]
  cases args.toList.map (evalE (v :: vs)) with
  | nil => simp [optR, optW]
  | cons x l => simp only; cases aFold aMin x l <;> simp [optR, optW]
theorem op_max2 (x y : Operand) (tys : Array TypeId) : opW P prims t (v :: vs) (.call { callee := .builtin .max, args := #[x, y], argTypes := tys }) h K = optW (aMax (evalE (v :: vs) x) (evalE (v :: vs) y)) h K := by
  rw [op_max]
  simp only [List.map_cons, List.map_nil, aFold]
  cases aMax (evalE (v :: vs) x) (evalE (v :: vs) y) <;> rfl
theorem op_min2 (x y : Operand) (tys : Array TypeId) : opW P prims t (v :: vs) (.call { callee := .builtin .min, args := #[x, y], argTypes := tys }) h K = optW (aMin (evalE (v :: vs) x) (evalE (v :: vs) y)) h K := by
  rw [op_min]
  simp only [List.map_cons, List.map_nil, aFold]
  cases aMin (evalE (v :: vs) x) (evalE (v :: vs) y) <;> rfl
theorem aMax_int (k k' : IntKind) (a b : Int) : aMax (.int k a) (.int k' b) = some (.int k (max a b)) := by
  unfold aMax; simp only; congr 2; omega
theorem aMin_int (k k' : IntKind) (a b : Int) : aMin (.int k a) (.int k' b) = some (.int k (min a b)) := by
  unfold aMin; simp only; congr 2; omega
end

end Go.AM
