/- AM: an abstract machine for the model's code: what it is. A deterministic interpreter of 'Code' over an abstract heap. -/
import Derived.RangeFuncLeaves
import Derived.OrdersIn
import Derived.OwnWalkIn
set_option linter.unusedSimpArgs false
set_option linter.unusedVariables false
namespace Go.AM

/-- A table from numbers to things: a binary tree by the numbers' bits. -/
inductive Tab (α : Type) where
  | leaf
  | node (v : Option α) (l r : Tab α)

def Tab.get {α : Type} : Tab α → Nat → Option α
  | .leaf, _ => none
  | .node v _ _, 0 => v
  | .node _ l r, k + 1 => if k % 2 = 0 then l.get (k / 2) else r.get (k / 2)

def Tab.setF {α : Type} : Nat → Tab α → Nat → Option α → Tab α
  | 0, t, _, _ => t
  | _ + 1, .leaf, 0, v => .node v .leaf .leaf
  | _ + 1, .node _ l r, 0, v => .node v l r
  | f + 1, .leaf, k + 1, v => if k % 2 = 0 then .node none (Tab.setF f .leaf (k / 2) v) .leaf else .node none .leaf (Tab.setF f .leaf (k / 2) v)
  | f + 1, .node w l r, k + 1, v => if k % 2 = 0 then .node w (Tab.setF f l (k / 2) v) r else .node w l (Tab.setF f r (k / 2) v)

def Tab.set {α : Type} (t : Tab α) (k : Nat) (v : Option α) : Tab α := Tab.setF (k + 1) t k v

theorem Tab.get_setF {α : Type} : ∀ (f : Nat) (t : Tab α) (k : Nat) (v : Option α) (j : Nat), k < f → (Tab.setF f t k v).get j = if j = k then v else t.get j := by
  intro f
  induction f with
  | zero => intro t k v j h; omega
  | succ f ih =>
    intro t k v j h
    cases t with
    | leaf =>
      cases k with
      | zero => cases j <;> simp [Tab.setF, Tab.get]
      | succ k =>
        simp only [Tab.setF]
        split
        · cases j with
          | zero => simp [Tab.get]
          | succ j =>
            simp only [Tab.get]
            split
            · rw [ih _ _ _ _ (by omega)]; simp only [Tab.get]
              by_cases e : j = k
              · subst e; simp
              · rw [if_neg (by omega), if_neg (by omega)]
            · rw [if_neg (by omega)]
        · cases j with
          | zero => simp [Tab.get]
          | succ j =>
            simp only [Tab.get]
            split
            · rw [if_neg (by omega)]
            · rw [ih _ _ _ _ (by omega)]; simp only [Tab.get]
              by_cases e : j = k
              · subst e; simp
              · rw [if_neg (by omega), if_neg (by omega)]
    | node w l r =>
      cases k with
      | zero => cases j <;> simp [Tab.setF, Tab.get]
      | succ k =>
        simp only [Tab.setF]
        split
        · cases j with
          | zero => simp [Tab.get]
          | succ j =>
            simp only [Tab.get]
            split
            · rw [ih _ _ _ _ (by omega)]
              by_cases e : j = k
              · subst e; simp
              · rw [if_neg (by omega), if_neg (by omega)]
            · rw [if_neg (by omega)]
        · cases j with
          | zero => simp [Tab.get]
          | succ j =>
            simp only [Tab.get]
            split
            · rw [if_neg (by omega)]
            · rw [ih _ _ _ _ (by omega)]
              by_cases e : j = k
              · subst e; simp
              · rw [if_neg (by omega), if_neg (by omega)]

theorem Tab.get_set {α : Type} (t : Tab α) (k : Nat) (v : Option α) (j : Nat) : (t.set k v).get j = if j = k then v else t.get j := Tab.get_setF _ _ _ _ _ (by omega)

/-- A loop over a function, as the machine keeps it. -/
structure ALoop where
  state : LoopState
  pending : Option Code
  tmps : List Value
  params : Array Tmp
  assign : Code
  body : Code

/-- An abstract object: cells (open: nobody knows how much room is behind them), a map's entries, a loop's record. -/
inductive AObj where
  | cells (c : List Value) (elem : TypeId) (opn : Bool)
  | map (es : List (Value × Value))
  | loop (r : ALoop)

structure AHeap where
  tab : Tab AObj
  next : Nat
  low : Nat

def AHeap.get (h : AHeap) (id : Nat) : Option AObj := if id < h.next then h.tab.get id else none
def AHeap.put (h : AHeap) (id : Nat) (o : Option AObj) : AHeap := { h with tab := h.tab.set id o }
def AHeap.alloc (h : AHeap) (o : AObj) : AHeap := { h with tab := h.tab.set h.next (some o), next := h.next + 1 }

theorem AHeap.get_put (h : AHeap) (id : Nat) (o : Option AObj) (hid : id < h.next) (j : Nat) : (h.put id o).get j = if j = id then o else h.get j := by
  unfold AHeap.get AHeap.put
  simp only [Tab.get_set]
  by_cases e : j = id
  · subst e; simp [hid]
  · simp [e]
theorem AHeap.get_alloc (h : AHeap) (o : AObj) (j : Nat) : (h.alloc o).get j = if j = h.next then some o else h.get j := by
  unfold AHeap.get AHeap.alloc
  simp only [Tab.get_set]
  by_cases e : j = h.next
  · subst e; simp
  · simp only [e, if_false]
    by_cases h1 : j < h.next
    · rw [if_pos h1, if_pos (by omega)]
    · rw [if_neg h1, if_neg (by omega)]
theorem AHeap.get_ge (h : AHeap) (id : Nat) (hid : h.next ≤ id) : h.get id = none := by unfold AHeap.get; rw [if_neg (by omega)]
@[simp] theorem AHeap.next_put (h : AHeap) (id : Nat) (o : Option AObj) : (h.put id o).next = h.next := rfl
@[simp] theorem AHeap.low_put (h : AHeap) (id : Nat) (o : Option AObj) : (h.put id o).low = h.low := rfl
@[simp] theorem AHeap.next_alloc (h : AHeap) (o : AObj) : (h.alloc o).next = h.next + 1 := rfl
@[simp] theorem AHeap.low_alloc (h : AHeap) (o : AObj) : (h.alloc o).low = h.low := rfl

abbrev Env := List Value
abbrev R (α : Type) := Option (α × AHeap)

def ptrTo (id off : Nat) : Value := .pointer (some ⟨id, off, none⟩)
def sliceTo (id off len cap : Nat) : Value := .slice (some ⟨id, off, none⟩) len cap

/-! ### What needs no heap -/

/-- A bound of our own on what is made at once: bytes. -/
def roomy : Nat := 2 ^ 40

/-- A value of one cell that names no object. -/
def plainV : Value → Bool
  | .bool _ | .int .. | .float .. | .string _ | .pointer none | .slice none 0 0 | .map none | .nilFunc | .nilIface => true
  | _ => false
/-- A value that names no object: a plain one, or cells of these. -/
def closedV : Value → Bool
  | .agg cs => cs.toList.all plainV
  | v => plainV v

def aZero (P : Program) (t : TypeId) : Option Value := (P.info? t).bind (·.zero)
def aIsAgg (P : Program) (t : TypeId) : Bool := match P.underlying t with | some (.struct _) | some (.array _ _) => true | _ => false

def aPart (P : Program) (t : TypeId) (cs : Array Value) (off : Nat) : Option Value :=
  (P.underlying t).bind fun _ => (P.info? t).bind fun i =>
    if aIsAgg P t then (if off + i.size ≤ cs.size then some (.agg (cs.extract off (off + i.size))) else none) else cs[off]?

/-- Two structs of plain fields: are they equal? -/
def aEqFields (P : Program) (xs ys : Array Value) : List Field → Option Bool
  | [] => some true
  | f :: fs =>
    if f.name ≠ "_" then
      match P.underlying f.type, xs[f.offset]?, ys[f.offset]? with
      | some (.int _), some (.int k a), some (.int k' b) => if k = k' then (if a == b then aEqFields P xs ys fs else some false) else none
      | some .bool, some (.bool a), some (.bool b) => if a == b then aEqFields P xs ys fs else some false
      | some .string, some (.string a), some (.string b) => if a.toList == b.toList then aEqFields P xs ys fs else some false
      | _, _, _ => none
    else aEqFields P xs ys fs

def aEqStruct (P : Program) (t : TypeId) (xs ys : Array Value) : Option Bool :=
  match P.underlying t with
  | some (.struct fs) => if P.stoodInHeld t || P.eqGuardType P.depth t then none else aEqFields P xs ys fs.toList
  | _ => none

def aBin (P : Program) (op : BinOp) (t : TypeId) (x y : Value) : Option Value :=
  match x, y with
  | .int k a, .int k' b =>
    match op with
    | .shl => if b < 0 then none else some (.int k (k.wrap (a * 2 ^ (min b.toNat k.bits))))
    | .shr => if b < 0 then none else some (.int k (a.fdiv (2 ^ (min b.toNat k.bits))))
    | _ =>
      if k ≠ k' then none else
      match op with
      | .add => some (.int k (k.wrap (a + b)))
      | .sub => some (.int k (k.wrap (a - b)))
      | .mul => some (.int k (k.wrap (a * b)))
      | .quo => if b = 0 then none else some (.int k (k.wrap (a.tdiv b)))
      | .rem => if b = 0 then none else some (.int k (a.tmod b))
      | .and => some (.int k (k.wrap (BitVec.ofInt k.bits a &&& BitVec.ofInt k.bits b).toNat))
      | .or => some (.int k (k.wrap (BitVec.ofInt k.bits a ||| BitVec.ofInt k.bits b).toNat))
      | .xor => some (.int k (k.wrap (BitVec.ofInt k.bits a ^^^ BitVec.ofInt k.bits b).toNat))
      | .eql => some (.bool (a == b))
      | .neq => some (.bool (a != b))
      | .lss => some (.bool (a < b))
      | .leq => some (.bool (a ≤ b))
      | .gtr => some (.bool (a > b))
      | .geq => some (.bool (a ≥ b))
      | _ => none
  | .string a, .string b =>
    match op with
    | .add => if a.size + b.size ≤ roomy then some (.string (a ++ b)) else none
    | .eql => some (.bool (a.toList == b.toList))
    | .neq => some (.bool !(a.toList == b.toList))
    | .lss => some (.bool (Op.bytesLess a.toList b.toList))
    | .gtr => some (.bool !(Op.bytesLess a.toList b.toList || a.toList == b.toList))
    | .leq => some (.bool (Op.bytesLess a.toList b.toList || a.toList == b.toList))
    | .geq => some (.bool !(Op.bytesLess a.toList b.toList))
    | _ => none
  | .bool a, .bool b =>
    match P.underlying t, op with
    | some .bool, .eql => some (.bool (a == b))
    | some .bool, .neq => some (.bool !(a == b))
    | _, _ => none
  | .pointer a, .pointer none | .pointer none, .pointer a =>
    match P.underlying t, op with
    | some (.pointer _), .eql => some (.bool a.isNone)
    | some (.pointer _), .neq => some (.bool !a.isNone)
    | _, _ => none
  | .slice a _ _, .slice none _ _ | .slice none _ _, .slice a _ _ =>
    match P.underlying t, op with
    | some (.slice _), .eql => some (.bool a.isNone)
    | some (.slice _), .neq => some (.bool !a.isNone)
    | _, _ => none
  | .map a, .map none | .map none, .map a =>
    match P.underlying t, op with
    | some (.map _ _), .eql => some (.bool a.isNone)
    | some (.map _ _), .neq => some (.bool !a.isNone)
    | _, _ => none
  | .agg a, .agg b =>
    match op with
    | .eql => (aEqStruct P t a b).map .bool
    | .neq => (aEqStruct P t a b).map fun r => .bool !r
    | _ => none
  | _, _ => none

def aUn (op : UnOp) (x : Value) : Option Value :=
  match op, x with
  | .neg, .int k n => some (.int k (k.wrap (0 - n)))
  | .not, .bool b => some (.bool !b)
  | _, _ => none

def aConvert (P : Program) (src dst : TypeId) (x : Value) : Option Value :=
  match P.underlying src, P.underlying dst, x with
  | some _, some (.int k), .int _ n => some (.int k (k.wrap n))
  | some _, some .string, .string s => some (.string s)
  | _, _, _ => none

def fillA (place : Nat → Option (Nat × Nat)) (cells : List Value) : List (Nat × Value) → Option (List Value)
  | [] => some cells
  | (i, v) :: rest =>
    match place i with
    | none => none
    | some (off, size) =>
      if v.cells.size ≠ size || off + v.cells.size > cells.length then none
      else fillA place (v.cells.toList.zipIdx.foldl (fun cs (c, j) => cs.set (off + j) c) cells) rest

def placesA (P : Program) (fs : List Field) : Option (List (Nat × Nat)) :=
  match fs with
  | [] => some []
  | f :: fs => (P.info? f.type).bind fun i => (placesA P fs).map ((f.offset, i.size) :: ·)

def aBuild (P : Program) (t : TypeId) (parts : List (Nat × Value)) : Option Value :=
  (aZero P t).bind fun z => if z.cells.toList.all plainV = false then none else
  match P.underlying t with
  | some (.struct fields) => (placesA P fields.toList).bind fun places => (fillA (places[·]?) z.cells.toList parts).map fun cs => .agg cs.toArray
  | some (.array _ elem) => (P.info? elem).bind fun i => (fillA (fun k => some (k * i.size, i.size)) z.cells.toList parts).map fun cs => .agg cs.toArray
  | _ => none

def repeated (z : List Value) : Nat → List Value
  | 0 => []
  | n + 1 => z ++ repeated z n

def aSliceBound (x : Value) (y : Nat) : Option Nat :=
  match x with
  | .int _ i => if 0 ≤ i ∧ i ≤ y then some i.toNat else none
  | _ => none

def aSliceBounds (len cap : Nat) (low high max : Option Value) : Option (Nat × Nat × Nat) :=
  (match max with | some v => aSliceBound v cap | none => some cap).bind fun m =>
  (match high, max with | some v, some _ => aSliceBound v m | some v, none => aSliceBound v m | none, none => some len | none, some _ => none).bind fun h =>
  (match low with | some v => aSliceBound v h | none => some 0).bind fun l => some (l, h, m)

def aSlice (P : Program) (t : TypeId) (x : Value) (low high max : Option Value) : Option Value :=
  match P.underlying t, x with
  | some .string, .string s =>
    if max.isSome then none else
    (aSliceBounds s.size s.size low high none).map fun (l, h, _) => .string (s.extract l h)
  | some (.slice elem), .slice a len cap =>
    (P.info? elem).bind fun i =>
    (aSliceBounds len cap low high max).bind fun (l, h, m) =>
      match a with
      | none => if m = 0 then some (.slice none 0 0) else none
      | some ⟨id, off, none⟩ => some (.slice (some ⟨id, off + l * i.size, none⟩) (h - l) (m - l))
      | _ => none
  | _, _ => none

def aFieldAddr (P : Program) (s : TypeId) (x : Value) (f : Nat) : Option Value :=
  match P.underlying s, x with
  | some (.struct fields), .pointer (some ⟨id, off, none⟩) =>
    (fields[f]?).bind fun fd => (P.info? fd.type).bind fun i => if i.size = 0 then none else some (.pointer (some ⟨id, off + fd.offset, none⟩))
  | _, _ => none

def aIndexAddr (P : Program) (t : TypeId) (x ix : Value) : Option Value :=
  match ix with
  | .int _ i =>
    match P.underlying t, x with
    | some (.slice elem), .slice (some ⟨id, off, none⟩) len cap =>
      (P.info? elem).bind fun inf => if 0 ≤ i ∧ i < len ∧ cap ≠ 0 then some (.pointer (some ⟨id, off + i.toNat * inf.size, none⟩)) else none
    | some (.array len elem), .pointer (some ⟨id, off, none⟩) =>
      (P.info? elem).bind fun inf => if 0 ≤ i ∧ i < len then some (.pointer (some ⟨id, off + i.toNat * inf.size, none⟩)) else none
    | _, _ => none
  | _ => none

def aField (P : Program) (t : TypeId) (x : Value) (f : Nat) : Option Value :=
  match P.underlying t, x with
  | some (.struct fields), .agg cs => (fields[f]?).bind fun fd => aPart P fd.type cs fd.offset
  | _, _ => none

def aIndex (P : Program) (t : TypeId) (x ix : Value) : Option Value :=
  match ix with
  | .int _ i =>
    match P.underlying t, x with
    | some (.array len elem), .agg cs => (P.info? elem).bind fun inf => if 0 ≤ i ∧ i < len then aPart P elem cs (i.toNat * inf.size) else none
    | some .string, .string s => if 0 ≤ i then (s[i.toNat]?).map fun b => .int .u8 b.toNat else none
    | _, _ => none
  | _ => none

def aExtract (x : Value) (i : Nat) : Option Value :=
  match x with
  | .tuple vs => vs[i]?
  | _ => none

def aMin (x y : Value) : Option Value :=
  match x, y with
  | .int k a, .int _ b => some (.int k (if b < a then b else a))
  | _, _ => none
def aMax (x y : Value) : Option Value :=
  match x, y with
  | .int k a, .int _ b => some (.int k (if b > a then b else a))
  | _, _ => none
def aFold (f : Value → Value → Option Value) : Value → List Value → Option Value
  | x, [] => some x
  | x, y :: l => (f x y).bind fun z => aFold f z l

/-- Operations that look at no memory: the value, and, if one is made, the new object (its number is 'next'). -/
def aPure (P : Program) (ρ : Operand → Value) (op : Op) (next : Nat) : Option (Value × Option AObj) :=
  match op with
  | .move x | .assign x => some (ρ x, none)
  | .pick c a b => match ρ c with | .bool t => some (if t then ρ a else ρ b, none) | _ => none
  | .alloc e => (aZero P e).bind fun z => if z.cells.toList.all plainV = true then some (ptrTo next 0, some (.cells z.cells.toList e false)) else none
  | .box e x => if (ρ x).cells.toList.all (·.oneCell') = true then some (ptrTo next 0, some (.cells (ρ x).cells.toList e false)) else none
  | .build t parts => (aBuild P t (parts.toList.map fun (i, x) => (i, ρ x))).map fun v => (v, none)
  | .buildSlice t len parts =>
    match P.underlying t with
    | some (.slice e) =>
      (P.info? e).bind fun i => if len * i.size > 2 ^ 20 ∨ i.size = 0 then none else (if len = 0 then some (Value.bool true) else i.zero).bind fun z =>
        if len ≠ 0 ∧ (z.cells.size ≠ i.size ∨ z.cells.toList.all plainV = false) then none else
        (fillA (fun k => some (k * i.size, i.size)) (repeated z.cells.toList len) (parts.toList.map fun (j, x) => (j, ρ x))).bind fun cs =>
          if cs.all (·.oneCell') = true then some (sliceTo next 0 len len, some (.cells cs e false)) else none
    | _ => none
  | .nilCheck x => match ρ x with | .pointer (some a) => some (.pointer (some a), none) | _ => none
  | .binOp op t x y _ => (aBin P op t (ρ x) (ρ y)).map fun v => (v, none)
  | .unOp op _ x => (aUn op (ρ x)).map fun v => (v, none)
  | .convert s d x => (aConvert P s d (ρ x)).map fun v => (v, none)
  | .makeFunc fn first cap => match fn with | .func f => some (.func (.func f) (first.map ρ) (cap.map ρ), none) | _ => none
  | .makeMap t r =>
    match r with
    | none => some (.map (some next), some (.map []))
    | some x => match P.underlying t, ρ x with | some (.map _ _), .int _ _ => some (.map (some next), some (.map [])) | _, _ => none
  | .makeSlice t l c =>
    match P.underlying t, ρ l, ρ c with
    | some (.slice e), .int _ l, .int _ c =>
      (P.info? e).bind fun i => if 0 ≤ l ∧ l ≤ c ∧ c ≤ roomy ∧ c.toNat * i.bytes ≤ roomy ∧ 0 < i.size then
        (i.zero).bind fun z => if z.cells.size ≠ i.size ∨ z.cells.toList.all plainV = false then none else some (sliceTo next 0 l.toNat c.toNat, some (.cells (repeated z.cells.toList c.toNat) e false)) else none
    | _, _, _ => none
  | .fieldAddr s x f => (aFieldAddr P s (ρ x) f).map fun v => (v, none)
  | .field t x f => (aField P t (ρ x) f).map fun v => (v, none)
  | .indexAddr t x ix => (aIndexAddr P t (ρ x) (ρ ix)).map fun v => (v, none)
  | .index t x ix => (aIndex P t (ρ x) (ρ ix)).map fun v => (v, none)
  | .extract x i => (aExtract (ρ x) i).map fun v => (v, none)
  | .makeInterface t x => match P.underlying t with | some (.interface _) => none | some _ => some (.iface t (ρ x), none) | none => none
  | .call { callee := .builtin .max, args, .. } => match (args.map ρ).toList with | x :: l => (aFold aMax x l).map fun v => (v, none) | [] => none
  | .call { callee := .builtin .min, args, .. } => match (args.map ρ).toList with | x :: l => (aFold aMin x l).map fun v => (v, none) | [] => none
  | _ => none

/-! ### What looks at the heap -/

def aLoad (P : Program) (h : AHeap) (t : TypeId) (x : Value) : Option Value :=
  match x with
  | .pointer (some ⟨id, off, none⟩) =>
    match h.get id with
    | some (.cells c _ _) =>
      (P.underlying t).bind fun _ => (P.info? t).bind fun i =>
      if aIsAgg P t then (if off + i.size ≤ c.length then some (.agg ((c.drop off).take i.size).toArray) else none) else c[off]?
    | _ => none
  | _ => none

def setRow (c : List Value) (off : Nat) : List Value → List Value
  | [] => c
  | v :: vs => setRow (c.set off v) (off + 1) vs

def aStore (P : Program) (h : AHeap) (t : TypeId) (x v : Value) : Option AHeap :=
  match x with
  | .pointer (some ⟨id, off, none⟩) =>
    match h.get id with
    | some (.cells c e o) =>
      (P.info? t).bind fun i =>
      if h.low ≤ id ∧ v.cells.size = i.size ∧ off + i.size ≤ c.length ∧ v.cells.toList.all (·.oneCell') = true then some (h.put id (some (.cells (setRow c off v.cells.toList) e o))) else none
    | _ => none
  | _ => none

/-- Keys that are plain. -/
def aKeyEq : Value → Value → Option Bool
  | .int k a, .int k' b => if k = k' then some (a == b) else none
  | .string a, .string b => some (a == b)
  | _, _ => none

def aFind (k : Value) : List (Value × Value) → Nat → Option (Option (Nat × Value))
  | [], _ => some none
  | (k', v) :: es, i =>
    match aKeyEq k k' with
    | some true => some (some (i, v))
    | some false => aFind k es (i + 1)
    | none => none

/-- Is the kind of a map's keys plain, and a key of it? -/
def aKeyOk (P : Program) (kt : TypeId) (k : Value) : Bool :=
  match P.underlying kt, k with
  | some (.int q), .int q' _ => q == q'
  | some .string, .string _ => true
  | _, _ => false

def aEntries (h : AHeap) : Value → Option (List (Value × Value))
  | .map none => some []
  | .map (some id) => match h.get id with | some (.map es) => some es | _ => none
  | _ => none

def aLookup (P : Program) (h : AHeap) (t : TypeId) (m k : Value) (ok : Bool) : Option Value :=
  match P.underlying t with
  | some (.map kt et) =>
    if !aKeyOk P kt k then none else
    (aEntries h m).bind fun es =>
    (aFind k es 0).bind fun r =>
    match r with
    | some (_, v) => some (if ok then .tuple #[v, .bool true] else v)
    | none => (aZero P et).bind fun z => if closedV z then some (if ok then .tuple #[z, .bool false] else z) else none
  | _ => none

def aMapUpdate (P : Program) (h : AHeap) (t : TypeId) (m k v : Value) : Option AHeap :=
  match P.underlying t, m with
  | some (.map kt _), .map (some id) =>
    match h.get id with
    | some (.map es) =>
      if !aKeyOk P kt k || id < h.low then none else
      (aFind k es 0).bind fun r =>
      match r with
      | some (i, _) => some (h.put id (some (.map (es.set i (k, v)))))
      | none => some (h.put id (some (.map (es ++ [(k, v)]))))
    | _ => none
  | _, _ => none

def aLen (P : Program) (h : AHeap) (t : TypeId) (x : Value) : Option Value :=
  match P.underlying t, x with
  | some .string, .string s => some (.int .i64 s.size)
  | some (.array n _), _ => some (.int .i64 n)
  | some (.slice _), .slice _ n _ => some (.int .i64 n)
  | some (.map _ _), .map none => some (.int .i64 0)
  | some (.map _ _), .map (some id) => match h.get id with | some (.map es) => some (.int .i64 es.length) | _ => none
  | _, _ => none

def aCap (P : Program) (h : AHeap) (t : TypeId) (x : Value) : Option Value :=
  match P.underlying t, x with
  | some (.slice _), .slice none _ n => some (.int .i64 n)
  | some (.slice _), .slice (some ⟨id, off, none⟩) _ n =>
    match h.get id with
    | some (.cells c e o) => (P.info? e).bind fun i => if o && off + n * i.size == c.length then none else some (.int .i64 n)
    | _ => none
  | _, _ => none

/-- The first n elements' cells of a slice or a string. -/
def aFirst (h : AHeap) (size n : Nat) (x : Value) : Option (List Value) :=
  match x with
  | .slice (some ⟨id, off, none⟩) _ _ =>
    match h.get id with
    | some (.cells c _ _) => if off + n * size ≤ c.length then some ((c.drop off).take (n * size)) else none
    | _ => none
  | .slice none _ _ => some []
  | .string s => some ((s.data.toList.take n).map fun b => .int .u8 b.toNat)
  | _ => none

def aLenOf : Value → Option Nat
  | .slice _ n _ => some n
  | .string s => some s.size
  | _ => none

def aAppend (P : Program) (h : AHeap) (st : TypeId) (s : Value) (new : List Value) (n : Nat) (zs : Bool) : R Value :=
  match P.underlying st, s with
  | some (.slice e), .slice base len cap =>
    (P.info? e).bind fun i =>
    if i.size = 0 ∨ new.length ≠ n * i.size ∨ (len + n) * (i.bytes + 1) > roomy ∨ (len + n) > roomy ∨ new.all (·.oneCell') = false then none else
    if len + n ≤ cap then
      if n = 0 then some (s, h) else
      if zs then none else
      match base with
      | some ⟨id, off, none⟩ =>
        match h.get id with
        | some (.cells c e' o) =>
          if h.low ≤ id ∧ e' = e ∧ off + (len + n) * i.size ≤ c.length then
            some (.slice base (len + n) cap, h.put id (some (.cells (setRow c (off + len * i.size) new) e o)))
          else none
        | _ => none
      | _ => none
    else
      i.zero.bind fun z => if z.cells.size ≠ i.size ∨ z.cells.toList.all plainV = false then none else
      match base with
      | none => if len = 0 ∧ cap = 0 then some (sliceTo h.next 0 n n, h.alloc (.cells new e true)) else none
      | some ⟨id, off, none⟩ =>
        match h.get id with
        | some (.cells c e' o) =>
          if e' = e ∧ off + len * i.size ≤ c.length then
            let fresh : AObj := .cells ((c.drop off).take (len * i.size) ++ new) e true
            if o = true ∧ off + cap * i.size = c.length then
              -- nobody knows whether there is room behind it: the old object is given up
              if h.low ≤ id ∧ zs = false then some (sliceTo h.next 0 (len + n) (len + n), (h.put id none).alloc fresh) else none
            else some (sliceTo h.next 0 (len + n) (len + n), h.alloc fresh)
          else none
        | _ => none
      | _ => none
  | _, _ => none

def aCopy (P : Program) (h : AHeap) (dt : TypeId) (dst src : Value) : R Value :=
  match P.underlying dt, dst with
  | some (.slice e), .slice base dlen _ =>
    (P.info? e).bind fun i => (aLenOf src).bind fun sl =>
    let n := Nat.min sl dlen
    if n = 0 then some (.int .i64 0, h) else
    (aFirst h i.size n src).bind fun cs =>
    match base with
    | some ⟨id, off, none⟩ =>
      match h.get id with
      | some (.cells c e' o) =>
        if h.low ≤ id ∧ e' = e ∧ off + n * i.size ≤ c.length ∧ cs.length = n * i.size ∧ cs.all (·.oneCell') = true ∧ 0 < i.size then some (.int .i64 n, h.put id (some (.cells (setRow c off cs) e o))) else none
      | _ => none
    | _ => none
  | _, _ => none

def aDelete (P : Program) (h : AHeap) (t : TypeId) (m k : Value) : Option AHeap :=
  match P.underlying t, m with
  | some (.map kt _), .map (some id) =>
    match h.get id with
    | some (.map es) =>
      if !aKeyOk P kt k || id < h.low then none else
      (aFind k es 0).bind fun r =>
      match r with
      | some (i, _) => some (h.put id (some (.map (es.eraseIdx i))))
      | none => some h
    | _ => none
  | some (.map kt _), .map none => if aKeyOk P kt k then some h else none
  | _, _ => none

def aClear (P : Program) (h : AHeap) (t : TypeId) (x : Value) : Option AHeap :=
  match P.underlying t, x with
  | some (.map _ _), .map none => some h
  | some (.map _ _), .map (some id) =>
    match h.get id with
    | some (.map _) => if h.low ≤ id then some (h.put id (some (.map []))) else none
    | _ => none
  | some (.slice e), .slice base n _ =>
    if n = 0 then some h else
    match base with
    | some ⟨id, off, none⟩ =>
      match h.get id with
      | some (.cells c e' o) =>
        (P.info? e).bind fun i => i.zero.bind fun z =>
        if h.low ≤ id ∧ e' = e ∧ off + n * i.size ≤ c.length ∧ z.cells.size = i.size ∧ 0 < i.size ∧ z.cells.toList.all plainV = true then
          some (h.put id (some (.cells (setRow c off (repeated z.cells.toList n)) e o))) else none
      | _ => none
    | _ => none
  | _, _ => none

/-- What 'append' adds: the cells, how many elements. 'append(s, make(T, n)...)' is called with n. -/
def aNews (P : Program) (h : AHeap) (argTypes : Array TypeId) (x : Value) : Option (List Value × Nat × Bool) :=
  (argTypes[0]?).bind fun st => match P.underlying st with
  | some (.slice e) => (P.info? e).bind fun i =>
    match (argTypes[1]?).bind P.underlying with
    | some (.int _) =>
      match x with
      | .int _ l => if 0 ≤ l ∧ l ≤ roomy ∧ l.toNat * (i.bytes + 1) ≤ roomy ∧ i.size ≠ 0 then i.zero.bind fun z => if z.cells.size = i.size ∧ z.cells.toList.all plainV = true then some (repeated z.cells.toList l.toNat, l.toNat, true) else none else none
      | _ => none
    | some (.slice _) | some .string => (aLenOf x).bind fun n => if i.size = 0 then none else (aFirst h i.size n x).bind fun cs => if cs.all (·.oneCell') = true ∧ cs.length = n * i.size then some (cs, n, false) else none
    | _ => none
  | _ => none

/-- Slicing, the element's type held against the object's. -/
def aSliceH (P : Program) (h : AHeap) (t : TypeId) (x : Value) (low high max : Option Value) : Option Value :=
  match x with
  | .slice (some ⟨id, _, none⟩) _ _ =>
    match P.underlying t, h.get id with
    | some (.slice e), some (.cells _ e' _) => if e' = e then aSlice P t x low high max else none
    | _, _ => none
  | _ => aSlice P t x low high max

/-- Bytes as a string. -/
def aBytes : List Value → ByteArray → Option ByteArray
  | [], s => some s
  | .int .u8 n :: l, s => aBytes l (s.push (UInt8.ofNat n.toNat))
  | _ :: _, _ => none
def aConvStr (P : Program) (h : AHeap) (src dst : TypeId) (x : Value) : Option Value :=
  match P.underlying src, P.underlying dst, x with
  | some (.slice e), some .string, .slice _ len _ =>
    match P.underlying e with
    | some (.int .u8) => (aFirst h 1 len x).bind fun cs => (aBytes cs ByteArray.empty).map .string
    | _ => none
  | _, _, _ => none

/-- A string's bytes in memory of their own. -/
def aNewStr (P : Program) (h : AHeap) (src dst : TypeId) (x : Value) : R Value :=
  match P.underlying src, P.underlying dst, x with
  | some .string, some (.slice e), .string s =>
    match P.underlying e, P.info? e with
    | some (.int .u8), some i => if i.size = 1 ∧ 0 < s.size ∧ s.size ≤ roomy then some (sliceTo h.next 0 s.size s.size, h.alloc (.cells (s.data.toList.map fun b => .int .u8 b.toNat) e true)) else none
    | _, _ => none
  | _, _, _ => none
/-- Does an operation turn a string into bytes? -/
def isNewO (P : Program) : Op → Bool
  | .convert s d _ => (match P.underlying s, P.underlying d with | some .string, some (.slice _) => true | _, _ => false)
  | _ => false

/-- Operations that look at the heap. -/
def aHeap (P : Program) (ρ : Operand → Value) (op : Op) (h : AHeap) : R Value :=
  match op with
  | .load t a => (aLoad P h t (ρ a)).map fun v => (v, h)
  | .slice t x lo hi mx => (aSliceH P h t (ρ x) (lo.map ρ) (hi.map ρ) (mx.map ρ)).map fun v => (v, h)
  | .store t a x => (aStore P h t (ρ a) (ρ x)).map fun h' => (undef, h')
  | .lookup t x k ok => (aLookup P h t (ρ x) (ρ k) ok).map fun v => (v, h)
  | .convert s d x => (aConvStr P h s d (ρ x)).map fun v => (v, h)
  | .mapUpdate t m k x => (aMapUpdate P h t (ρ m) (ρ k) (ρ x)).map fun h' => (undef, h')
  | .insert t m k x => (aMapUpdate P h t (ρ m) (ρ k) (ρ x)).map fun h' => (undef, h')
  | .call { callee := .builtin b, args, argTypes } =>
    match b with
    | .len => (argTypes[0]?).bind fun t => (args[0]?).bind fun x => (aLen P h t (ρ x)).map fun v => (v, h)
    | .cap => (argTypes[0]?).bind fun t => (args[0]?).bind fun x => (aCap P h t (ρ x)).map fun v => (v, h)
    | .append => if args.size ≠ 2 ∨ argTypes.size ≠ 2 then none else (argTypes[0]?).bind fun t => (args[0]?).bind fun s => (args[1]?).bind fun x => (aNews P h argTypes (ρ x)).bind fun (cs, n, z) => aAppend P h t (ρ s) cs n z
    | .copy => (argTypes[0]?).bind fun t => (args[0]?).bind fun d => (args[1]?).bind fun s => aCopy P h t (ρ d) (ρ s)
    | .delete => (argTypes[0]?).bind fun t => (args[0]?).bind fun m => (args[1]?).bind fun k => (aDelete P h t (ρ m) (ρ k)).map fun h' => (.tuple #[], h')
    | .clear => (argTypes[0]?).bind fun t => (args[0]?).bind fun m => (aClear P h t (ρ m)).map fun h' => (.tuple #[], h')
    | _ => none
  | _ => none

/-- An operation that is no call of Go code. -/
def aOp (P : Program) (ρ : Operand → Value) (op : Op) (h : AHeap) : R Value :=
  match aPure P ρ op h.next with
  | some (v, none) => some (v, h)
  | some (v, some o) => some (v, h.alloc o)
  | none => aHeap P ρ op h

end Go.AM
