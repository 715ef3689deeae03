/- AM: how an abstract value, object, heap stands for a value, block, world of the model. -/
import Derived.Test.YtgdcbjpookldoaaDoorAMExec
import Derived.MapKept
set_option linter.unusedSimpArgs false
set_option linter.unusedVariables false
namespace Go.AM

structure Loc where
  blk : Nat
  base : Nat
  size : Nat
  csize : Nat
  esize : Nat
  opn : Bool
  ro : Bool

abbrev Map := Nat → Option Loc

inductive VR (μ : Map) : Value → Value → Prop
  | bool (b : Bool) : VR μ (.bool b) (.bool b)
  | int (k : IntKind) (n : Int) : VR μ (.int k n) (.int k n)
  | float (k : FloatKind) (n : Nat) : VR μ (.float k n) (.float k n)
  | string (s : ByteArray) : VR μ (.string s) (.string s)
  | pnil : VR μ (.pointer none) (.pointer none)
  | ptr (id off : Nat) (loc : Loc) (h : μ id = some loc) : VR μ (.pointer (some ⟨id, off, none⟩)) (.pointer (some ⟨loc.blk, loc.base + off, none⟩))
  | snil : VR μ (.slice none 0 0) (.slice none 0 0)
  | slice (id off len cap cap' : Nat) (loc : Loc) (h : μ id = some loc) (h1 : len ≤ cap) (h2 : cap ≤ cap') (h3 : cap = cap' ∨ loc.opn = true ∧ off + cap * loc.esize = loc.size)
      (h4 : loc.base + off + cap' * loc.esize ≤ loc.csize) (h5 : off + cap * loc.esize ≤ loc.size) (h6 : cap' ≤ 9223372036854775807) :
      VR μ (.slice (some ⟨id, off, none⟩) len cap) (.slice (some ⟨loc.blk, loc.base + off, none⟩) len cap')
  | slice0 (id off : Nat) (a : Addr) (loc : Loc) (h : μ id = some loc) : VR μ (.slice (some ⟨id, off, none⟩) 0 0) (.slice (some a) 0 0)
  | mnil : VR μ (.map none) (.map none)
  | map (id : Nat) (loc : Loc) (h : μ id = some loc) : VR μ (.map (some id)) (.map (some loc.blk))
  | func (f : FuncId) (a a' c c' : Array Value) (hs : a.size = a'.size) (h : ∀ (i : Nat) (x x' : Value), a[i]? = some x → a'[i]? = some x' → VR μ x x')
      (hc : c.size = c'.size) (h' : ∀ (i : Nat) (x x' : Value), c[i]? = some x → c'[i]? = some x' → VR μ x x') : VR μ (.func (.func f) a c) (.func (.func f) a' c')
  | yield (id : Nat) (loc : Loc) (h : μ id = some loc) : VR μ (.func (.yield id) #[] #[]) (.func (.yield loc.blk) #[] #[])
  | nilFunc : VR μ .nilFunc .nilFunc
  | nilIface : VR μ .nilIface .nilIface
  | iface (t : TypeId) (v v' : Value) (h : VR μ v v') : VR μ (.iface t v) (.iface t v')
  | agg (a a' : Array Value) (hs : a.size = a'.size) (h : ∀ (i : Nat) (x x' : Value), a[i]? = some x → a'[i]? = some x' → VR μ x x') : VR μ (.agg a) (.agg a')
  | tuple (a a' : Array Value) (hs : a.size = a'.size) (h : ∀ (i : Nat) (x x' : Value), a[i]? = some x → a'[i]? = some x' → VR μ x x') : VR μ (.tuple a) (.tuple a')

def Map.le (μ μ' : Map) : Prop := ∀ id loc, μ id = some loc → μ' id = some loc
theorem Map.le_refl (μ : Map) : μ.le μ := fun _ _ h => h
theorem Map.le_trans {a b c : Map} (h : a.le b) (k : b.le c) : a.le c := fun _ _ x => k _ _ (h _ _ x)

theorem VR.mono {μ μ' : Map} (hm : μ.le μ') {v v' : Value} (h : VR μ v v') : VR μ' v v' := by
  induction h with
  | bool b => exact .bool b
  | int k n => exact .int k n
  | float k n => exact .float k n
  | string s => exact .string s
  | pnil => exact .pnil
  | ptr id off loc h => exact .ptr id off loc (hm _ _ h)
  | snil => exact .snil
  | slice id off len cap cap' loc h h1 h2 h3 h4 h5 h6 => exact .slice id off len cap cap' loc (hm _ _ h) h1 h2 h3 h4 h5 h6
  | slice0 id off off' loc h => exact .slice0 id off off' loc (hm _ _ h)
  | mnil => exact .mnil
  | map id loc h => exact .map id loc (hm _ _ h)
  | func f a a' c c' hs _ hc _ ih ih' => exact .func f a a' c c' hs ih hc ih'
  | yield id loc h => exact .yield id loc (hm _ _ h)
  | nilFunc => exact .nilFunc
  | nilIface => exact .nilIface
  | iface t v v' _ ih => exact .iface t v v' ih
  | agg a a' hs _ ih => exact .agg a a' hs ih
  | tuple a a' hs _ ih => exact .tuple a a' hs ih

/-- Lists of values, one by one. -/
def VRs (μ : Map) (l l' : List Value) : Prop := l.length = l'.length ∧ ∀ (i : Nat) (x x' : Value), l[i]? = some x → l'[i]? = some x' → VR μ x x'

theorem VRs.mono {μ μ' : Map} (hm : μ.le μ') {l l' : List Value} (h : VRs μ l l') : VRs μ' l l' := ⟨h.1, fun i x x' a b => (h.2 i x x' a b).mono hm⟩
theorem VRs.nil (μ : Map) : VRs μ [] [] := ⟨rfl, fun i x x' h => by simp at h⟩
theorem VRs.cons {μ : Map} {x x' : Value} {l l' : List Value} (h : VR μ x x') (hl : VRs μ l l') : VRs μ (x :: l) (x' :: l') := by
  refine ⟨by simp [hl.1], fun i y y' a b => ?_⟩
  cases i with
  | zero => simp at a b; subst a; subst b; exact h
  | succ i => simp at a b; exact hl.2 i y y' a b
theorem VRs.head {μ : Map} {x x' : Value} {l l' : List Value} (h : VRs μ (x :: l) (x' :: l')) : VR μ x x' := h.2 0 x x' rfl rfl
theorem VRs.tail {μ : Map} {x x' : Value} {l l' : List Value} (h : VRs μ (x :: l) (x' :: l')) : VRs μ l l' :=
  ⟨by have := h.1; simp at this; exact this, fun i y y' a b => h.2 (i + 1) y y' (by simpa using a) (by simpa using b)⟩
theorem VRs.cons_inv {μ : Map} {x : Value} {l l' : List Value} (h : VRs μ (x :: l) l') : ∃ x' m, l' = x' :: m ∧ VR μ x x' ∧ VRs μ l m := by
  cases l' with
  | nil => have := h.1; simp at this
  | cons x' m => exact ⟨x', m, rfl, h.head, h.tail⟩
theorem VRs.nil_inv {μ : Map} {l' : List Value} (h : VRs μ [] l') : l' = [] := by
  cases l' with
  | nil => rfl
  | cons x' m => have := h.1; simp at this
theorem VRs.append {μ : Map} {l l' m m' : List Value} (h : VRs μ l l') (k : VRs μ m m') : VRs μ (l ++ m) (l' ++ m') := by
  induction l generalizing l' with
  | nil => rw [h.nil_inv]; exact k
  | cons x l ih =>
    obtain ⟨x', n, rfl, hx, hl⟩ := h.cons_inv
    exact VRs.cons hx (ih hl)
theorem VRs.take {μ : Map} {l l' : List Value} (h : VRs μ l l') (n : Nat) : VRs μ (l.take n) (l'.take n) :=
  ⟨by simp [h.1], fun i x x' a b => by rw [List.getElem?_take] at a b; split at a <;> simp_all; exact h.2 i x x' a b⟩
theorem VRs.drop {μ : Map} {l l' : List Value} (h : VRs μ l l') (n : Nat) : VRs μ (l.drop n) (l'.drop n) :=
  ⟨by simp [h.1], fun i x x' a b => by rw [List.getElem?_drop] at a b; exact h.2 _ x x' a b⟩
theorem VRs.get {μ : Map} {l l' : List Value} (h : VRs μ l l') {i : Nat} {x : Value} (hx : l[i]? = some x) : ∃ x', l'[i]? = some x' ∧ VR μ x x' := by
  have hi : i < l.length := (List.getElem?_eq_some_iff.1 hx).1
  have hi' : i < l'.length := by rw [← h.1]; exact hi
  exact ⟨l'[i], List.getElem?_eq_getElem hi', h.2 i x _ hx (List.getElem?_eq_getElem hi')⟩
theorem VRs.set {μ : Map} {l l' : List Value} (h : VRs μ l l') (i : Nat) {x x' : Value} (hx : VR μ x x') : VRs μ (l.set i x) (l'.set i x') := by
  refine ⟨by simp [h.1], fun j y y' a b => ?_⟩
  rw [List.getElem?_set] at a b
  by_cases e : i = j
  · subst e
    simp only [if_true] at a b
    split at a <;> split at b <;> simp_all
  · simp only [if_neg e] at a b
    exact h.2 j y y' a b
theorem VRs.replicate {μ : Map} {x x' : Value} (h : VR μ x x') (n : Nat) : VRs μ (List.replicate n x) (List.replicate n x') := by
  induction n with
  | zero => exact VRs.nil μ
  | succ n ih => exact VRs.cons h ih

theorem VR.ofArr {μ : Map} {a a' : Array Value} (h : VRs μ a.toList a'.toList) : a.size = a'.size ∧ ∀ (i : Nat) (x x' : Value), a[i]? = some x → a'[i]? = some x' → VR μ x x' :=
  ⟨by have := h.1; simpa using this, fun i x x' hx hy => h.2 i x x' (by simpa using hx) (by simpa using hy)⟩
theorem VR.toArr {μ : Map} {a a' : Array Value} (hs : a.size = a'.size) (h : ∀ (i : Nat) (x x' : Value), a[i]? = some x → a'[i]? = some x' → VR μ x x') : VRs μ a.toList a'.toList :=
  ⟨by simpa using hs, fun i x x' hx hy => h i x x' (by simpa using hx) (by simpa using hy)⟩
theorem VR.agg' {μ : Map} {a a' : Array Value} (h : VRs μ a.toList a'.toList) : VR μ (.agg a) (.agg a') := .agg a a' (VR.ofArr h).1 (VR.ofArr h).2
theorem VR.tuple' {μ : Map} {a a' : Array Value} (h : VRs μ a.toList a'.toList) : VR μ (.tuple a) (.tuple a') := .tuple a a' (VR.ofArr h).1 (VR.ofArr h).2
theorem VR.undef (μ : Map) : VR μ Go.undef Go.undef := VR.tuple' (VRs.nil μ)

theorem VR.plain {μ : Map} {v : Value} (h : plainV v = true) : VR μ v v := by
  unfold plainV at h
  split at h <;> first | constructor | simp at h
theorem VRs.plain {μ : Map} {l : List Value} (h : l.all plainV = true) : VRs μ l l := by
  induction l with
  | nil => exact VRs.nil μ
  | cons x l ih => simp at h; exact VRs.cons (VR.plain h.1) (ih (by simpa using h.2))
theorem VR.closed {μ : Map} {v : Value} (h : closedV v = true) : VR μ v v := by
  unfold closedV at h
  split at h
  · exact VR.agg' (VRs.plain h)
  · exact VR.plain h

theorem VR.cells {μ : Map} {v v' : Value} (h : VR μ v v') : VRs μ v.cells.toList v'.cells.toList := by
  cases h with
  | agg a a' hs h => exact VR.toArr hs h
  | _ => exact VRs.cons (by constructor <;> assumption) (VRs.nil μ)
theorem VR.cells_size {μ : Map} {v v' : Value} (h : VR μ v v') : v.cells.size = v'.cells.size := by have := h.cells.1; simpa using this
theorem VR.oneCell {μ : Map} {v v' : Value} (h : VR μ v v') : v.oneCell' = v'.oneCell' := by cases h <;> rfl
theorem VRs.oneCell {μ : Map} {l l' : List Value} (h : VRs μ l l') : l.all (·.oneCell') = l'.all (·.oneCell') := by
  induction l generalizing l' with
  | nil => rw [h.nil_inv]
  | cons x l ih => obtain ⟨x', m, rfl, hx, hl⟩ := h.cons_inv; simp [hx.oneCell, ih hl]
theorem oneCell_plain {v : Value} (h : plainV v = true) : v.oneCell' = true := by
  unfold plainV at h
  split at h <;> first | rfl | simp at h
theorem all_oneCell_plain {l : List Value} (h : l.all plainV = true) : l.all (·.oneCell') = true := by
  simp only [List.all_eq_true] at h ⊢
  exact fun x hx => oneCell_plain (h x hx)

/-- Operands that stand for themselves: closed constants, the package's variables where they stand. -/
def OperOk (μ : Map) : Operand → Prop
  | .const v => closedV v = true
  | .global g => ∃ loc, μ g = some loc ∧ loc.blk = g ∧ loc.base = 0
  | _ => True
def OpersOk (μ : Map) (o : Oper) : Prop := ∀ x ∈ o.op.operands.toList, OperOk μ x
def CodeOk (μ : Map) : Code → Prop
  | .region _ ops _ => ∀ o ∈ ops.toList, OpersOk μ o
  | .seq a b => CodeOk μ a ∧ CodeOk μ b
  | .cond c a b => OperOk μ c ∧ CodeOk μ a ∧ CodeOk μ b
  | .block _ a | .loop a | .scope a => CodeOk μ a
  | .rangeFunc f _ a b => OperOk μ f ∧ CodeOk μ a ∧ CodeOk μ b
  | _ => True
theorem OperOk.mono {μ μ' : Map} (hm : μ.le μ') {x : Operand} (h : OperOk μ x) : OperOk μ' x := by
  cases x with
  | global g => obtain ⟨loc, a, b⟩ := h; exact ⟨loc, hm _ _ a, b⟩
  | _ => exact h
theorem OpersOk.mono {μ μ' : Map} (hm : μ.le μ') {o : Oper} (h : OpersOk μ o) : OpersOk μ' o := fun x hx => (h x hx).mono hm
theorem CodeOk.mono {μ μ' : Map} (hm : μ.le μ') {c : Code} (h : CodeOk μ c) : CodeOk μ' c := by
  induction c with
  | region id ops d => exact fun o ho => OpersOk.mono hm (h o ho)
  | seq a b ha hb => exact ⟨ha h.1, hb h.2⟩
  | cond c a b ha hb => exact ⟨h.1.mono hm, ha h.2.1, hb h.2.2⟩
  | block id a ha => exact ha h
  | loop a ha => exact ha h
  | scope a ha => exact ha h
  | rangeFunc f ps a b ha hb => exact ⟨h.1.mono hm, ha h.2.1, hb h.2.2⟩
  | _ => trivial

/-- No cell is frozen; in what isn't bytes no place at all. -/
def Melted (P : Program) (e : TypeId) (C : Array Value) (fr : Nat × Nat) : Prop := (∀ i, i < C.size → ¬ (fr.1 ≤ i ∧ i < fr.2)) ∧ (P.underlying e ≠ some (.int .u8) → ∀ i, ¬ (fr.1 ≤ i ∧ i < fr.2))
theorem Melted.size {P : Program} {e : TypeId} {C C' : Array Value} {fr : Nat × Nat} (h : C'.size = C.size) (m : Melted P e C fr) : Melted P e C' fr := ⟨fun i hi => m.1 i (by omega), m.2⟩
theorem Melted.all {P : Program} {e : TypeId} {C : Array Value} {fr : Nat × Nat} (h : ∀ i, ¬ (fr.1 ≤ i ∧ i < fr.2)) : Melted P e C fr := ⟨fun i _ => h i, fun _ => h⟩
/-- How a map's entries stand for a block's: in whatever order; no stamp, and no key, is there twice. -/
def MR (μ : Map) (es : List (Value × Value)) (E : Array MapEntry) (clock : Nat) : Prop :=
  MapKept.Stamped E clock ∧ (es.map (·.1)).Pairwise (fun a b => aKeyEq a b = some false ∧ aKeyEq b a = some false) ∧
    ∃ F : List MapEntry, F.Perm E.toList ∧ VRs μ (es.map (·.1)) (F.map (·.key)) ∧ VRs μ (es.map (·.2)) (F.map (·.val))
theorem MR.mono {μ μ' : Map} (hm : μ.le μ') {es : List (Value × Value)} {E : Array MapEntry} {clock : Nat} (h : MR μ es E clock) : MR μ' es E clock := by
  obtain ⟨a, b, F, c, d, e⟩ := h; exact ⟨a, b, F, c, d.mono hm, e.mono hm⟩
theorem MR.nil (μ : Map) (clock : Nat) : MR μ [] #[] clock := ⟨MapKept.stamped_empty clock, List.Pairwise.nil, [], List.Perm.refl _, VRs.nil μ, VRs.nil μ⟩
theorem MR.size {μ : Map} {es : List (Value × Value)} {E : Array MapEntry} {clock : Nat} (h : MR μ es E clock) : E.size = es.length := by
  obtain ⟨_, _, F, c, d, _⟩ := h
  have h1 := c.length_eq
  have h2 := d.1
  simp at h1 h2; omega

/-- How an object stands for a block. -/
def OR (P : Program) (μ : Map) (loc : Loc) : AObj → Obj → Prop
  | .cells c e o, .cells C e' fr => (loc.ro = true ∨ e' = e) ∧ c.length = loc.size ∧ loc.opn = o ∧ loc.esize = P.cellsOf e ∧ C.size = loc.csize ∧ (loc.base + loc.size ≤ loc.csize ∧ (loc.ro = true ∨ o = true ∨ loc.base = 0 ∧ loc.size = loc.csize)) ∧
      VRs μ c ((C.toList.drop loc.base).take loc.size) ∧ c.all (·.oneCell') = true ∧ (loc.ro = true ∨ Melted P e' C fr)
  | .map es, .map E clock => MR μ es E clock
  | .loop r, .loop R => R.state = r.state ∧ R.pending = r.pending ∧ R.params = r.params ∧ R.assign = r.assign ∧ R.body = r.body ∧ VRs μ r.tmps R.tmps.toList ∧ CodeOk μ r.assign ∧ CodeOk μ r.body
  | _, _ => False

theorem OR.mono {P : Program} {μ μ' : Map} (hm : μ.le μ') {loc : Loc} {o : AObj} {O : Obj} (h : OR P μ loc o O) : OR P μ' loc o O := by
  cases o <;> cases O <;> simp only [OR] at h ⊢
  · obtain ⟨a, b, c, d, e, f, g, i⟩ := h; exact ⟨a, b, c, d, e, f, g.mono hm, i⟩
  · exact MR.mono hm h
  · obtain ⟨a, b, c, d, e, f, g, i⟩ := h; exact ⟨a, b, c, d, e, f.mono hm, g.mono hm, i.mono hm⟩

/-- How a heap stands for a world. 'B': blocks below it are never written. -/
structure HR (P : Program) (B : Nat) (μ : Map) (h : AHeap) (w : World) : Prop where
  dom : ∀ id loc, μ id = some loc → id < h.next ∧ loc.blk < w.heap.size
  obj : ∀ id loc o, μ id = some loc → h.get id = some o → ∃ O, w.heap[loc.blk]? = some O ∧ OR P μ loc o O
  own : ∀ id loc, μ id = some loc → h.get id ≠ none → h.low ≤ id → loc.ro = false ∧ ∀ id' loc', μ id' = some loc' → h.get id' ≠ none → id' ≠ id → loc'.blk ≠ loc.blk
  low : h.low ≤ h.next
  base : B ≤ w.heap.size

/-- Is a block one that the abstract run may write? -/
def Mine (μ : Map) (h : AHeap) (b : Nat) : Prop := ∃ id loc, μ id = some loc ∧ h.get id ≠ none ∧ h.low ≤ id ∧ loc.blk = b

/-- What the outside sees is as it was. -/
def SameEnv (w w' : World) : Prop := w'.os = w.os ∧ w'.tape = w.tape ∧ w'.output = w.output
theorem SameEnv.refl (w : World) : SameEnv w w := ⟨rfl, rfl, rfl⟩
theorem SameEnv.trans {a b c : World} (h : SameEnv a b) (k : SameEnv b c) : SameEnv a c := ⟨k.1.trans h.1, k.2.1.trans h.2.1, k.2.2.trans h.2.2⟩

/-- From one pair to a later one. -/
structure Post (P : Program) (B : Nat) (μ : Map) (h : AHeap) (w : World) (μ' : Map) (h' : AHeap) (w' : World) : Prop where
  le : μ.le μ'
  fresh : ∀ id loc, μ' id = some loc → μ id = none → h.next ≤ id ∧ (w.heap.size ≤ loc.blk ∨ Mine μ h loc.blk)
  hr : HR P B μ' h' w'
  size : w.heap.size ≤ w'.heap.size
  frame : ∀ b, b < w.heap.size → ¬ Mine μ h b → w'.heap[b]? = w.heap[b]?
  still : ∀ id, id < h.next → μ id = none → h'.get id = h.get id
  env : SameEnv w w'

/-- What an abstract run leaves of a heap. -/
structure Keeps (h h' : AHeap) : Prop where
  next : h.next ≤ h'.next
  low : h'.low = h.low
  old : ∀ id, id < h.low → h'.get id = h.get id
  dead : ∀ id, id < h.next → h.get id = none → h'.get id = none
  loop : ∀ id r, h.get id = some (.loop r) → ∃ r', h'.get id = some (.loop r')

theorem Keeps.refl (h : AHeap) : Keeps h h := ⟨Nat.le_refl _, rfl, fun _ _ => rfl, fun _ _ e => e, fun _ r e => ⟨r, e⟩⟩
theorem Keeps.trans {a b c : AHeap} (h : Keeps a b) (k : Keeps b c) : Keeps a c where
  next := Nat.le_trans h.next k.next
  low := k.low.trans h.low
  old id hid := (k.old id (by rw [h.low]; exact hid)).trans (h.old id hid)
  dead id hid hg := k.dead id (Nat.lt_of_lt_of_le hid h.next) (h.dead id hid hg)
  loop id r hr := by obtain ⟨r', h'⟩ := h.loop id r hr; exact k.loop id r' h'

theorem Post.refl {P : Program} {B : Nat} {μ : Map} {h : AHeap} {w : World} (hr : HR P B μ h w) : Post P B μ h w μ h w :=
  ⟨Map.le_refl _, fun _ _ a b => (by rw [a] at b; cases b), hr, Nat.le_refl _, fun _ _ _ => rfl, fun _ _ _ => rfl, SameEnv.refl w⟩

theorem Post.trans {P : Program} {B : Nat} {μ μ1 μ2 : Map} {h h1 h2 : AHeap} {w w1 w2 : World} (hr : HR P B μ h w) (hk : Keeps h h1)
    (p : Post P B μ h w μ1 h1 w1) (q : Post P B μ1 h1 w1 μ2 h2 w2) : Post P B μ h w μ2 h2 w2 := by
  have mine : ∀ b, Mine μ1 h1 b → w.heap.size ≤ b ∨ Mine μ h b := by
    rintro b ⟨id, loc, a, g, l, rfl⟩
    cases hm : μ id with
    | none => exact (p.fresh id loc a hm).2
    | some loc0 =>
      have := p.le _ _ hm
      rw [a] at this; cases this
      have hlt : id < h.next := (hr.dom id loc hm).1
      exact .inr ⟨id, loc, hm, fun e => g (hk.dead id hlt e), by rw [← hk.low]; exact l, rfl⟩
  refine ⟨Map.le_trans p.le q.le, fun id loc a b => ?_, q.hr, Nat.le_trans p.size q.size, fun b hb hm => ?_, fun id hid hn => ?_, p.env.trans q.env⟩
  · cases hm1 : μ1 id with
    | some loc1 =>
      have := q.le _ _ hm1
      rw [a] at this; cases this
      exact p.fresh id loc hm1 b
    | none =>
      obtain ⟨h1', h2'⟩ := q.fresh id loc a hm1
      refine ⟨Nat.le_trans hk.next h1', ?_⟩
      rcases h2' with h2' | h2'
      · exact .inl (Nat.le_trans p.size h2')
      · exact mine _ h2'
  · rw [q.frame b (Nat.lt_of_lt_of_le hb p.size) (fun hm' => ?_), p.frame b hb hm]
    rcases mine b hm' with h1' | h1'
    · omega
    · exact hm h1'
  · have h1n : μ1 id = none := by
      cases e : μ1 id with
      | none => rfl
      | some l => have := (p.fresh id l e hn).1; omega
    rw [q.still id (Nat.lt_of_lt_of_le hid hk.next) h1n, p.still id hid hn]

end Go.AM
