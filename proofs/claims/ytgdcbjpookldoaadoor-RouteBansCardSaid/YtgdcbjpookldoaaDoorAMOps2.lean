/- AM: the rules for values: operands, numbers, what is read and written of a heap. -/
import Derived.Test.YtgdcbjpookldoaaDoorAMOps
set_option linter.unusedSimpArgs false
set_option linter.unusedVariables false
namespace Go.AM
variable {P : Program} {prims : Prims}

/-! ### Operands -/
theorem ev_tmp (v : Value) (vs : List Value) (t : Nat) : evalE (v :: vs) (.tmp t) = (v :: vs).getD t undef := nrfl rfl
theorem ev_const (env : Env) (x : Value) : evalE env (.const x) = x := nrfl rfl
theorem ev_global (env : Env) (g : Nat) : evalE env (.global g) = .pointer (some ⟨g, 0, none⟩) := nrfl rfl
theorem ev_func (env : Env) (f : Nat) : evalE env (.func f) = .func (.func f) #[] #[] := nrfl rfl
theorem put_some (v : Value) (vs : List Value) (d : Nat) (x : Value) : putE (v :: vs) (some d) x = (v :: vs).set d x := nrfl rfl
theorem put_none (env : Env) (x : Value) : putE env none x = env := nrfl rfl

/-! ### Numbers -/
section
variable (t : TypeId) (k : IntKind) (a b : Int)
theorem bin_add : aBin P .add t (.int k a) (.int k b) = some (.int k (k.wrap (a + b))) := by simp [aBin]
theorem bin_sub : aBin P .sub t (.int k a) (.int k b) = some (.int k (k.wrap (a - b))) := by simp [aBin]
theorem bin_mul : aBin P .mul t (.int k a) (.int k b) = some (.int k (k.wrap (a * b))) := by simp [aBin]
theorem bin_quo (hb : b ≠ 0) : aBin P .quo t (.int k a) (.int k b) = some (.int k (k.wrap (a.tdiv b))) := by simp [aBin, hb]
theorem bin_rem (hb : b ≠ 0) : aBin P .rem t (.int k a) (.int k b) = some (.int k (a.tmod b)) := by simp [aBin, hb]
theorem bin_eql : aBin P .eql t (.int k a) (.int k b) = some (.bool (decide (a = b))) := by
  have : (a == b) = decide (a = b) := by by_cases h : a = b <;> simp [h]
  simp [aBin, this]
theorem bin_neq : aBin P .neq t (.int k a) (.int k b) = some (.bool (!decide (a = b))) := by
  have : (a != b) = !decide (a = b) := by by_cases h : a = b <;> simp [h]
  simp [aBin, this]
theorem bin_lss : aBin P .lss t (.int k a) (.int k b) = some (.bool (decide (a < b))) := by simp [aBin]
theorem bin_leq : aBin P .leq t (.int k a) (.int k b) = some (.bool (decide (a ≤ b))) := by simp [aBin]
theorem bin_gtr : aBin P .gtr t (.int k a) (.int k b) = some (.bool (decide (b < a))) := by simp [aBin]
theorem bin_geq : aBin P .geq t (.int k a) (.int k b) = some (.bool (decide (b ≤ a))) := by simp [aBin]
end
theorem un_not (b : Bool) : aUn .not (.bool b) = some (.bool (!b)) := nrfl rfl
theorem un_neg (k : IntKind) (a : Int) : aUn .neg (.int k a) = some (.int k (k.wrap (0 - a))) := nrfl rfl

theorem bin_pnil {t e : TypeId} (hu : P.underlying t = some (.pointer e)) (a : Option Addr) : aBin P .eql t (.pointer a) (.pointer none) = some (.bool a.isNone) := by
  cases a <;> simp [aBin, hu]
theorem bin_snil {t e : TypeId} (hu : P.underlying t = some (.slice e)) (a : Option Addr) (n c : Nat) : aBin P .eql t (.slice a n c) (.slice none 0 0) = some (.bool a.isNone) := by
  cases a <;> simp [aBin, hu]
theorem wrap_i64 {n : Int} (h0 : -9223372036854775808 ≤ n) (h1 : n < 9223372036854775808) : IntKind.wrap .i64 n = n := by
  have e : IntKind.wrap .i64 n = if n % 18446744073709551616 ≥ 9223372036854775808 then n % 18446744073709551616 - 18446744073709551616 else n % 18446744073709551616 := by
    show (if (true && decide (n % 18446744073709551616 ≥ 9223372036854775808)) = true then n % 18446744073709551616 - 18446744073709551616 else n % 18446744073709551616) = _
    simp only [Bool.true_and, decide_eq_true_eq]
  rw [e]
  split <;> omega
/-! ### Lengths, fields, parts -/
theorem len_slice {t e : TypeId} (hu : P.underlying t = some (.slice e)) (h : AHeap) (a : Option Addr) (n c : Nat) : aLen P h t (.slice a n c) = some (.int .i64 n) := by unfold aLen; rw [hu]
theorem ex_tuple (l : List Value) (i : Nat) : aExtract (.tuple l.toArray) i = l[i]? := by simp [aExtract]

theorem fa_ptr (s : TypeId) (id off : Nat) (f : Nat) : aFieldAddr P s (.pointer (some ⟨id, off, none⟩)) f = (fdI P s f).map fun o => .pointer (some ⟨id, off + o, none⟩) := by
  unfold aFieldAddr fdI
  cases P.underlying s with
  | none => rfl
  | some u =>
    cases u with
    | struct fields =>
      simp only
      cases fields[f]? with
      | none => rfl
      | some fd =>
        simp only [Option.bind_some]
        cases P.info? fd.type with
        | none => rfl
        | some i => simp only [Option.bind_some]; split <;> rfl
    | _ => rfl

def iaO (id off len cap : Nat) (i : Int) (es : TypeId × Nat) : Option Value := if 0 ≤ i ∧ i < len ∧ cap ≠ 0 then some (.pointer (some ⟨id, off + i.toNat * es.2, none⟩)) else none
theorem ia_slice {t e : TypeId} {sz : Nat} (he : elI P t = some (e, sz)) (id off len cap : Nat) (k : IntKind) (i : Int) : aIndexAddr P t (.slice (some ⟨id, off, none⟩) len cap) (.int k i) = iaO id off len cap i (e, sz) := by
  unfold aIndexAddr elI at *
  cases hu : P.underlying t with
  | none => rw [hu] at he; cases he
  | some u =>
    rw [hu] at he
    cases u with
    | slice e' =>
      simp only [Option.map_eq_some_iff] at he ⊢
      obtain ⟨inf, h1, h2⟩ := he
      cases h2
      rw [h1]; rfl
    | _ => cases he
theorem iaO_ok {id off len cap : Nat} {i : Int} {e : TypeId} {sz : Nat} (h0 : 0 ≤ i) (h1 : i < len) (h2 : cap ≠ 0) : iaO id off len cap i (e, sz) = some (.pointer (some ⟨id, off + i.toNat * sz, none⟩)) := by
  unfold iaO; rw [if_pos ⟨h0, h1, h2⟩]
def iaA (id off len : Nat) (i : Int) (sz : Nat) : Option Value := if 0 ≤ i ∧ i < len then some (.pointer (some ⟨id, off + i.toNat * sz, none⟩)) else none
theorem ia_array {t : TypeId} {n sz : Nat} (he : arI P t = some (n, sz)) (id off : Nat) (k : IntKind) (i : Int) : aIndexAddr P t (.pointer (some ⟨id, off, none⟩)) (.int k i) = iaA id off n i sz := by
  unfold aIndexAddr arI at *
  cases hu : P.underlying t with
  | none => rw [hu] at he; cases he
  | some u =>
    rw [hu] at he
    cases u with
    | array n' e' =>
      simp only [Option.map_eq_some_iff] at he ⊢
      obtain ⟨inf, h1, h2⟩ := he
      cases h2
      rw [h1]; rfl
    | _ => cases he
theorem iaA_ok {id off len : Nat} {i : Int} {sz : Nat} (h0 : 0 ≤ i) (h1 : i < len) : iaA id off len i sz = some (.pointer (some ⟨id, off + i.toNat * sz, none⟩)) := by
  unfold iaA; rw [if_pos ⟨h0, h1⟩]

/-! ### Loads, stores -/
def ldO : Option AObj → Nat → Option Nat → Option Value
  | some (.cells c _ _), off, none => c[off]?
  | some (.cells c _ _), off, some n => if off + n ≤ c.length then some (.agg ((c.drop off).take n).toArray) else none
  | _, _, _ => none
theorem ld_ptr (h : AHeap) (t : TypeId) (id off : Nat) : aLoad P h t (.pointer (some ⟨id, off, none⟩)) = (lkI P t).bind (ldO (h.get id) off) := by
  unfold aLoad lkI
  simp only
  cases h.get id with
  | none => simp only; cases P.underlying t <;> simp; cases P.info? t <;> simp [ldO]
  | some o =>
    cases o with
    | cells c e op =>
      simp only
      cases P.underlying t with
      | none => rfl
      | some u =>
        simp only [Option.bind_some]
        cases P.info? t with
        | none => rfl
        | some i =>
          simp only [Option.bind_some]
          by_cases hz : aIsAgg P t = true
          · simp [hz, ldO]
          · simp [hz, ldO]
    | map es => simp only; cases P.underlying t <;> simp; cases P.info? t <;> simp [ldO]
    | loop r => simp only; cases P.underlying t <;> simp; cases P.info? t <;> simp [ldO]
theorem ldO_one (c : List Value) (e : TypeId) (o : Bool) (off : Nat) : ldO (some (.cells c e o)) off none = c[off]? := nrfl rfl
theorem ldO_agg {c : List Value} {e : TypeId} {o : Bool} {off n : Nat} (h : off + n ≤ c.length) : ldO (some (.cells c e o)) off (some n) = some (.agg ((c.drop off).take n).toArray) := by simp [ldO, h]

def stO (x : Option AObj) (h : AHeap) (id off : Nat) (v : Value) (sz : Nat) : Option AHeap := match x with
  | some (.cells c e o) => if h.low ≤ id ∧ v.cells.size = sz ∧ off + sz ≤ c.length ∧ v.cells.toList.all (·.oneCell') = true then some (h.put id (some (.cells (setRow c off v.cells.toList) e o))) else none
  | _ => none
theorem st_ptr (h : AHeap) (t : TypeId) (id off : Nat) (v : Value) : aStore P h t (.pointer (some ⟨id, off, none⟩)) v = (szI P t).bind (stO (h.get id) h id off v) := by
  unfold aStore szI stO
  simp only
  cases h.get id with
  | none => cases P.info? t <;> rfl
  | some o =>
    cases o with
    | cells c e op => simp only; cases P.info? t <;> rfl
    | _ => cases P.info? t <;> rfl
theorem stO_one {c : List Value} {e : TypeId} {o : Bool} {h : AHeap} {id off : Nat} {v : Value} (hv : v.cells = #[v]) (h1 : v.oneCell' = true) (hl : h.low ≤ id) (ho : off < c.length) :
    stO (some (.cells c e o)) h id off v 1 = some (h.put id (some (.cells (c.set off v) e o))) := by
  unfold stO
  rw [hv]
  simp only
  rw [if_pos ⟨hl, rfl, ho, by simp [h1]⟩]; rfl
section
variable {c : List Value} {e : TypeId} {o : Bool} {h : AHeap} {id off : Nat}
theorem stO_int {k : IntKind} {n : Int} (hl : h.low ≤ id) (ho : off < c.length) : stO (some (.cells c e o)) h id off (.int k n) 1 = some (h.put id (some (.cells (c.set off (.int k n)) e o))) := stO_one rfl rfl hl ho
theorem stO_bool {b : Bool} (hl : h.low ≤ id) (ho : off < c.length) : stO (some (.cells c e o)) h id off (.bool b) 1 = some (h.put id (some (.cells (c.set off (.bool b)) e o))) := stO_one rfl rfl hl ho
theorem stO_string {s : ByteArray} (hl : h.low ≤ id) (ho : off < c.length) : stO (some (.cells c e o)) h id off (.string s) 1 = some (h.put id (some (.cells (c.set off (.string s)) e o))) := stO_one rfl rfl hl ho
theorem stO_slice {a : Option Addr} {n m : Nat} (hl : h.low ≤ id) (ho : off < c.length) : stO (some (.cells c e o)) h id off (.slice a n m) 1 = some (h.put id (some (.cells (c.set off (.slice a n m)) e o))) := stO_one rfl rfl hl ho
theorem stO_pointer {a : Option Addr} (hl : h.low ≤ id) (ho : off < c.length) : stO (some (.cells c e o)) h id off (.pointer a) 1 = some (h.put id (some (.cells (c.set off (.pointer a)) e o))) := stO_one rfl rfl hl ho
theorem stO_map {a : Option Nat} (hl : h.low ≤ id) (ho : off < c.length) : stO (some (.cells c e o)) h id off (.map a) 1 = some (h.put id (some (.cells (c.set off (.map a)) e o))) := stO_one rfl rfl hl ho
theorem stO_agg {l : List Value} {sz : Nat} (hl : h.low ≤ id) (hs : l.length = sz) (ho : off + sz ≤ c.length) (h1 : l.all (·.oneCell') = true) :
    stO (some (.cells c e o)) h id off (.agg l.toArray) sz = some (h.put id (some (.cells (setRow c off l) e o))) := by
  unfold stO
  simp [Value.cells, hl, hs, ho, h1]
end

/-! ### Heaps -/
theorem nx_alloc (h : AHeap) (o : AObj) : (h.alloc o).next = h.next + 1 := nrfl rfl
theorem nx_put (h : AHeap) (id : Nat) (o : Option AObj) : (h.put id o).next = h.next := nrfl rfl
theorem lw_alloc (h : AHeap) (o : AObj) : (h.alloc o).low = h.low := nrfl rfl
theorem lw_put (h : AHeap) (id : Nat) (o : Option AObj) : (h.put id o).low = h.low := nrfl rfl
theorem ln_cons {α : Type} (a : α) (l : List α) : (a :: l).length = l.length + 1 := nrfl rfl
theorem ln_nil {α : Type} : ([] : List α).length = 0 := nrfl rfl
theorem al_cons {α : Type} (p : α → Bool) (a : α) (l : List α) : (a :: l).all p = (p a && l.all p) := nrfl rfl
theorem al_nil {α : Type} (p : α → Bool) : ([] : List α).all p = true := nrfl rfl
theorem one_int (k : IntKind) (n : Int) : (Value.int k n).oneCell' = true := nrfl rfl
theorem one_bool (b : Bool) : (Value.bool b).oneCell' = true := nrfl rfl
theorem one_string (b : ByteArray) : (Value.string b).oneCell' = true := nrfl rfl
theorem one_slice (a : Option Addr) (n c : Nat) : (Value.slice a n c).oneCell' = true := nrfl rfl
theorem one_pointer (a : Option Addr) : (Value.pointer a).oneCell' = true := nrfl rfl
theorem one_map (a : Option Nat) : (Value.map a).oneCell' = true := nrfl rfl
theorem one_func (f : Fn) (a b : Array Value) : (Value.func f a b).oneCell' = true := nrfl rfl
theorem one_nilFunc : Value.nilFunc.oneCell' = true := nrfl rfl
theorem get_alloc_self {h : AHeap} {o : AObj} {id : Nat} (e : id = h.next) : (h.alloc o).get id = some o := by rw [AHeap.get_alloc, if_pos e]
theorem get_alloc_ne {h : AHeap} {o : AObj} {id : Nat} (e : id ≠ h.next) : (h.alloc o).get id = h.get id := by rw [AHeap.get_alloc, if_neg e]
theorem get_put_self {h : AHeap} {o : Option AObj} {id j : Nat} (e : j = id) (hid : id < h.next) : (h.put id o).get j = o := by rw [AHeap.get_put _ _ _ hid, if_pos e]
theorem get_put_ne {h : AHeap} {o : Option AObj} {id j : Nat} (e : j ≠ id) : (h.put id o).get j = h.get j := by
  unfold AHeap.get AHeap.put
  simp only [Tab.get_set, e, if_false]
theorem get_some_lt {h : AHeap} {id : Nat} {o : AObj} (e : h.get id = some o) : id < h.next := by
  unfold AHeap.get at e
  split at e
  · assumption
  · cases e

/-- From one heap to a later one: what is not in S, and was there, is as it was. -/
structure Fr (S : Nat → Prop) (h h' : AHeap) : Prop where
  next : h.next ≤ h'.next
  low : h'.low = h.low
  old : ∀ id, id < h.next → ¬ S id → h'.get id = h.get id
theorem Fr.hl {S : Nat → Prop} {a b : AHeap} (x : Fr S a b) (h : a.low ≤ a.next) : b.low ≤ b.next := by have := x.next; have := x.low; omega
def none' : Nat → Prop := fun _ => False
theorem Fr.refl (S : Nat → Prop) (h : AHeap) : Fr S h h := ⟨Nat.le_refl _, rfl, fun _ _ _ => rfl⟩
theorem Fr.trans {S : Nat → Prop} {a b c : AHeap} (x : Fr S a b) (y : Fr S b c) : Fr S a c :=
  ⟨Nat.le_trans x.next y.next, y.low.trans x.low, fun id h1 h2 => (y.old id (Nat.lt_of_lt_of_le h1 x.next) h2).trans (x.old id h1 h2)⟩
theorem Fr.then {S T : Nat → Prop} {a b c : AHeap} (x : Fr S a b) (y : Fr T b c) (h : ∀ id, id < a.next → T id → S id) : Fr S a c :=
  ⟨Nat.le_trans x.next y.next, y.low.trans x.low, fun id h1 h2 => (y.old id (Nat.lt_of_lt_of_le h1 x.next) (fun t => h2 (h id h1 t))).trans (x.old id h1 h2)⟩
theorem Fr.mono {S T : Nat → Prop} {a b : AHeap} (x : Fr S a b) (h : ∀ id, id < a.next → S id → T id) : Fr T a b := ⟨x.next, x.low, fun id h1 h2 => x.old id h1 fun hs => h2 (h id h1 hs)⟩
theorem Fr.weak {S : Nat → Prop} {a b : AHeap} (x : Fr none' a b) : Fr S a b := x.mono fun _ _ h => h.elim
theorem Fr.alloc {S : Nat → Prop} {a b : AHeap} (x : Fr S a b) (o : AObj) : Fr S a (b.alloc o) :=
  ⟨Nat.le_succ_of_le x.next, x.low, fun id h1 h2 => by rw [get_alloc_ne (by have := x.next; omega)]; exact x.old id h1 h2⟩
theorem Fr.put {S : Nat → Prop} {a b : AHeap} (x : Fr S a b) {id : Nat} (o : Option AObj) (hs : a.next ≤ id ∨ S id) : Fr S a (b.put id o) :=
  ⟨x.next, x.low, fun j h1 h2 => by
    rw [get_put_ne (fun e => by subst e; rcases hs with hs | hs; omega; exact h2 hs)]; exact x.old j h1 h2⟩
theorem Fr.get {S : Nat → Prop} {a b : AHeap} (x : Fr S a b) {id : Nat} {o : AObj} (hg : a.get id = some o) (hs : ¬ S id) : b.get id = some o := by rw [x.old id (get_some_lt hg) hs]; exact hg
theorem Fr.lt {S : Nat → Prop} {a b : AHeap} (x : Fr S a b) {id : Nat} (h : id < a.next) : id < b.next := Nat.lt_of_lt_of_le h x.next
/-! ### Results -/
theorem ret_ret (fn : Func) (Q : VQ) (v : Value) (vs : List Value) (h : AHeap) : retK P fn Q .ret (v :: vs) h = optW (resultsE P fn (v :: vs) h) h Q := nrfl rfl
theorem ret_normal (fn : Func) (Q : VQ) (v : Value) (vs : List Value) (h : AHeap) : retK P fn Q .normal (v :: vs) h = optW (resultsE P fn (v :: vs) h) h Q := nrfl rfl
def resL (P : Program) (rs : List ResultVar) (env : Env) (h : AHeap) : Option Value := match rs with
  | [r] => resOne P env h r
  | rs => (rs.mapM (resOne P env h)).map fun vs => .tuple vs.toArray
theorem resL_nil (env : Env) (h : AHeap) : resL P [] env h = some (.tuple #[]) := nrfl rfl
theorem resL_one (r : ResultVar) (env : Env) (h : AHeap) : resL P [r] env h = resOne P env h r := nrfl rfl
theorem resL_two (r s : ResultVar) (env : Env) (h : AHeap) : resL P [r, s] env h = (resOne P env h r).bind fun a => (resOne P env h s).bind fun b => some (.tuple #[a, b]) := by
  unfold resL; simp only [List.mapM_cons, List.mapM_nil]
  cases resOne P env h r <;> simp [bind, pure]
  cases resOne P env h s <;> simp
theorem resL_three (r s q : ResultVar) (env : Env) (h : AHeap) : resL P [r, s, q] env h = (resOne P env h r).bind fun a => (resOne P env h s).bind fun b => (resOne P env h q).bind fun c => some (.tuple #[a, b, c]) := by
  unfold resL; simp only [List.mapM_cons, List.mapM_nil]
  cases resOne P env h r <;> simp [bind, pure]
  cases resOne P env h s <;> simp
  cases resOne P env h q <;> simp
theorem resL_four (r s q u : ResultVar) (env : Env) (h : AHeap) : resL P [r, s, q, u] env h = (resOne P env h r).bind fun a => (resOne P env h s).bind fun b => (resOne P env h q).bind fun c => (resOne P env h u).bind fun d => some (.tuple #[a, b, c, d]) := by
  unfold resL; simp only [List.mapM_cons, List.mapM_nil]
  cases resOne P env h r <;> simp [bind, pure]
  cases resOne P env h s <;> simp
  cases resOne P env h q <;> simp
  cases resOne P env h u <;> simp
theorem res_tmp (v : Value) (vs : List Value) (h : AHeap) (t : Nat) : resOne P (v :: vs) h (.tmp t) = some ((v :: vs).getD t undef) := nrfl rfl
theorem res_cell (v : Value) (vs : List Value) (h : AHeap) (a : Nat) (t : TypeId) : resOne P (v :: vs) h (.cell a t) = match (v :: vs).getD a undef with | .pointer (some p) => aLoad P h t (.pointer (some p)) | _ => none := nrfl rfl

/-- Padding to a length. -/
def padE : Nat → List Value → List Value
  | 0, l => l
  | n + 1, x :: l => x :: padE n l
  | n + 1, [] => undef :: padE n []
theorem padE_zero (l : List Value) : padE 0 l = l := by unfold padE; rfl
theorem padE_cons (n : Nat) (x : Value) (l : List Value) : padE (n + 1) (x :: l) = x :: padE n l := nrfl rfl
theorem padE_nil (n : Nat) : padE (n + 1) [] = undef :: padE n [] := nrfl rfl
theorem padE_eq : ∀ (n : Nat) (l : List Value), padE n l = l ++ List.replicate (n - l.length) undef
  | 0, l => by simp [padE]
  | n + 1, x :: l => by rw [padE_cons, padE_eq n l]; simp
  | n + 1, [] => by rw [padE_nil, padE_eq n []]; simp [List.replicate_succ]
def retR (P : Program) (rs : List ResultVar) (Q : VQ) : XQ := fun x env h => match x with
  | .normal | .ret => optW (resL P rs env h) h Q
  | _ => False
theorem retR_ret (rs : List ResultVar) (Q : VQ) (v : Value) (vs : List Value) (h : AHeap) : retR P rs Q .ret (v :: vs) h = optW (resL P rs (v :: vs) h) h Q := nrfl rfl
theorem retR_normal (rs : List ResultVar) (Q : VQ) (v : Value) (vs : List Value) (h : AHeap) : retR P rs Q .normal (v :: vs) h = optW (resL P rs (v :: vs) h) h Q := nrfl rfl
theorem eqself {α : Type} (a : α) : (a = a) = True := eq_self a

/-- A call of Go code, opened. -/
theorem enter (hp : PMono prims) {g : FuncId} {first cap : Array Value} {args : List Value} {fn : Func} {c : Code} {rs : List ResultVar} {nt : Nat} {h : AHeap} {Q : VQ} (hpr : prims g = none) (hfn : P.funcs[g]? = some fn) (hb : fn.body = some c)
    (hrs : fn.results.toList = rs) (hnt : fn.ntmps = nt) (hc : codeFine c = true)
    (hh : wpE P prims c (padE nt (first.toList ++ args ++ cap.toList)) h (retR P rs Q)) : CallW P prims (.func (.func g) first cap) args h Q := by
  subst hrs; subst hnt
  refine callW_of hp hpr hfn hb hc ?_
  rw [padE_eq] at hh
  have e : retK P fn Q = retR P fn.results.toList Q := by
    funext x env h'
    unfold retK retR
    cases x <;> rfl
  rw [e]; exact hh

end Go.AM
