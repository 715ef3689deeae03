/- AM: what comes in, as objects that are read only. -/
import Derived.Test.YtgdcbjpookldoaaDoorAMLaw
import Derived.Test.YtgdcbjpookldoaaDoorAMOps3
import Derived.ChangeArms
import Derived.OpenShut
set_option linter.unusedSimpArgs false
set_option linter.unusedVariables false
namespace Go.AM
open Go
variable {P : Program} {B : Nat} {μ : Map} {h : AHeap} {w : World}

/-- One object more, which is read only. -/
theorem HR.addRo (hr : HR P B μ h w) (hl : h.low = h.next) {b off : Nat} {C : Array Value} {e' e : TypeId} {fr : Nat × Nat} {c : List Value} (hb : w.heap[b]? = some (.cells C e' fr)) (hfit : off + c.length ≤ C.size)
    (hv : VRs μ c ((C.toList.drop off).take c.length)) (h1 : c.all (·.oneCell') = true) :
    ∃ μ', μ.le μ' ∧ HR P B μ' { h.alloc (.cells c e false) with low := h.next + 1 } w ∧ μ' h.next = some ⟨b, off, c.length, C.size, P.cellsOf e, false, true⟩ := by
  let loc : Loc := ⟨b, off, c.length, C.size, P.cellsOf e, false, true⟩
  let μ' : Map := fun id => if id = h.next then some loc else μ id
  have hle : μ.le μ' := by
    intro id l hid
    have := (hr.dom id l hid).1
    show (if id = h.next then some loc else μ id) = some l
    rw [if_neg (by omega)]; exact hid
  have hself : μ' h.next = some loc := if_pos rfl
  have hbs : b < w.heap.size := (Array.getElem?_eq_some_iff.1 hb).1
  refine ⟨μ', hle, ⟨?_, ?_, ?_, Nat.le_refl _, hr.base⟩, hself⟩
  · intro id l hid
    by_cases e1 : id = h.next
    · subst e1; rw [hself] at hid; cases hid; exact ⟨Nat.lt_succ_self _, hbs⟩
    · have hid' : μ id = some l := by have : (if id = h.next then some loc else μ id) = some l := hid; rwa [if_neg e1] at this
      obtain ⟨q1, q2⟩ := hr.dom id l hid'
      exact ⟨Nat.lt_succ_of_lt q1, q2⟩
  · intro id l o hid hg
    by_cases e1 : id = h.next
    · subst e1; rw [hself] at hid; cases hid
      have hg' : (h.alloc (.cells c e false)).get h.next = some o := hg
      rw [get_alloc_self rfl] at hg'
      cases hg'
      exact ⟨_, hb, .inl rfl, rfl, rfl, rfl, rfl, ⟨hfit, .inl rfl⟩, hv.mono hle, h1, .inl rfl⟩
    · have hid' : μ id = some l := by have : (if id = h.next then some loc else μ id) = some l := hid; rwa [if_neg e1] at this
      have hg' : (h.alloc (.cells c e false)).get id = some o := hg
      rw [get_alloc_ne e1] at hg'
      obtain ⟨O, q1, q2⟩ := hr.obj id l o hid' hg'
      exact ⟨O, q1, q2.mono hle⟩
  · intro id l hid _ hlow
    have hlow' : h.next + 1 ≤ id := hlow
    have e1 : id ≠ h.next := by omega
    have hid' : μ id = some l := by have : (if id = h.next then some loc else μ id) = some l := hid; rwa [if_neg e1] at this
    have := (hr.dom id l hid').1
    omega

/-! ### Data -/

def laysOut (P : Program) : List Field → Nat → Nat → Bool
  | [], o, n => o == n
  | f :: fs, o, n => f.offset == o && laysOut P fs (o + P.cellsOf f.type) n
/-- Types of plain data: no pointers, no maps. -/
def dataT (P : Program) : Nat → TypeId → Bool
  | 0, _ => false
  | n + 1, t => match P.underlying t with
    | some .bool | some (.int _) | some .string => true
    | some (.struct fs) => laysOut P fs.toList 0 (P.cellsOf t) && fs.toList.all fun f => dataT P n f.type
    | some (.array m e) => P.cellsOf t == m * P.cellsOf e && dataT P n e
    | some (.slice e) => decide (0 < P.cellsOf e) && dataT P n e
    | _ => false

/-- Data as it stands in an abstract heap. -/
inductive AD (P : Program) (h : AHeap) : TypeId → List Value → Prop
  | bool {t : TypeId} (b : Bool) (ht : P.underlying t = some .bool) : AD P h t [.bool b]
  | int {t : TypeId} {k : IntKind} (n : Int) (ht : P.underlying t = some (.int k)) (hw : (Lit.int k n).wf = true) : AD P h t [.int k n]
  | string {t : TypeId} (s : ByteArray) (ht : P.underlying t = some .string) (hs : s.size ≤ maxLen) : AD P h t [.string s]
  | struct {t : TypeId} {fs : Array Field} {cs : List Value} (ht : P.underlying t = some (.struct fs)) (hl : cs.length = P.cellsOf t)
      (hf : ∀ f ∈ fs.toList, AD P h f.type ((cs.drop f.offset).take (P.cellsOf f.type))) : AD P h t cs
  | array {t : TypeId} {n : Nat} {e : TypeId} {cs : List Value} (ht : P.underlying t = some (.array n e)) (hl : cs.length = n * P.cellsOf e)
      (hf : ∀ i, i < n → AD P h e ((cs.drop (i * P.cellsOf e)).take (P.cellsOf e))) : AD P h t cs
  | nil {t e : TypeId} (ht : P.underlying t = some (.slice e)) : AD P h t [.slice none 0 0]
  | empty {t e : TypeId} {id : Nat} {c : List Value} {e' : TypeId} (ht : P.underlying t = some (.slice e)) (hg : h.get id = some (.cells c e' false)) : AD P h t [.slice (some ⟨id, 0, none⟩) 0 0]
  | slice {t e : TypeId} {id len cap : Nat} {c : List Value} (ht : P.underlying t = some (.slice e)) (hlen : len ≤ cap) (hcap : cap ≤ maxLen) (hg : h.get id = some (.cells c e false)) (hc : c.length = cap * P.cellsOf e) (h1 : c.all (·.oneCell') = true)
      (he : ∀ i, i < len → AD P h e ((c.drop (i * P.cellsOf e)).take (P.cellsOf e))) : AD P h t [.slice (some ⟨id, 0, none⟩) len cap]

structure Ext (h h' : AHeap) : Prop where
  next : h.next ≤ h'.next
  old : ∀ id, id < h.next → h'.get id = h.get id
theorem Ext.refl (h : AHeap) : Ext h h := ⟨Nat.le_refl _, fun _ _ => rfl⟩
theorem Ext.trans {a b c : AHeap} (x : Ext a b) (y : Ext b c) : Ext a c := ⟨Nat.le_trans x.next y.next, fun id hid => (y.old id (Nat.lt_of_lt_of_le hid x.next)).trans (x.old id hid)⟩
theorem Ext.get {a b : AHeap} (x : Ext a b) {id : Nat} {o : AObj} (hg : a.get id = some o) : b.get id = some o := by rw [x.old id (get_some_lt hg)]; exact hg
theorem AD.ext {h h' : AHeap} (x : Ext h h') {t : TypeId} {cs : List Value} (a : AD P h t cs) : AD P h' t cs := by
  induction a with
  | bool b ht => exact .bool b ht
  | int n ht hw => exact .int n ht hw
  | string s ht hs => exact .string s ht hs
  | struct ht hl _ ih => exact .struct ht hl ih
  | array ht hl _ ih => exact .array ht hl ih
  | nil ht => exact .nil ht
  | empty ht hg => exact .empty ht (x.get hg)
  | slice ht hlen hcap hg hc h1 _ ih => exact .slice ht hlen hcap (x.get hg) hc h1 ih

/-- Pieces, one behind the other. -/
def TRs (tr : TypeId → List Value → Prop) : List (TypeId × Nat) → List Value → Prop
  | [], cs => cs = []
  | (t, sz) :: ts, cs => sz ≤ cs.length ∧ tr t (cs.take sz) ∧ TRs tr ts (cs.drop sz)
theorem TRs.mono {tr tr' : TypeId → List Value → Prop} (hm : ∀ t cs, tr t cs → tr' t cs) : ∀ (ts : List (TypeId × Nat)) (cs : List Value), TRs tr ts cs → TRs tr' ts cs
  | [], _, h => h
  | (_, _) :: ts, _, h => ⟨h.1, hm _ _ h.2.1, TRs.mono hm ts _ h.2.2⟩
theorem laysOut_le : ∀ (fs : List Field) (o n : Nat), laysOut P fs o n = true → o ≤ n
  | [], o, n, h => by simp only [laysOut, beq_iff_eq] at h; omega
  | f :: fs, o, n, h => by
    simp only [laysOut, Bool.and_eq_true, beq_iff_eq] at h
    have := laysOut_le fs _ _ h.2; omega
theorem TRs.fields {tr : TypeId → List Value → Prop} : ∀ (fs : List Field) (o n : Nat) (cs : List Value), laysOut P fs o n = true → cs.length = n → (∀ f ∈ fs, tr f.type ((cs.drop f.offset).take (P.cellsOf f.type))) → o ≤ n →
    TRs tr (fs.map fun f => (f.type, P.cellsOf f.type)) (cs.drop o)
  | [], o, n, cs, h, hl, _, _ => by
    simp only [laysOut, beq_iff_eq] at h
    show cs.drop o = []
    rw [List.drop_eq_nil_iff]; omega
  | f :: fs, o, n, cs, h, hl, hf, ho => by
    simp only [laysOut, Bool.and_eq_true, beq_iff_eq] at h
    obtain ⟨h1, h2⟩ := h
    have hle := laysOut_le fs _ _ h2
    refine ⟨by simp; omega, ?_, ?_⟩
    · have := hf f (by simp); rw [h1] at this; exact this
    · rw [List.drop_drop]
      exact TRs.fields fs _ n cs h2 hl (fun g hg => hf g (by simp [hg])) hle
theorem TRs.fieldsBack {tr : TypeId → List Value → Prop} : ∀ (fs : List Field) (o n : Nat) (cs : List Value), laysOut P fs o n = true → o ≤ cs.length → TRs tr (fs.map fun f => (f.type, P.cellsOf f.type)) (cs.drop o) →
    cs.length = n ∧ ∀ f ∈ fs, tr f.type ((cs.drop f.offset).take (P.cellsOf f.type))
  | [], o, n, cs, h, ho, hT => by
    simp only [laysOut, beq_iff_eq] at h
    have : cs.drop o = [] := hT
    rw [List.drop_eq_nil_iff] at this
    exact ⟨by omega, fun f hf => by cases hf⟩
  | f :: fs, o, n, cs, h, ho, hT => by
    simp only [laysOut, Bool.and_eq_true, beq_iff_eq] at h
    obtain ⟨h1, h2⟩ := h
    obtain ⟨t1, t2, t3⟩ := hT
    rw [List.drop_drop] at t3
    simp at t1
    obtain ⟨r1, r2⟩ := TRs.fieldsBack fs _ n cs h2 (by omega) t3
    refine ⟨r1, fun g hg => ?_⟩
    rcases List.mem_cons.1 hg with rfl | hg
    · rw [h1]; exact t2
    · exact r2 g hg
theorem TRs.rep {tr : TypeId → List Value → Prop} {e : TypeId} {sz : Nat} : ∀ (m : Nat) (cs : List Value), cs.length = m * sz → (∀ i, i < m → tr e ((cs.drop (i * sz)).take sz)) → TRs tr (List.replicate m (e, sz)) cs
  | 0, cs, hl, _ => by show cs = []; cases cs with | nil => rfl | cons => simp at hl
  | m + 1, cs, hl, hf => by
    rw [Nat.add_mul, Nat.one_mul] at hl
    refine ⟨by omega, by simpa using hf 0 (by omega), TRs.rep m _ (by simp; omega) fun i hi => ?_⟩
    have := hf (i + 1) (by omega)
    rw [Nat.add_mul, Nat.one_mul] at this
    rw [List.drop_drop, Nat.add_comm]; exact this
theorem TRs.repBack {tr : TypeId → List Value → Prop} {e : TypeId} {sz : Nat} : ∀ (m : Nat) (cs : List Value), TRs tr (List.replicate m (e, sz)) cs → cs.length = m * sz ∧ ∀ i, i < m → tr e ((cs.drop (i * sz)).take sz)
  | 0, cs, h => by have : cs = [] := h; subst this; exact ⟨by simp, fun i hi => by omega⟩
  | m + 1, cs, h => by
    obtain ⟨t1, t2, t3⟩ := h
    obtain ⟨r1, r2⟩ := TRs.repBack m _ t3
    simp at r1
    rw [Nat.add_mul, Nat.one_mul]
    refine ⟨by omega, fun i hi => ?_⟩
    cases i with
    | zero => simpa using t2
    | succ i =>
      have := r2 i (by omega)
      rw [List.drop_drop] at this
      rw [Nat.add_mul, Nat.one_mul, Nat.add_comm]; exact this

/-- Cells that came in, and what stands for them. -/
def Got (P : Program) (B : Nat) (w : World) (μ : Map) (h : AHeap) (cs : List Value) (A : AHeap → List Value → Prop) : Prop :=
  ∃ h' μ' acs, HR P B μ' h' w ∧ h'.low = h'.next ∧ μ.le μ' ∧ Ext h h' ∧ VRs μ' acs cs ∧ A h' acs ∧ acs.all (·.oneCell') = true

theorem got_pieces {tr : TypeId → List Value → Prop} : ∀ (ts : List (TypeId × Nat)) (cs : List Value) (μ : Map) (h : AHeap),
    (∀ p ∈ ts, ∀ cs μ h, tr p.1 cs → HR P B μ h w → h.low = h.next → (∃ id loc c e', μ id = some loc ∧ h.get id = some (.cells c e' false)) → Got P B w μ h cs fun h' acs => AD P h' p.1 acs) →
    TRs tr ts cs → HR P B μ h w → h.low = h.next → (∃ id loc c e', μ id = some loc ∧ h.get id = some (.cells c e' false)) → Got P B w μ h cs fun h' acs => TRs (AD P h') ts acs
  | [], cs, μ, h, _, hT, hr, hl, _ => by
    have : cs = [] := hT
    subst this
    exact ⟨h, μ, [], hr, hl, Map.le_refl _, Ext.refl _, VRs.nil _, rfl, rfl⟩
  | (t, sz) :: ts, cs, μ, h, ih, hT, hr, hl, ⟨id0, loc0, c0, e0, hd, hg0⟩ => by
    obtain ⟨t1, t2, t3⟩ := hT
    obtain ⟨h1, μ1, a1, r1, l1, m1, x1, v1, d1, o1⟩ := ih (t, sz) (by simp) _ μ h t2 hr hl ⟨id0, loc0, c0, e0, hd, hg0⟩
    obtain ⟨h2, μ2, a2, r2, l2, m2, x2, v2, d2, o2⟩ := got_pieces ts _ μ1 h1 (fun p hp => ih p (by simp [hp])) t3 r1 l1 ⟨id0, loc0, c0, e0, m1 _ _ hd, x1.get hg0⟩
    have hlen : a1.length = sz := by rw [v1.1]; simp; omega
    refine ⟨h2, μ2, a1 ++ a2, r2, l2, Map.le_trans m1 m2, x1.trans x2, ?_, ⟨by simp; omega, ?_, ?_⟩, by simp [o1, o2]⟩
    · have := (v1.mono m2).append v2
      rwa [List.take_append_drop] at this
    · rw [List.take_append_of_le_length (by omega), List.take_of_length_le (by omega)]
      exact AD.ext x2 d1
    · rw [List.drop_append_of_le_length (by omega), List.drop_of_length_le (by omega), List.nil_append]
      exact d2

variable {H : Type} {enc : TypeId × Value → H} {base : Nat} {held : Bool}

theorem arg_in : ∀ (n d : Nat) (t : TypeId) (cs : List Value) (x : DataW H × List MemPlace) (μ : Map) (h : AHeap), dataT P d t = true → DataW.trod enc P w base (fun _ => true) held n t cs = some x → HR P B μ h w → h.low = h.next →
    (∃ id loc c e', μ id = some loc ∧ h.get id = some (.cells c e' false)) → Got P B w μ h cs fun h' acs => AD P h' t acs := by
  intro n
  induction n with
  | zero => intro d t cs x μ h _ hx; simp [DataW.trod] at hx
  | succ n ih =>
    intro d t cs x μ h hdt hx hr hl hd
    cases d with
    | zero => cases hdt
    | succ d =>
    have hplain : ∀ v : Value, plainV v = true → AD P h t [v] → cs = [v] → Got P B w μ h cs fun h' acs => AD P h' t acs := by
      intro v hv ha e
      subst e
      exact ⟨h, μ, [v], hr, hl, Map.le_refl _, Ext.refl _, VRs.plain (by simp [hv]), ha, by simp [oneCell_plain hv]⟩
    unfold dataT at hdt
    split at hdt
    · rename_i ht
      obtain ⟨b, rfl, _⟩ := DataW.trod_bool ht hx
      exact hplain _ rfl (.bool b ht) rfl
    · rename_i k ht
      obtain ⟨q, rfl, _, hw⟩ := DataW.trod_int ht hx
      exact hplain _ rfl (.int q ht hw) rfl
    · rename_i ht
      obtain ⟨s, rfl, _, hs⟩ := DataW.trod_string ht hx
      exact hplain _ rfl (.string s ht hs) rfl
    · rename_i fs ht
      simp only [Bool.and_eq_true, List.all_eq_true] at hdt
      obtain ⟨hlay, hfs⟩ := hdt
      obtain ⟨xs, m, hm, _, hlen, hxl, hf⟩ := DataW.trod_struct ht hx
      obtain rfl : m = n := by omega
      have hT := TRs.fields (P := P) (tr := fun t cs => dataT P d t = true ∧ ∃ x, DataW.trod enc P w base (fun _ => true) held m t cs = some x) fs.toList 0 _ cs hlay hlen (fun f hf' => by
        obtain ⟨i, hi, hif⟩ := List.getElem_of_mem hf'
        have h1 : fs[i]? = some f := by simp at hi; simp [hi, ← hif]
        have h2 := hf i f h1
        refine ⟨hfs f hf', ?_⟩
        have hi' : i < xs.length := by rw [hxl]; simpa using hi
        exact ⟨xs[i], by rw [h2, List.getElem?_eq_getElem hi']⟩) (Nat.zero_le _)
      rw [List.drop_zero] at hT
      obtain ⟨h', μ', acs, r', l', m', x', v', d', o'⟩ := got_pieces _ cs μ h (fun p _ cs μ h ⟨q1, x, q2⟩ r l hd => ih d p.1 cs x μ h q1 q2 r l hd) hT hr hl hd
      have hB := TRs.fieldsBack (P := P) (tr := AD P h') fs.toList 0 _ acs hlay (Nat.zero_le _) (by rw [List.drop_zero]; exact d')
      exact ⟨h', μ', acs, r', l', m', x', v', .struct ht hB.1 hB.2, o'⟩
    · rename_i k e ht
      simp only [Bool.and_eq_true, beq_iff_eq] at hdt
      obtain ⟨hsz, hde⟩ := hdt
      obtain ⟨xs, m, hm, _, hlen, hxl, hf⟩ := DataW.trod_array ht hx
      obtain rfl : m = n := by omega
      have hT := TRs.rep (tr := fun t cs => dataT P d t = true ∧ ∃ x, DataW.trod enc P w base (fun _ => true) held m t cs = some x) (e := e) (sz := P.cellsOf e) k cs (by rw [hlen, hsz]) (fun i hi => by
        have h2 := hf i hi
        have hi' : i < xs.length := by omega
        exact ⟨hde, xs[i], by rw [h2, List.getElem?_eq_getElem hi']⟩)
      obtain ⟨h', μ', acs, r', l', m', x', v', d', o'⟩ := got_pieces _ cs μ h (fun p _ cs μ h ⟨q1, x, q2⟩ r l hd => ih d p.1 cs x μ h q1 q2 r l hd) hT hr hl hd
      have hB := TRs.repBack _ _ d'
      exact ⟨h', μ', acs, r', l', m', x', v', .array ht hB.1 hB.2, o'⟩
    · rename_i e ht
      simp only [Bool.and_eq_true, decide_eq_true_eq] at hdt
      obtain ⟨hsz, hde⟩ := hdt
      rcases DataW.trod_slice ht hx with ⟨rfl, _⟩ | ⟨a, len, cap, elems, rest, m, hm, rfl, _, hb, hlen, hcap, hel, hf, hrest, _⟩
      · exact hplain _ rfl (.nil ht) rfl
      obtain rfl : m = n := by omega
      obtain ⟨hr1, hr2⟩ := hrest rfl
      by_cases hc0 : cap = 0
      · subst hc0
        obtain rfl : len = 0 := by omega
        obtain ⟨id0, loc0, c0, e0, hd0, hg0⟩ := hd
        exact ⟨h, μ, [.slice (some ⟨id0, 0, none⟩) 0 0], hr, hl, Map.le_refl _, Ext.refl _, VRs.cons (.slice0 id0 0 a loc0 hd0) (VRs.nil _), .empty ht hg0, rfl⟩
      -- the cells of each element
      have hall : ∀ i, i < cap → ∃ cs', w.cells? base (a.add (i * P.cellsOf e)) (P.cellsOf e) = some cs' ∧ ∃ x, DataW.trod enc P w base (fun _ => true) held m e cs' = some x := by
        intro i hi
        by_cases hil : i < len
        · have h1 := hf i hil
          rw [List.getElem?_eq_getElem (by omega)] at h1
          obtain ⟨cs', h2, h3⟩ := Option.bind_eq_some_iff.1 h1
          exact ⟨cs', h2, _, h3⟩
        · have h1 := hr2 (i - len) (by omega)
          rw [show len + (i - len) = i by omega, List.getElem?_eq_getElem (by omega)] at h1
          obtain ⟨cs', h2, h3⟩ := Option.bind_eq_some_iff.1 h1
          exact ⟨cs', h2, _, h3⟩
      obtain ⟨b, off, spot⟩ := a
      have hspot : spot = none := by
        obtain ⟨cs', h1, _⟩ := hall 0 (by omega)
        obtain ⟨_, h2, h3⟩ := World.cells?_some h1
        have h4 := h3 0 hsz
        rw [List.getElem?_eq_getElem (by omega)] at h4
        have := World.cell?_spot h4
        simpa [Addr.add] using this
      subst hspot
      have hcell : ∀ i, i < cap → ∀ j, j < P.cellsOf e → ∃ cs', w.cells? base (⟨b, off + i * P.cellsOf e, none⟩) (P.cellsOf e) = some cs' ∧ w.cell? ⟨b, off + i * P.cellsOf e + j, none⟩ = cs'[j]? ∧ cs'.length = P.cellsOf e := by
        intro i hi j hj
        obtain ⟨cs', h1, _⟩ := hall i hi
        obtain ⟨_, h2, h3⟩ := World.cells?_some h1
        rw [Addr_add] at h1
        refine ⟨cs', h1, ?_, h2⟩
        have := h3 j hj
        rw [Addr_add, Addr_add] at this
        exact this
      obtain ⟨C, e', fr, hblk⟩ : ∃ C e' fr, w.heap[b]? = some (.cells C e' fr) := by
        obtain ⟨cs', _, h2, h3⟩ := hcell 0 (by omega) 0 hsz
        rw [List.getElem?_eq_getElem (by omega)] at h2
        unfold World.cell? at h2
        split at h2
        · rename_i c e' fr hh; exact ⟨c, e', fr, hh⟩
        · cases h2
      have hrow : ∀ j, w.cell? ⟨b, j, none⟩ = C[j]? := fun j => cell_of_row w b j C e' fr hblk
      have hfit : off + cap * P.cellsOf e ≤ C.size := by
        obtain ⟨c1, hc1⟩ : ∃ c1, cap = c1 + 1 := ⟨cap - 1, by omega⟩
        obtain ⟨cs', _, h2, h3⟩ := hcell (cap - 1) (by omega) (P.cellsOf e - 1) (by omega)
        rw [hrow, List.getElem?_eq_getElem (by omega)] at h2
        have := (Array.getElem?_eq_some_iff.1 h2).1
        subst hc1
        rw [Nat.add_sub_cancel] at this
        rw [Nat.add_mul, Nat.one_mul]; omega
      have hpiece : ∀ i, i < cap → w.cells? base (⟨b, off + i * P.cellsOf e, none⟩) (P.cellsOf e) = some (((((C.toList.drop off).take (cap * P.cellsOf e))).drop (i * P.cellsOf e)).take (P.cellsOf e)) := by
        intro i hi
        have hle : i * P.cellsOf e + P.cellsOf e ≤ cap * P.cellsOf e := by have := Nat.mul_le_mul_right (P.cellsOf e) (show i + 1 ≤ cap by omega); rw [Nat.add_mul, Nat.one_mul] at this; exact this
        obtain ⟨cs', h1, _, h4⟩ := hcell i hi 0 hsz
        rw [h1]
        congr 1
        apply List.ext_getElem?
        intro j
        rw [List.getElem?_take, List.getElem?_drop, List.getElem?_take, List.getElem?_drop]
        by_cases hj : j < P.cellsOf e
        · obtain ⟨cs2, k1, k2, _⟩ := hcell i hi j hj
          rw [h1] at k1; cases k1
          rw [if_pos hj, if_pos (by omega), ← k2, hrow, ← Array.getElem?_toList]
          congr 1; omega
        · rw [if_neg hj, List.getElem?_eq_none (by omega)]
      have hT := TRs.rep (tr := fun t cs => dataT P d t = true ∧ ∃ x, DataW.trod enc P w base (fun _ => true) held m t cs = some x) (e := e) (sz := P.cellsOf e) cap ((C.toList.drop off).take (cap * P.cellsOf e)) (by simp; omega) (fun i hi => by
        obtain ⟨cs', h1, x', h2⟩ := hall i hi
        have h3 := hpiece i hi
        have h1' : w.cells? base (⟨b, off + i * P.cellsOf e, none⟩) (P.cellsOf e) = some cs' := by rw [Addr_add] at h1; exact h1
        rw [h1'] at h3; cases h3
        exact ⟨hde, x', h2⟩)
      obtain ⟨h', μ', acs, r', l', m', x', v', d', o'⟩ := got_pieces _ _ μ h (fun p _ cs μ h ⟨q1, x, q2⟩ r l hd => ih d p.1 cs x μ h q1 q2 r l hd) hT hr hl hd
      have hB := TRs.repBack _ _ d'
      have hal : acs.length = cap * P.cellsOf e := hB.1
      obtain ⟨μ2, m2, r2, hself⟩ := r'.addRo (e := e) l' hblk (by rw [hal]; exact hfit) (by rw [hal]; exact v') o'
      have x2 : Ext h' { h'.alloc (.cells acs e false) with low := h'.next + 1 } := ⟨Nat.le_succ _, fun id hid => get_alloc_ne (by omega)⟩
      refine ⟨_, μ2, [.slice (some ⟨h'.next, 0, none⟩) len cap], r2, rfl, Map.le_trans m' m2, x'.trans x2, VRs.cons ?_ (VRs.nil _), ?_, rfl⟩
      · have := VR.slice (μ := μ2) h'.next 0 len cap cap _ hself hlen (Nat.le_refl _) (.inl rfl) (by simp only [Nat.add_zero]; exact hfit) (by simp only [Nat.zero_add, hal]; exact Nat.le_refl _) (by have : maxLen = 9223372036854775807 := rfl; omega)
        simpa using this
      · exact .slice ht hlen hcap (get_alloc_self rfl) hal o' (fun i hi => AD.ext x2 (hB.2 i (by omega)))
    · cases hdt

end Go.AM
