/- AM: a law over data: from its abstract run to what the model's run does. -/
import Derived.Test.YtgdcbjpookldoaaDoorAMArgs
import Derived.Carry
import Derived.HandedShaped
import Derived.ShutString
import Derived.ChangeOld
set_option linter.unusedSimpArgs false
set_option linter.unusedVariables false
namespace Go.AM
open Go Go.RowKit Go.ChangeShapes
variable {P : Program}

/-- An argument as it stands in an abstract heap. -/
def ADv (P : Program) (h : AHeap) (t : TypeId) (a : Value) : Prop := AD P h t a.cells.toList ∧ (aIsAgg P t = true → ∃ l : List Value, a = .agg l.toArray) ∧ (aIsAgg P t = false → a.cells = #[a])
def ADs (P : Program) (h : AHeap) : List TypeId → List Value → Prop
  | [], as => as = []
  | t :: ts, as => ∃ a as', as = a :: as' ∧ ADv P h t a ∧ ADs P h ts as'

theorem ADv.ext {h h' : AHeap} (x : Ext h h') {t : TypeId} {a : Value} (q : ADv P h t a) : ADv P h' t a := ⟨q.1.ext x, q.2⟩
theorem ADs.ext {h h' : AHeap} (x : Ext h h') : ∀ (ts : List TypeId) (as : List Value), ADs P h ts as → ADs P h' ts as
  | [], _, q => q
  | _ :: ts, _, ⟨a, as', e, q1, q2⟩ => ⟨a, as', e, q1.ext x, ADs.ext x ts as' q2⟩

variable {H : Type} {enc : TypeId × Value → H} {B : Nat} {w : World}

theorem args_in : ∀ (ts : List TypeId) (vs : List Value) (ds : List (DataW H)) (ps : List MemPlace) (μ : Map) (h : AHeap), (∀ t ∈ ts, dataT P 10 t = true) → DataW.TrodAll enc P w 0 (fun _ => true) true ts vs ds ps →
    (∀ (j : Nat) t v, ts[j]? = some t → vs[j]? = some v → (aIsAgg P t = true → ∃ arr, v = .agg arr) ∧ (aIsAgg P t = false → ∀ arr, v ≠ .agg arr)) → HR P B μ h w → h.low = h.next → (∃ id loc c e', μ id = some loc ∧ h.get id = some (.cells c e' false)) →
    ∃ h' μ' as, HR P B μ' h' w ∧ h'.low = h'.next ∧ μ.le μ' ∧ Ext h h' ∧ VRs μ' as vs ∧ ADs P h' ts as
  | [], vs, ds, ps, μ, h, _, hT, _, hr, hl, _ => by
    obtain ⟨rfl, _, _⟩ := trodAll_nil hT
    exact ⟨h, μ, [], hr, hl, Map.le_refl _, Ext.refl _, VRs.nil _, rfl⟩
  | t :: ts, vs, ds, ps, μ, h, hdt, hT, hag, hr, hl, ⟨id0, loc0, c0, e0, hd, hg0⟩ => by
    obtain ⟨v, vs', d, ds', p, p', rfl, rfl, rfl, ⟨fuel, hf⟩, hT'⟩ := trodAll_cons hT
    obtain ⟨h1, μ1, acs, r1, l1, m1, x1, v1, a1, o1⟩ := arg_in fuel 10 t _ _ μ h (hdt t (by simp)) hf hr hl ⟨id0, loc0, c0, e0, hd, hg0⟩
    obtain ⟨h2, μ2, as, r2, l2, m2, x2, v2, a2⟩ := args_in ts vs' ds' p' μ1 h1 (fun t ht => hdt t (by simp [ht])) hT' (fun j t v h1 h2 => hag (j + 1) t v (by simpa using h1) (by simpa using h2)) r1 l1 ⟨id0, loc0, c0, e0, m1 _ _ hd, x1.get hg0⟩
    have hone : ∃ a, VR μ1 a v ∧ a.cells.toList = acs ∧ (aIsAgg P t = true → ∃ l : List Value, a = .agg l.toArray) ∧ (aIsAgg P t = false → a.cells = #[a]) := by
      have hnon : v.cells = #[v] → ∃ a, VR μ1 a v ∧ acs = [a] := by
        intro e
        rw [e] at v1
        obtain ⟨a, as', e1⟩ : ∃ a as', acs = a :: as' := by
          cases acs with
          | nil => have := v1.1; simp at this
          | cons a as' => exact ⟨a, as', rfl⟩
        subst e1
        have : as' = [] := by have := v1.1; simp at this; exact this
        subst this
        exact ⟨a, v1.head, rfl⟩
      cases v with
      | agg arr =>
        exact ⟨.agg acs.toArray, VR.agg' (by simpa [Value.cells] using v1), by simp [Value.cells], fun _ => ⟨acs, rfl⟩, fun q => absurd rfl ((hag 0 t _ rfl rfl).2 q arr)⟩
      | _ =>
        obtain ⟨a, ha, rfl⟩ := hnon rfl
        refine ⟨a, ha, ?_, fun q => ?_, fun q => ?_⟩
        · cases ha <;> rfl
        · obtain ⟨arr, e⟩ := (hag 0 t _ rfl rfl).1 q; cases e
        · cases ha <;> rfl
    obtain ⟨a, ha, e1, e2⟩ := hone
    subst e1
    exact ⟨h2, μ2, a :: as, r2, l2, Map.le_trans m1 m2, x1.trans x2, VRs.cons (ha.mono m2) v2, a, as, rfl, ⟨a1.ext x2, e2⟩, a2⟩

theorem trodAll_below (hl : laidOutB P = true) {W W' : World} (hb : Below W.heap.size W W') : ∀ (ts : List TypeId) (vs : List Value) (ds : List (DataW H)) (ps : List MemPlace), (∀ t ∈ ts, P.readableRec t = true ∧ t < P.types.size) →
    DataW.TrodAll enc P W 0 (fun _ => true) true ts vs ds ps → (∀ x ∈ ps, x.block < W.heap.size) → DataW.TrodAll enc P W' 0 (fun b => decide (b < W.heap.size)) true ts vs ds ps
  | [], vs, ds, ps, _, hT, _ => by obtain ⟨rfl, rfl, rfl⟩ := trodAll_nil hT; rfl
  | t :: ts, vs, ds, ps, hr, hT, hps => by
    obtain ⟨v, vs', d, ds', p, p', rfl, rfl, rfl, h1, hT'⟩ := trodAll_cons hT
    refine ⟨p, p', Below.trod hl (hr t (by simp)).1 (hr t (by simp)).2 h1 hb (fun x hx => hps x (by simp [hx])), ?_, rfl⟩
    exact trodAll_below hl hb ts vs' ds' p' (fun t ht => hr t (by simp [ht])) hT' (fun x hx => hps x (by simp [hx]))

theorem agg_of_okWide {W : World} {r : Reach} {base : Nat} {t : TypeId} {v : Value} (h : Value.okWide P W r base t v) (ha : aIsAgg P t = true) : ∃ arr, v = .agg arr := by
  unfold aIsAgg at ha
  unfold Value.okWide at h
  split at ha
  · rename_i e; rw [e] at h; obtain ⟨cs, e, _⟩ := h; exact ⟨cs, e⟩
  · rename_i e; rw [e] at h; obtain ⟨cs, e, _⟩ := h; exact ⟨cs, e⟩
  · cases ha

theorem nonagg_of_okWide {W : World} {r : Reach} {base : Nat} {t : TypeId} {v : Value} (h : Value.okWide P W r base t v) (ha : aIsAgg P t = false) : ∀ arr, v ≠ .agg arr := by
  rintro arr rfl
  unfold aIsAgg at ha
  unfold Value.okWide at h
  cases hu : P.underlying t with
  | none => rw [hu] at h; simp [Cell.okWide, Cell.ok, hu] at h
  | some u =>
    rw [hu] at h ha
    cases u <;> simp [Cell.okWide, Cell.ok, hu] at h ha

/-! ### What the arguments are, opened -/
theorem ADv.cells1 {h : AHeap} {t : TypeId} {a : Value} (q : ADv P h t a) (hn : aIsAgg P t = false) : AD P h t [a] := by
  have := q.1; rw [q.2.2 hn] at this; simpa using this
theorem AD.slice_inv {h : AHeap} {t e : TypeId} {cs : List Value} (ht : P.underlying t = some (.slice e)) (q : AD P h t cs) :
    cs = [.slice none 0 0] ∨ (∃ id c e', cs = [.slice (some ⟨id, 0, none⟩) 0 0] ∧ h.get id = some (.cells c e' false)) ∨ ∃ id len cap c, cs = [.slice (some ⟨id, 0, none⟩) len cap] ∧ len ≤ cap ∧ cap ≤ maxLen ∧ h.get id = some (.cells c e false) ∧ c.length = cap * P.cellsOf e ∧ c.all (·.oneCell') = true ∧
      ∀ i, i < len → AD P h e ((c.drop (i * P.cellsOf e)).take (P.cellsOf e)) := by
  cases q with
  | nil ht' => exact .inl rfl
  | empty ht' hid => exact .inr (.inl ⟨_, _, _, rfl, hid⟩)
  | slice ht' h1 h2 h3 h4 h5 h6 => rw [ht] at ht'; cases ht'; exact .inr (.inr ⟨_, _, _, _, rfl, h1, h2, h3, h4, h5, h6⟩)
  | bool b ht' => rw [ht] at ht'; cases ht'
  | int n ht' => rw [ht] at ht'; cases ht'
  | string s ht' => rw [ht] at ht'; cases ht'
  | struct ht' => rw [ht] at ht'; cases ht'
  | array ht' => rw [ht] at ht'; cases ht'
theorem AD.int_inv {h : AHeap} {t : TypeId} {k : IntKind} {cs : List Value} (ht : P.underlying t = some (.int k)) (q : AD P h t cs) : ∃ n, cs = [.int k n] ∧ (Lit.int k n).wf = true := by
  cases q with
  | int n ht' hw => rw [ht] at ht'; cases ht'; exact ⟨n, rfl, hw⟩
  | bool b ht' => rw [ht] at ht'; cases ht'
  | string s ht' => rw [ht] at ht'; cases ht'
  | struct ht' => rw [ht] at ht'; cases ht'
  | array ht' => rw [ht] at ht'; cases ht'
  | nil ht' => rw [ht] at ht'; cases ht'
  | empty ht' => rw [ht] at ht'; cases ht'
  | slice ht' => rw [ht] at ht'; cases ht'
theorem AD.string_inv {h : AHeap} {t : TypeId} {cs : List Value} (ht : P.underlying t = some .string) (q : AD P h t cs) : ∃ s, cs = [.string s] ∧ s.size ≤ maxLen := by
  cases q with
  | string s ht' hw => exact ⟨s, rfl, hw⟩
  | int n ht' => rw [ht] at ht'; cases ht'
  | bool b ht' => rw [ht] at ht'; cases ht'
  | struct ht' => rw [ht] at ht'; cases ht'
  | array ht' => rw [ht] at ht'; cases ht'
  | nil ht' => rw [ht] at ht'; cases ht'
  | empty ht' => rw [ht] at ht'; cases ht'
  | slice ht' => rw [ht] at ht'; cases ht'
/-- Elements of a slice that came in, each of which reads in some way. -/
theorem AD.rd {α : Type} {h : AHeap} {t e : TypeId} {cs : List Value} {sz : Nat} (ht : P.underlying t = some (.slice e)) (hsz : P.cellsOf e = sz) (enc : α → List Value) (henc : ∀ cs, AD P h e cs → ∃ x, cs = enc x) (q : AD P h t cs) :
    ∃ (v : Value) (l : List α), cs = [v] ∧ Rd h e sz v l.length (l.flatMap enc) := by
  subst hsz
  rcases q.slice_inv ht with rfl | ⟨id, c0, e0, rfl, hg0⟩ | ⟨id, len, cap, c, rfl, h1, h2, h3, h4, h5, h6⟩
  · exact ⟨_, [], rfl, Rd.nil _ _ _⟩
  · exact ⟨_, [], rfl, .inr ⟨id, 0, 0, c0, e0, false, rfl, Nat.le_refl _, hg0, by simp, by simp, .inl rfl⟩⟩
  · have key : ∀ m, m ≤ len → ∃ l : List α, l.length = m ∧ c.take (m * P.cellsOf e) = l.flatMap enc := by
      intro m
      induction m with
      | zero => intro _; exact ⟨[], rfl, by simp⟩
      | succ m ih =>
        intro hm
        obtain ⟨l, hl, hc⟩ := ih (by omega)
        obtain ⟨x, hx⟩ := henc _ (h6 m (by omega))
        refine ⟨l ++ [x], by simp [hl], ?_⟩
        rw [List.flatMap_append, ← hc, List.flatMap_singleton, ← hx, Nat.add_mul, Nat.one_mul, List.take_add]
    obtain ⟨l, hl, hc⟩ := key len (Nat.le_refl _)
    have hle := Nat.mul_le_mul_right (P.cellsOf e) h1
    refine ⟨_, l, rfl, .inr ⟨id, 0, cap, c, e, false, by rw [hl], by rw [hl]; exact h1, h3, by rw [hl]; omega, by rw [hl, List.drop_zero]; exact hc, .inr rfl⟩⟩

theorem flatMap_one {α β : Type} (f : α → β) (l : List α) : (l.flatMap fun x => [f x]) = l.map f := by
  induction l with
  | nil => rfl
  | cons x l ih => rw [List.flatMap_cons, ih]; rfl
/-- A slice of numbers. -/
theorem ADv.ints {h : AHeap} {t e : TypeId} {k : IntKind} {a : Value} (ht : P.underlying t = some (.slice e)) (he : P.underlying e = some (.int k)) (hc : P.cellsOf e = 1) (q : ADv P h t a) :
    ∃ l : List Int, Rd h e 1 a l.length (l.map (.int k)) ∧ ∀ n ∈ l, (Lit.int k n).wf = true := by
  have q1 := q.cells1 (by unfold aIsAgg; rw [ht])
  obtain ⟨v, l, hv, hr⟩ := AD.rd (α := { n : Int // (Lit.int k n).wf = true }) ht hc (fun n => [.int k n.1]) (fun cs hcs => by obtain ⟨n, e1, hw⟩ := hcs.int_inv he; exact ⟨⟨n, hw⟩, e1⟩) q1
  cases hv
  refine ⟨l.map (·.1), ?_, fun n hn => ?_⟩
  · rw [List.length_map, List.map_map]
    rw [flatMap_one] at hr
    exact hr
  · obtain ⟨x, _, rfl⟩ := List.mem_map.1 hn; exact x.2
theorem ADv.int {h : AHeap} {t : TypeId} {k : IntKind} {a : Value} (ht : P.underlying t = some (.int k)) (q : ADv P h t a) : ∃ n : Int, a = .int k n ∧ (Lit.int k n).wf = true := by
  obtain ⟨n, e, hw⟩ := (q.cells1 (by unfold aIsAgg; rw [ht])).int_inv ht
  cases e; exact ⟨n, rfl, hw⟩
theorem ADv.string {h : AHeap} {t : TypeId} {a : Value} (ht : P.underlying t = some .string) (q : ADv P h t a) : ∃ s : ByteArray, a = .string s ∧ s.size ≤ maxLen := by
  obtain ⟨n, e, hw⟩ := (q.cells1 (by unfold aIsAgg; rw [ht])).string_inv ht
  cases e; exact ⟨n, rfl, hw⟩

end Go.AM
