/- AM: maps with whole numbers for keys; slices.Insert. -/
import Derived.Test.YtnkbdbopiancmaaAMOps3
import Derived.Test.YtnkbdbopiancmaaAMInsert
set_option linter.unusedSimpArgs false
set_option linter.unusedVariables false
namespace Go.AM
variable {P : Program} {prims : Prims}

/-! ### Maps -/
def encM (l : List (Int × Value)) : List (Value × Value) := l.map fun p => (.int .i64 p.1, p.2)
def mgetL : List (Int × Value) → Int → Option Value
  | [], _ => none
  | (k, v) :: l, x => if x = k then some v else mgetL l x
def msetL : List (Int × Value) → Int → Value → List (Int × Value)
  | [], x, v => [(x, v)]
  | (k, w) :: l, x, v => if x = k then (x, v) :: l else (k, w) :: msetL l x v
theorem mget_set (l : List (Int × Value)) (x : Int) (v : Value) (y : Int) : mgetL (msetL l x v) y = if y = x then some v else mgetL l y := by
  induction l with
  | nil => simp [msetL, mgetL]
  | cons p l ih =>
    obtain ⟨k, w⟩ := p
    unfold msetL
    by_cases h : x = k
    · subst h
      rw [if_pos rfl]
      unfold mgetL
      by_cases h2 : y = x <;> simp [h2]
    · rw [if_neg h]
      unfold mgetL
      rw [ih]
      by_cases h2 : y = k
      · subst h2
        simp [Ne.symm h]
      · simp [h2]
theorem find_enc (x : Int) (v : Value) : ∀ (l : List (Int × Value)) (i : Nat), (aFind (.int .i64 x) (encM l) i = some none ∧ mgetL l x = none ∧ msetL l x v = l ++ [(x, v)]) ∨ ∃ j w, aFind (.int .i64 x) (encM l) i = some (some (i + j, w)) ∧ mgetL l x = some w ∧ msetL l x v = l.set j (x, v)
  | [], i => .inl ⟨rfl, rfl, rfl⟩
  | (k, w) :: l, i => by
    by_cases h : x = k
    · subst h
      refine .inr ⟨0, w, ?_, by simp [mgetL], by simp [msetL]⟩
      simp [encM, aFind, aKeyEq]
    · have e : aFind (.int .i64 x) (encM ((k, w) :: l)) i = aFind (.int .i64 x) (encM l) (i + 1) := by
        have : (x == k) = false := by simp [h]
        simp [encM, aFind, aKeyEq, this]
      rcases find_enc x v l (i + 1) with ⟨a, b, c⟩ | ⟨j, u, a, b, c⟩
      · exact .inl ⟨by rw [e, a], by simp [mgetL, h, b], by simp [msetL, h, c]⟩
      · exact .inr ⟨j + 1, u, by rw [e, a]; congr 3; omega, by simp [mgetL, h, b], by simp [msetL, h, c]⟩

/-- What maps of whole numbers ask of their type: the zero of their elements. -/
def mpI (P : Program) (t : TypeId) : Option Value := match P.underlying t with
  | some (.map kt et) => match P.underlying kt with
    | some (.int .i64) => (aZero P et).bind fun z => if closedV z then some z else none
    | _ => none
  | _ => none
theorem mpI_el {t : TypeId} {z : Value} (h : mpI P t = some z) : ∃ kt et, P.underlying t = some (.map kt et) ∧ P.underlying kt = some (.int .i64) ∧ aZero P et = some z ∧ closedV z = true := by
  unfold mpI at h
  split at h
  · rename_i kt et hu
    split at h
    · rename_i hk
      obtain ⟨z', h1, h2⟩ := Option.bind_eq_some_iff.1 h
      split at h2
      · rename_i hc; cases h2; exact ⟨kt, et, hu, hk, h1, hc⟩
      · cases h2
    · cases h
  · cases h
theorem lookup_enc {h : AHeap} {t : TypeId} {z : Value} (hz : mpI P t = some z) {id : Nat} {l : List (Int × Value)} (hg : h.get id = some (.map (encM l))) (x : Int) : aLookup P h t (.map (some id)) (.int .i64 x) false = some ((mgetL l x).getD z) := by
  obtain ⟨kt, et, hu, hk, h1, h2⟩ := mpI_el hz
  unfold aLookup
  simp only [hu]
  have : aKeyOk P kt (.int .i64 x) = true := by simp [aKeyOk, hk]
  rw [this]
  simp only [aEntries, hg, Option.bind_some]
  rcases find_enc x undef l 0 with ⟨a, b, _⟩ | ⟨j, w, a, b, _⟩
  · simp [a, b, h1, h2]
  · simp [a, b]
theorem update_enc {h : AHeap} {t : TypeId} {z : Value} (hz : mpI P t = some z) {id : Nat} {l : List (Int × Value)} (hg : h.get id = some (.map (encM l))) (hl : h.low ≤ id) (x : Int) (v : Value) : aMapUpdate P h t (.map (some id)) (.int .i64 x) v = some (h.put id (some (.map (encM (msetL l x v))))) := by
  obtain ⟨kt, et, hu, hk, h1, h2⟩ := mpI_el hz
  unfold aMapUpdate
  simp only [hu, hg]
  have hko : aKeyOk P kt (.int .i64 x) = true := by simp [aKeyOk, hk]
  rw [hko]
  have hn : ¬ ((!true || decide (id < h.low)) = true) := by simp; omega
  rw [if_neg hn]
  rcases find_enc x v l 0 with ⟨a, _, c⟩ | ⟨j, w, a, _, c⟩
  · simp only [a, Option.bind_some]
    rw [c]; simp [encM]
  · simp only [a, Option.bind_some, Nat.zero_add]
    rw [c]; simp [encM, List.map_set]
/-! ### slices.Insert of one element -/
def capPos (s : Value) : Prop := match s with | .slice (some _) _ c => 0 < c | _ => True
theorem insert_w (hp : PMono prims) {g : FuncId} {e : TypeId} {sz b : Nat} (hpr : prims g = some (pInsert P e)) (hi : (P.info? e).map (fun i => (i.size, i.bytes)) = some (sz, b)) (h0 : 0 < sz)
    {h : AHeap} {s : Value} {n c : Nat} {a : Addr} {cs ds : List Value} {i : Nat} {Q : VQ} (hs : Ow h e sz s n cs) (hpos : capPos s) (hv : Ow h e sz (.slice (some a) 1 c) 1 ds) (hne : ∀ id, idOf s id → id ≠ a.block) (hin : i ≤ n) (hl : h.low ≤ h.next) (hr : (n + 1) * (b + 1) ≤ roomy) (hr2 : n + 1 ≤ roomy) (hone : cs.all (·.oneCell') = true) (hone2 : ds.all (·.oneCell') = true)
    (hq : ∀ v h', Ow h' e sz v (n + 1) (cs.take (i * sz) ++ ds ++ cs.drop (i * sz)) → capPos v → Fr (idOf s) h h' → (∀ id, idOf v id → idOf s id ∨ h.next ≤ id) → Q v h') :
    CallW P prims (.func (.func g) #[] #[]) [s, .int .i64 (i : Int), .slice (some a) 1 c] h Q := by
  obtain ⟨inf, hi1, hi2⟩ := Option.map_eq_some_iff.1 hi
  cases hi2
  have hcl : cs.length = n * inf.size := hs.length
  rcases hv with ⟨q, _⟩ | ⟨vid, voff, vcap, vc, vo, q, hvc, hvg, hvf, hvd, hvl⟩
  · cases q
  cases q
  have hvf1 : voff + 1 * inf.size ≤ vc.length := by have := Nat.mul_le_mul_right inf.size hvc; omega
  have hdl : ds.length = 1 * inf.size := by rw [← hvd]; simp; omega
  suffices hh : ∃ v h', pInsert P e (callE P prims 0) ((#[] : Array Value).toList ++ [s, .int .i64 (i : Int), .slice (some ⟨vid, voff, none⟩) 1 c] ++ (#[] : Array Value).toList) h = some (v, h') ∧ Q v h' by
    obtain ⟨v, h', h1, h2⟩ := hh
    exact callW_prim hp hpr ⟨0, h1⟩ h2
  have hmain : 0 < 1 ∧ e = e ∧ 0 < inf.size ∧ voff + 1 * inf.size ≤ vc.length ∧ h.low ≤ vid ∧ (0 : Int) ≤ (i : Int) ∧ (i : Int) ≤ (n : Int) ∧ (n + 1) * (inf.bytes + 1) ≤ roomy ∧ n + 1 ≤ roomy := ⟨by omega, rfl, h0, hvf1, hvl, by omega, by omega, hr, hr2⟩
  have hlen2 : (cs.take (i * inf.size) ++ ds ++ cs.drop (i * inf.size)).length = (n + 1) * inf.size := by
    have := Nat.mul_le_mul_right inf.size hin
    simp only [List.length_append, List.length_take, List.length_drop, hcl, hdl, Nat.add_mul]; omega
  rcases hs with ⟨rfl, rfl, rfl⟩ | ⟨id, off, cap, cc, o, rfl, hnc, hg, hf, hd, hlo⟩
  · refine ⟨sliceTo h.next 0 1 1, h.alloc (.cells ds e true), ?_, ?_⟩
    · simp only [List.nil_append, List.append_nil, pInsert, hi1, Option.bind_some, hvg]
      rw [if_pos (by simpa using hmain)]
      simp [hvd]
      rw [← hvd]; simp
    · obtain rfl : i = 0 := by omega
      refine hq _ _ (.inr ⟨h.next, 0, 1, ds, true, rfl, Nat.le_refl _, get_alloc_self rfl, by omega, ?_, hl⟩) (by unfold sliceTo capPos; simp) ((Fr.refl _ h).alloc _) (fun id q => .inr (by unfold sliceTo idOf at q; simp only at q; omega))
      rw [List.drop_zero, List.take_of_length_le (by omega)]; simp
  · have hc0 : 0 < cap := hpos
    have hcn : off + n * inf.size ≤ cc.length := by have := Nat.mul_le_mul_right inf.size hnc; omega
    have hidv : id ≠ vid := hne id rfl
    have hc1 : e = e ∧ id ≠ vid ∧ 0 < cap ∧ off + n * inf.size ≤ cc.length ∧ h.low ≤ id := ⟨rfl, hidv, hc0, hcn, hlo⟩
    have unf : pInsert P e (callE P prims 0) ((#[] : Array Value).toList ++ [.slice (some ⟨id, off, none⟩) n cap, .int .i64 (i : Int), .slice (some ⟨vid, voff, none⟩) 1 c] ++ (#[] : Array Value).toList) h =
        (if n + 1 ≤ cap then
                (if h.low ≤ id ∧ off + (n + 1) * inf.size ≤ cc.length then
                  some (.slice (some ⟨id, off, none⟩) (n + 1) cap, h.put id (some (.cells (setRow cc off (cs.take (i * inf.size) ++ ds ++ cs.drop (i * inf.size))) e o)))
                else none)
              else if n = cap then
                (if o = true ∧ off + n * inf.size = cc.length then
                  (if h.low ≤ id then some (sliceTo h.next 0 (n + 1) (n + 1), (h.put id none).alloc (.cells (cs.take (i * inf.size) ++ ds ++ cs.drop (i * inf.size)) e true)) else none)
                else some (sliceTo h.next 0 (n + 1) (n + 1), h.alloc (.cells (cs.take (i * inf.size) ++ ds ++ cs.drop (i * inf.size)) e true)))
              else none) := by
      simp only [List.nil_append, List.append_nil, pInsert, hi1, Option.bind_some, hvg]
      rw [if_pos (⟨hmain.1, trivial, hmain.2.2⟩)]
      simp only [hg]
      rw [if_pos (⟨trivial, hc1.2⟩)]
      simp only [hd, hvd, Int.toNat_natCast]
    rw [unf]
    have ownAll : ∀ h1 : AHeap, h1.low = h.low → h1.next = h.next → Ow (h1.alloc (.cells (cs.take (i * inf.size) ++ ds ++ cs.drop (i * inf.size)) e true)) e inf.size (sliceTo h.next 0 (n + 1) (n + 1)) (n + 1) (cs.take (i * inf.size) ++ ds ++ cs.drop (i * inf.size)) := fun h1 e1 e2 =>
      .inr ⟨h.next, 0, n + 1, _, true, by simp [sliceTo], Nat.le_refl _, get_alloc_self e2.symm, by rw [hlen2]; omega, by rw [List.drop_zero, List.take_of_length_le (Nat.le_of_eq hlen2)], by simp only [lw_alloc]; omega⟩
    by_cases hfit : n + 1 ≤ cap
    · have hfit2 : off + (n + 1) * inf.size ≤ cc.length := by have := Nat.mul_le_mul_right inf.size hfit; omega
      rw [if_pos hfit, if_pos ⟨hlo, hfit2⟩]
      refine ⟨_, _, rfl, hq _ _ (.inr ⟨id, off, cap, _, o, rfl, hfit, get_put_self rfl (get_some_lt hg), by rw [setRow_len]; exact hf, ?_, hlo⟩) hc0 ((Fr.refl _ h).put _ (.inr rfl)) (fun id' q => .inl q)⟩
      apply List.ext_getElem?
      intro j
      rw [List.getElem?_take, List.getElem?_drop, setRow_get _ _ _ (by rw [hlen2]; omega), hlen2]
      by_cases hj : j < (n + 1) * inf.size
      · rw [if_pos hj, if_pos (by omega)]; congr 1; omega
      · rw [if_neg hj, List.getElem?_eq_none (by omega)]
    · rw [if_neg hfit, if_pos (by omega)]
      by_cases ho : o = true ∧ off + n * inf.size = cc.length
      · rw [if_pos ho, if_pos hlo]
        refine ⟨_, _, rfl, hq _ _ (ownAll (h.put id none) rfl rfl) (by unfold sliceTo capPos; simp) (((Fr.refl (idOf (.slice (some ⟨id, off, none⟩) n cap)) h).put (id := id) _ (.inr rfl)).alloc _) (fun id' q => .inr ?_)⟩
        have : id' = h.next := by simpa [sliceTo, idOf] using q
        omega
      · rw [if_neg ho]
        refine ⟨_, _, rfl, hq _ _ (ownAll h rfl rfl) (by unfold sliceTo capPos; simp) ((Fr.refl _ h).alloc _) (fun id' q => .inr ?_)⟩
        have : id' = h.next := by simpa [sliceTo, idOf] using q
        omega

/-! ### Slicing -/
/-- What is cut out of a slice. -/
theorem slc {h : AHeap} {t e : TypeId} {sz id off n cap : Nat} {c : List Value} {o : Bool} (he : elI P t = some (e, sz)) (hg : h.get id = some (.cells c e o)) (lo hi mx : Option Value) : aSliceH P h t (.slice (some ⟨id, off, none⟩) n cap) lo hi mx = (aSliceBounds n cap lo hi mx).map fun p => .slice (some ⟨id, off + p.1 * sz, none⟩) (p.2.1 - p.1) (p.2.2 - p.1) := by
  unfold elI at he
  split at he
  · rename_i e' hu
    obtain ⟨inf, hinf, hie⟩ := Option.map_eq_some_iff.1 he
    cases hie
    unfold aSliceH aSlice
    simp only [hu, hinf, Option.bind_some, hg, if_true]
    cases aSliceBounds n cap lo hi mx with
    | none => rfl
    | some p => rfl
  · cases he
theorem slb {k : IntKind} {i : Int} {y : Nat} (h0 : 0 ≤ i) (h1 : i ≤ y) : aSliceBound (.int k i) y = some i.toNat := by
  unfold aSliceBound; simp only; rw [if_pos ⟨h0, h1⟩]
theorem slbs_lo {n cap : Nat} {v : Value} {l : Nat} (h : aSliceBound v n = some l) : aSliceBounds n cap (some v) none none = some (l, n, cap) := by simp [aSliceBounds, h]
theorem slbs_hi {n cap : Nat} {v : Value} {l : Nat} (h : aSliceBound v cap = some l) : aSliceBounds n cap none (some v) none = some (0, l, cap) := by simp [aSliceBounds, h]
theorem Ow.cut {h : AHeap} {e : TypeId} {sz id off n cap i j m : Nat} {cs : List Value} (hs : Ow h e sz (.slice (some ⟨id, off, none⟩) n cap) n cs) (hij : i ≤ j) (hjn : j ≤ n) (hm : j ≤ m) (hmc : m ≤ cap) : Ow h e sz (.slice (some ⟨id, off + i * sz, none⟩) (j - i) (m - i)) (j - i) ((cs.drop (i * sz)).take ((j - i) * sz)) := by
  rcases hs with ⟨q, _⟩ | ⟨id', off', cap', c, o, q, hnc, hg, hf, hd, hlo⟩
  · cases q
  · cases q
    refine .inr ⟨id, off + i * sz, m - i, c, o, rfl, by omega, hg, ?_, ?_, hlo⟩
    · have := Nat.mul_le_mul_right sz hmc
      have := Nat.mul_le_mul_right sz (show i ≤ m by omega)
      rw [Nat.sub_mul]; omega
    · rw [← hd, List.drop_take, List.take_take, List.drop_drop]
      congr 1
      rw [← Nat.sub_mul, Nat.min_eq_left (Nat.mul_le_mul_right _ (by omega))]
end Go.AM
