/- AM: append within the room there is; clear. -/
import Derived.Test.YtdimjemgganegaaDoorAMOps4
set_option linter.unusedSimpArgs false
set_option linter.unusedVariables false
namespace Go.AM
variable {P : Program} {prims : Prims}

theorem append_in {h : AHeap} {t t' e : TypeId} {sz b id off i m cap : Nat} {c : List Value} {o : Bool} {x : Value} {ds : List Value} {K : VQ} (ht : apI P t = some (e, sz, b)) (ht' : apI P t' = some (e, sz, b)) (hg : h.get id = some (.cells c e o)) (hlo : h.low ≤ id) (hf : off + cap * sz ≤ c.length) (him : i + m ≤ cap)
    (hx : Rd h e sz x m ds) (hd : ds.all (·.oneCell') = true) (h1 : (i + m) * (b + 1) ≤ roomy) (h2 : i + m ≤ roomy)
    (hq : ∀ h' c', h'.get id = some (.cells c' e o) → c'.length = c.length → (c'.drop off).take ((i + m) * sz) = (c.drop off).take (i * sz) ++ ds → Fr (fun k => k = id) h h' → h'.next = h.next → K (.slice (some ⟨id, off, none⟩) (i + m) cap) h') :
    optR ((aNews P h #[t, t'] x).bind fun r => aAppend P h t (.slice (some ⟨id, off, none⟩) i cap) r.1 r.2.1 r.2.2) K := by
  rw [news_rd ht ht' hx hd]
  obtain ⟨inf, z, hu, hi, rfl, rfl, hz, hzs, hzp, h0⟩ := apI_el ht
  have hds := hx.length
  have hcap := Nat.mul_le_mul_right inf.size him
  simp only [Option.bind_some]
  unfold aAppend
  simp only [hu, hi, Option.bind_some]
  rw [if_neg (by simp only [not_or]; exact ⟨h0, by simp [hds], by omega, by omega, by simp [hd]⟩), if_pos him]
  by_cases hm : m = 0
  · subst hm
    have : ds = [] := List.eq_nil_of_length_eq_zero (by omega)
    subst this
    simp only [if_true, optR_some]
    exact hq h c hg rfl (by simp) (Fr.refl _ _) rfl
  · rw [if_neg hm]
    simp only [Bool.false_eq_true, if_false, hg]
    rw [if_pos ⟨hlo, trivial, by omega⟩, optR_some]
    refine hq _ _ (get_put_self rfl (get_some_lt hg)) (setRow_len _ _ _) ?_ ((Fr.refl _ h).put _ (.inr rfl)) rfl
    apply List.ext_getElem?
    intro j
    have him2 : i * inf.size ≤ (i + m) * inf.size := Nat.mul_le_mul_right _ (by omega)
    have hsum : (i + m) * inf.size = i * inf.size + m * inf.size := Nat.add_mul _ _ _
    rw [List.getElem?_take, List.getElem?_drop, setRow_get _ _ _ (by omega), List.getElem?_append]
    simp only [List.length_take, List.length_drop, List.getElem?_take, List.getElem?_drop]
    by_cases hj : j < (i + m) * inf.size
    · rw [if_pos hj]
      by_cases hj2 : j < i * inf.size
      · rw [if_neg (by omega), if_pos (by omega), if_pos hj2]
      · rw [if_pos (by omega), if_neg (by omega)]; congr 1; omega
    · rw [if_neg hj, if_neg (by omega), List.getElem?_eq_none (by omega)]

theorem repeated_len (z : List Value) (n : Nat) : (repeated z n).length = n * z.length := by
  induction n with
  | zero => simp [repeated]
  | succ n ih => rw [repeated, List.length_append, ih, Nat.add_mul, Nat.one_mul]; omega
theorem clear_in {h : AHeap} {t e : TypeId} {sz b id off n cap : Nat} {c : List Value} {o : Bool} {K : VQ} (ht : apI P t = some (e, sz, b)) (hg : h.get id = some (.cells c e o)) (hlo : h.low ≤ id) (hf : off + n * sz ≤ c.length)
    (hq : ∀ h' c', h'.get id = some (.cells c' e o) → c'.length = c.length → (∀ k, k < off → c'[k]? = c[k]?) → Fr (fun k => k = id) h h' → h'.next = h.next → K (.tuple #[]) h') : optT (aClear P h t (.slice (some ⟨id, off, none⟩) n cap)) K := by
  obtain ⟨inf, z, hu, hi, rfl, rfl, hz, hzs, hzp, h0⟩ := apI_el ht
  unfold aClear
  simp only [hu]
  by_cases hn : n = 0
  · rw [if_pos hn]
    exact ⟨h, rfl, hq h c hg rfl (fun _ _ => rfl) (Fr.refl _ _) rfl⟩
  · rw [if_neg hn]
    simp only [hg, hi, hz, Option.bind_some]
    rw [if_pos ⟨hlo, trivial, hf, hzs, by omega, hzp⟩]
    have hl : (repeated z.cells.toList n).length = n * inf.size := by rw [repeated_len]; simp [hzs]
    refine ⟨_, rfl, hq _ _ (get_put_self rfl (get_some_lt hg)) (setRow_len _ _ _) (fun k hk => ?_) ((Fr.refl _ h).put _ (.inr rfl)) rfl⟩
    rw [setRow_get _ _ _ (by omega), if_neg (by omega)]

theorem bsW_agg2 {ty e : TypeId} {sz : Nat} (hb : bsI P ty = some (e, sz)) (h : AHeap) (K : VQ) (l l' : List Value) (hl : l.length = sz) (hl' : l'.length = sz) (hz : sz ≤ 524288) (h1 : l.all (·.oneCell') = true) (h1' : l'.all (·.oneCell') = true) : bsW P ty 2 [(0, .agg l.toArray), (1, .agg l'.toArray)] h K = K (.slice (some ⟨h.next, 0, none⟩) 2 2) (h.alloc (.cells (l ++ l') e false)) :=
  bsW_of hb rfl (by omega) (by rw [flatP_agg _ _ _ _ hl, flatP_agg _ _ _ _ hl', flatP_nil]; simp) (by rw [List.all_append, h1, h1']; rfl)

/-! ### Bounds of a cut, by whole numbers -/
section
variable {n cap : Nat} {k k' k'' : IntKind} {l m q : Int}
theorem slbs_lo_i (h0 : 0 ≤ l) (h1 : l ≤ n) : aSliceBounds n cap (some (.int k l)) none none = some (l.toNat, n, cap) := slbs_lo (slb h0 h1)
theorem slbs_hi_i (h0 : 0 ≤ m) (h1 : m ≤ cap) : aSliceBounds n cap none (some (.int k m)) none = some (0, m.toNat, cap) := slbs_hi (slb h0 h1)
theorem slbs_lh_i (h0 : 0 ≤ l) (h1 : l ≤ m) (h2 : m ≤ cap) : aSliceBounds n cap (some (.int k l)) (some (.int k' m)) none = some (l.toNat, m.toNat, cap) := slbs_lh (slb (by omega) h2) (slb h0 (by omega))
theorem slbs_lhm_i (h0 : 0 ≤ l) (h1 : l ≤ m) (h2 : m ≤ q) (h3 : q ≤ cap) : aSliceBounds n cap (some (.int k l)) (some (.int k' m)) (some (.int k'' q)) = some (l.toNat, m.toNat, q.toNat) := slbs_lhm (slb (by omega) h3) (slb (by omega) (by omega)) (slb h0 (by omega))
end

/-! ### Bytes as a string -/
def bsOf (l : List Int) : ByteArray := l.foldl (fun s n => s.push (UInt8.ofNat n.toNat)) ByteArray.empty
theorem aBytes_map : ∀ (l : List Int) (s : ByteArray), aBytes (l.map (Value.int .u8)) s = some (l.foldl (fun s n => s.push (UInt8.ofNat n.toNat)) s)
  | [], s => rfl
  | n :: l, s => by rw [List.map_cons, aBytes, aBytes_map l]; rfl
theorem cv_bytes {s d e e' : TypeId} (hs : P.underlying s = some (.slice e)) (he : P.underlying e = some (.int .u8)) (hd : P.underlying d = some .string) {h : AHeap} {v : Value} {n : Nat} {l : List Int} (hr : Rd h e' 1 v n (l.map (.int .u8))) : cvV P h s d v = some (.string (bsOf l)) := by
  obtain ⟨a, cap, rfl⟩ := hr.form
  have h1 : aConvert P s d (.slice a n cap) = none := by unfold aConvert; simp [hs, hd]
  unfold cvV
  rw [h1]
  simp only
  unfold aConvStr
  simp only [hs, hd, he]
  have h2 : aFirst h 1 n (.slice a n cap) = some (l.map (.int .u8)) := by
    rcases hr with ⟨q, rfl, q2⟩ | ⟨id, off, cap', c, e2, o, q, hnc, hg, hf, hd2, _⟩
    · cases q; rw [q2]; rfl
    · cases q
      unfold aFirst
      simp only [hg]
      rw [if_pos hf, hd2]
  rw [h2, Option.bind_some, aBytes_map]; rfl
theorem bin_seql (t : TypeId) (a b : ByteArray) : aBin P .eql t (.string a) (.string b) = some (.bool (a.toList == b.toList)) := by simp [aBin]
theorem bin_sneq (t : TypeId) (a b : ByteArray) : aBin P .neq t (.string a) (.string b) = some (.bool (!(a.toList == b.toList))) := by simp [aBin]
end Go.AM
