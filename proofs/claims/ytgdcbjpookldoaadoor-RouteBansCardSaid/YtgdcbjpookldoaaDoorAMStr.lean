/- AM: strings as lists of bytes. -/
import Derived.Test.YtgdcbjpookldoaaDoorAMIter2
import Derived.Laws.Externs
set_option linter.unusedSimpArgs false
set_option linter.unusedVariables false
namespace Go.AM
variable {P : Program} {prims : Prims}

abbrev strV (l : List UInt8) : Value := .string ⟨l.toArray⟩
theorem ba_eq (s : ByteArray) : ∃ l : List UInt8, s = ⟨l.toArray⟩ := ⟨s.data.toList, by cases s; simp⟩
theorem ba_size (l : List UInt8) : (⟨l.toArray⟩ : ByteArray).size = l.length := by simp [ByteArray.size]
theorem ba_loop (l : List UInt8) : ∀ (k i : Nat) (r : List UInt8), l.length - i = k → ByteArray.toList.loop ⟨l.toArray⟩ i r = r.reverse ++ l.drop i
  | 0, i, r, h => by
    unfold ByteArray.toList.loop
    rw [ba_size, if_neg (by omega), List.drop_eq_nil_of_le (by omega)]; simp
  | k + 1, i, r, h => by
    unfold ByteArray.toList.loop
    have hi : i < l.length := by omega
    rw [ba_size, if_pos hi, ba_loop l k (i + 1) _ (by omega), List.reverse_cons, List.append_assoc, List.drop_eq_getElem_cons hi]
    congr 2
    simp [ByteArray.get!, hi]
theorem ba_toList (l : List UInt8) : (⟨l.toArray⟩ : ByteArray).toList = l := by
  unfold ByteArray.toList
  rw [ba_loop l _ 0 [] rfl]; simp
theorem str_eql (t : TypeId) (l m : List UInt8) : aBin P .eql t (.string ⟨l.toArray⟩) (.string ⟨m.toArray⟩) = some (.bool (decide (l = m))) := by
  simp only [aBin, ba_toList]
  by_cases h : l = m
  · subst h; simp
  · simp [h]
theorem str_len {t : TypeId} (ht : P.underlying t = some .string) (h : AHeap) (l : List UInt8) : aLen P h t (.string ⟨l.toArray⟩) = some (.int .i64 l.length) := by
  unfold aLen; simp [ht, ba_size]
theorem str_cut {t : TypeId} (ht : P.underlying t = some .string) (h : AHeap) (l : List UInt8) (lo hi : Option Value) : aSliceH P h t (.string ⟨l.toArray⟩) lo hi none = (aSliceBounds l.length l.length lo hi none).map fun p => .string ⟨((l.drop p.1).take (p.2.1 - p.1)).toArray⟩ := by
  unfold aSliceH aSlice
  simp only [ht, ba_size, Option.isSome_none, Bool.false_eq_true, if_false]
  cases aSliceBounds l.length l.length lo hi none with
  | none => rfl
  | some p =>
    obtain ⟨a, b, c⟩ := p
    simp only [Option.map_some, Option.some.injEq, Value.string.injEq]
    apply ByteArray.ext
    simp [ByteArray.extract, ByteArray.copySlice]
theorem str_idx {t : TypeId} (ht : P.underlying t = some .string) (l : List UInt8) (k : IntKind) {i : Int} (h0 : 0 ≤ i) (h1 : i < l.length) : aIndex P t (.string ⟨l.toArray⟩) (.int k i) = some (.int .u8 (l.getD i.toNat 0).toNat) := by
  unfold aIndex
  have hlt : i.toNat < l.length := by omega
  simp only [ht, if_pos h0]
  have : (⟨l.toArray⟩ : ByteArray)[i.toNat]? = some (l.getD i.toNat 0) := by
    have hs : i.toNat < (⟨l.toArray⟩ : ByteArray).size := by rw [ba_size]; exact hlt
    rw [getElem?_pos (⟨l.toArray⟩ : ByteArray) i.toNat hs]
    congr 1
    simp [ByteArray.getElem_eq_getElem_data, List.getD, hlt]
  rw [this]; rfl
/-- Where a byte stands first. -/
def idxL (l : List UInt8) (c : UInt8) : Int := match l.findIdx? (· == c) with | some i => i | none => -1
theorem firstIdx_eq (l : List UInt8) (c : UInt8) : firstIdx ⟨l.toArray⟩ c = idxL l c := by
  unfold firstIdx idxL
  have e : (List.range (⟨l.toArray⟩ : ByteArray).size).find? (fun i => (⟨l.toArray⟩ : ByteArray)[i]! == c) = l.findIdx? (· == c) := by
    rw [ba_size]
    have hg : ∀ i, i < l.length → (⟨l.toArray⟩ : ByteArray)[i]! = l.getD i 0 := fun i hi => by
      have hs : i < (⟨l.toArray⟩ : ByteArray).size := by rw [ba_size]; exact hi
      rw [getElem!_pos (⟨l.toArray⟩ : ByteArray) i hs]
      simp [ByteArray.getElem_eq_getElem_data, List.getD, hi]
    cases hf : l.findIdx? (· == c) with
    | none =>
      rw [List.find?_eq_none]
      intro i hi
      have hi' := List.mem_range.1 hi
      rw [hg i hi']
      have := List.findIdx?_eq_none_iff.1 hf (l.getD i 0) (by simp [List.getD, hi'])
      simpa using this
    | some j =>
      obtain ⟨hj, h1, h2⟩ := List.findIdx?_eq_some_iff_getElem.1 hf
      rw [List.find?_range_eq_some]
      refine ⟨?_, List.mem_range.2 hj, fun k hk => ?_⟩
      · rw [hg j hj]; simpa [List.getD, hj] using h1
      · rw [hg k (by omega)]
        have := h2 k hk
        simpa [List.getD, show k < l.length by omega] using this
  rw [e]
  cases l.findIdx? (· == c) <;> rfl

/-- A byte as a value. -/
abbrev bV (c : UInt8) : Value := .int .u8 c.toNat
theorem bytes_one (l : List UInt8) : (l.map bV).all (·.oneCell') = true := by
  rw [List.all_eq_true]; intro x hx
  obtain ⟨n, _, rfl⟩ := List.mem_map.1 hx; rfl
theorem bytes_get (l : List UInt8) {j : Nat} (hj : j < l.length) : (l.map bV)[j]? = some (.int .u8 (l.getD j 0).toNat) := by
  simp [List.getD, hj]
theorem Rd.ldb {h : AHeap} {e : TypeId} {s : Value} {n : Nat} {l : List UInt8} (x : Rd h e 1 s n (l.map bV)) {t : TypeId} (ht : lkI P t = some none) (j : Nat) (hj : j < n) : aLoad P h t (elP s 1 j) = some (.int .u8 (l.getD j 0).toNat) := by
  rw [x.ld ht j hj]
  exact bytes_get l (by have := x.length; rw [List.length_map] at this; omega)
theorem news_str {h : AHeap} {t t' e : TypeId} {b : Nat} (ht : apI P t = some (e, 1, b)) (hs : P.underlying t' = some .string) (l : List UInt8) : aNews P h #[t, t'] (.string ⟨l.toArray⟩) = some (l.map bV, l.length, false) := by
  obtain ⟨i, z, hu, hi, h1, rfl, hz, _, _, h0⟩ := apI_el ht
  unfold aNews
  simp only [List.getElem?_toArray, List.getElem?_cons_zero, Option.bind_some, hu, hi, List.getElem?_cons_succ, hs, aLenOf, ba_size, h1]
  have e1 : aFirst h 1 l.length (.string ⟨l.toArray⟩) = some (l.map bV) := by
    unfold aFirst; simp
  rw [e1]
  simp only [Option.bind_some, bytes_one, List.length_map]
  simp
theorem appendS_w {h : AHeap} {t t' e : TypeId} {b n : Nat} {s : Value} {cs : List Value} {l : List UInt8} {K : VQ} (ht : apI P t = some (e, 1, b)) (ht' : P.underlying t' = some .string) (hs : Ow h e 1 s n cs)
    (hl : h.low ≤ h.next) (h1 : (n + l.length) * (b + 1) ≤ roomy) (h2 : n + l.length ≤ roomy)
    (hq : ∀ v h', Ow h' e 1 v (n + l.length) (cs ++ l.map bV) → Fr (idOf s) h h' → (∀ id, idOf v id → idOf s id ∨ h.next ≤ id) → K v h') :
    optR ((aNews P h #[t, t'] (.string ⟨l.toArray⟩)).bind fun r => aAppend P h t s r.1 r.2.1 r.2.2) K := by
  rw [news_str ht ht' l]
  exact append_w (m := l.length) ht hs (by simp) (bytes_one l) hl h1 h2 hq

/-! ### Loads that stay the same -/
theorem stabL_string {hk : AHeap} {t : TypeId} {id off n : Nat} {s : ByteArray} (hid : id < n) (hl : aLoad P hk t (.pointer (some ⟨id, off, none⟩)) = some (.string s)) : stabL P hk t (.pointer (some ⟨id, off, none⟩)) n (.string s) :=
  ⟨id, off, rfl, hid, hl, sameV_string _ _, by simp [belowV]⟩
theorem stabL_bool {hk : AHeap} {t : TypeId} {id off n : Nat} {b : Bool} (hid : id < n) (hl : aLoad P hk t (.pointer (some ⟨id, off, none⟩)) = some (.bool b)) : stabL P hk t (.pointer (some ⟨id, off, none⟩)) n (.bool b) :=
  ⟨id, off, rfl, hid, hl, sameV_bool _ _, by simp [belowV]⟩
theorem Rd.stab {h : AHeap} {e : TypeId} {sz n : Nat} {s : Value} {cs : List Value} (x : Rd h e sz s n cs) {m : Nat} (hm : h.next ≤ m) : sameV 20 s s = true ∧ belowV m 20 s = true := by
  rcases x with ⟨rfl, _⟩ | ⟨id, off, cap, c, e', o, rfl, _, hg, _⟩
  · exact ⟨sameV_snil _ _ _, rfl⟩
  · have := get_some_lt hg
    exact ⟨sameV_slice _ _ _ _ _, by simp [belowV]; omega⟩
theorem stabL_rd {h hk : AHeap} {t e : TypeId} {id off n m sz : Nat} {s : Value} {cs : List Value} (x : Rd h e sz s n cs) (hm : h.next ≤ m) (hid : id < m) (hl : aLoad P hk t (.pointer (some ⟨id, off, none⟩)) = some s) : stabL P hk t (.pointer (some ⟨id, off, none⟩)) m s :=
  ⟨id, off, rfl, hid, hl, (x.stab hm).1, (x.stab hm).2⟩
theorem stabL_el {h hk : AHeap} {t e : TypeId} {n m sz j : Nat} {s v : Value} {cs : List Value} (x : Rd h e sz s n cs) (hj : j < n) (hm : h.next ≤ m) (hv : sameV 20 v v = true) (hb : belowV m 20 v = true) (hl : aLoad P hk t (elP s sz j) = some v) : stabL P hk t (elP s sz j) m v := by
  rcases x with ⟨rfl, rfl, _⟩ | ⟨id, off, cap, c, e', o, rfl, _, hg, _⟩
  · omega
  · have := get_some_lt hg
    have e1 : elP (.slice (some ⟨id, off, none⟩) n cap) sz j = .pointer (some ⟨id, off + j * sz, none⟩) := by unfold elP; rfl
    rw [e1] at hl ⊢
    exact ⟨id, _, rfl, by omega, hl, hv, hb⟩
theorem stabL_elS {h hk : AHeap} {t e : TypeId} {n m sz j : Nat} {s : Value} {cs : List Value} {b : ByteArray} (x : Rd h e sz s n cs) (hj : j < n) (hm : h.next ≤ m) (hl : aLoad P hk t (elP s sz j) = some (.string b)) : stabL P hk t (elP s sz j) m (.string b) := stabL_el x hj hm (sameV_string _ _) (by simp [belowV]) hl
theorem stabL_elI {h hk : AHeap} {t e : TypeId} {n m sz j : Nat} {s : Value} {cs : List Value} {k : IntKind} {b : Int} (x : Rd h e sz s n cs) (hj : j < n) (hm : h.next ≤ m) (hl : aLoad P hk t (elP s sz j) = some (.int k b)) : stabL P hk t (elP s sz j) m (.int k b) := stabL_el x hj hm (sameV_int _ _ _) (by simp [belowV]) hl
theorem stable_len (env : Env) (x : Operand) (ty : TypeId) (hk : AHeap) (n : Nat) (a : Int) (hh : ∀ h, aLen P h ty (evalE env x) = some (.int .i64 a)) : stable P (evalE env) (.call { callee := .builtin .len, args := #[x], argTypes := #[ty] }) hk n (.int .i64 a) = true := by
  have e : ∀ h, aOp P (evalE env) (.call { callee := .builtin .len, args := #[x], argTypes := #[ty] }) h = some (.int .i64 a, h) := fun h => by
    show (aLen P h ty (evalE env x)).map (fun v => (v, h)) = _
    rw [hh]; rfl
  unfold stable
  rw [e]
  simp [sameV, belowV]

/-- A string's bytes in memory of their own. -/
theorem cvW_new {s d e : TypeId} {i : TypeInfo} (hs : P.underlying s = some .string) (hd : P.underlying d = some (.slice e)) (he : P.underlying e = some (.int .u8)) (hi : P.info? e = some i) (h1 : i.size = 1) {h : AHeap} {l : List UInt8} (h0 : 0 < l.length) (h2 : l.length ≤ 1099511627776) {K : VQ} :
    cvW P h s d (.string ⟨l.toArray⟩) K = K (.slice (some ⟨h.next, 0, none⟩) l.length l.length) (h.alloc (.cells (l.map bV) e true)) := by
  unfold cvW
  have er : roomy = 1099511627776 := by decide
  have : aNewStr P h s d (.string ⟨l.toArray⟩) = some (sliceTo h.next 0 l.length l.length, h.alloc (.cells (l.map bV) e true)) := by
    unfold aNewStr
    rw [hs, hd]
    simp only
    rw [he, hi]
    simp only [ba_size]
    rw [if_pos ⟨h1, h0, by omega⟩]
  rw [this]
  exact nrfl rfl

end Go.AM
