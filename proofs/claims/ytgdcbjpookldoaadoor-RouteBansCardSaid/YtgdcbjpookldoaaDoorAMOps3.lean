/- AM: slices by what they hold; what is appended, stored, cut; maps. -/
import Derived.Test.YtgdcbjpookldoaaDoorAMIter
set_option linter.unusedSimpArgs false
set_option linter.unusedVariables false
namespace Go.AM
variable {P : Program} {prims : Prims}

/-! ### Slices -/

/-- The place of a slice's element. -/
def elP (s : Value) (sz j : Nat) : Value := match s with | .slice (some a) _ _ => .pointer (some ⟨a.block, a.off + j * sz, none⟩) | _ => .nilFunc
/-- Is an object that of a slice? -/
def idOf (s : Value) (id : Nat) : Prop := match s with | .slice (some a) _ _ => id = a.block | _ => False

/-- A slice that reads as some cells. -/
def Rd (h : AHeap) (e : TypeId) (sz : Nat) (s : Value) (n : Nat) (cs : List Value) : Prop :=
  (s = .slice none 0 0 ∧ n = 0 ∧ cs = []) ∨ ∃ id off cap c e' o, s = .slice (some ⟨id, off, none⟩) n cap ∧ n ≤ cap ∧ h.get id = some (.cells c e' o) ∧ off + n * sz ≤ c.length ∧ (c.drop off).take (n * sz) = cs ∧ (cap = 0 ∨ e' = e)
/-- A slice that is the run's own. -/
def Ow (h : AHeap) (e : TypeId) (sz : Nat) (s : Value) (n : Nat) (cs : List Value) : Prop :=
  (s = .slice none 0 0 ∧ n = 0 ∧ cs = []) ∨ ∃ id off cap c o, s = .slice (some ⟨id, off, none⟩) n cap ∧ n ≤ cap ∧ h.get id = some (.cells c e o) ∧ off + cap * sz ≤ c.length ∧ (c.drop off).take (n * sz) = cs ∧ h.low ≤ id

section
variable {h h' : AHeap} {e : TypeId} {sz n : Nat} {s : Value} {cs : List Value}
theorem Ow.nil (h : AHeap) (e : TypeId) (sz : Nat) : Ow h e sz (.slice none 0 0) 0 [] := .inl ⟨rfl, rfl, rfl⟩
theorem Rd.nil (h : AHeap) (e : TypeId) (sz : Nat) : Rd h e sz (.slice none 0 0) 0 [] := .inl ⟨rfl, rfl, rfl⟩
theorem Ow.rd (x : Ow h e sz s n cs) : Rd h e sz s n cs := by
  rcases x with x | ⟨id, off, cap, c, o, a, b, d, f, g, _⟩
  · exact .inl x
  · exact .inr ⟨id, off, cap, c, e, o, a, b, d, by have := Nat.mul_le_mul_right sz b; omega, g, .inr rfl⟩
theorem Rd.length (x : Rd h e sz s n cs) : cs.length = n * sz := by
  rcases x with ⟨_, rfl, rfl⟩ | ⟨id, off, cap, c, e', o, _, _, _, f, rfl, _⟩
  · simp
  · simp; omega
theorem Ow.length (x : Ow h e sz s n cs) : cs.length = n * sz := x.rd.length
theorem Rd.form (x : Rd h e sz s n cs) : ∃ a cap, s = .slice a n cap := by
  rcases x with ⟨rfl, rfl, _⟩ | ⟨id, off, cap, c, e', o, rfl, _⟩
  · exact ⟨_, _, rfl⟩
  · exact ⟨_, _, rfl⟩
theorem Ow.form (x : Ow h e sz s n cs) : ∃ a cap, s = .slice a n cap := x.rd.form
theorem Rd.lt (x : Rd h e sz s n cs) {id : Nat} (hi : idOf s id) : id < h.next := by
  rcases x with ⟨rfl, _⟩ | ⟨id', off, cap, c, e', o, rfl, _, hg, _⟩
  · exact hi.elim
  · unfold idOf at hi; subst hi; exact get_some_lt hg
theorem Ow.lt (x : Ow h e sz s n cs) {id : Nat} (hi : idOf s id) : id < h.next := x.rd.lt hi
theorem Rd.same (x : Rd h e sz s n cs) (hh : ∀ id, idOf s id → h'.get id = h.get id) : Rd h' e sz s n cs := by
  rcases x with x | ⟨id, off, cap, c, e', o, rfl, b, hg, f⟩
  · exact .inl x
  · exact .inr ⟨id, off, cap, c, e', o, rfl, b, by rw [hh id rfl]; exact hg, f⟩
theorem Ow.same (x : Ow h e sz s n cs) (hh : ∀ id, idOf s id → h'.get id = h.get id) (hl : h'.low = h.low) : Ow h' e sz s n cs := by
  rcases x with x | ⟨id, off, cap, c, o, rfl, b, hg, f, g, k⟩
  · exact .inl x
  · exact .inr ⟨id, off, cap, c, o, rfl, b, by rw [hh id rfl]; exact hg, f, g, by rw [hl]; exact k⟩
theorem Rd.fr {S : Nat → Prop} (x : Rd h e sz s n cs) (fr : Fr S h h') (hS : ∀ id, idOf s id → ¬ S id) : Rd h' e sz s n cs := x.same fun id hi => fr.old id (x.lt hi) (hS id hi)
theorem Ow.fr {S : Nat → Prop} (x : Ow h e sz s n cs) (fr : Fr S h h') (hS : ∀ id, idOf s id → ¬ S id) : Ow h' e sz s n cs := x.same (fun id hi => fr.old id (x.lt hi) (hS id hi)) fr.low
theorem Rd.fr0 (x : Rd h e sz s n cs) (fr : Fr none' h h') : Rd h' e sz s n cs := x.fr fr fun _ _ q => q
theorem Ow.fr0 (x : Ow h e sz s n cs) (fr : Fr none' h h') : Ow h' e sz s n cs := x.fr fr fun _ _ q => q

/-- The address of an element. -/
theorem Rd.ia (x : Rd h e sz s n cs) {t : TypeId} (ht : elI P t = some (e, sz)) (k : IntKind) (i : Int) (h0 : 0 ≤ i) (h1 : i < n) : aIndexAddr P t s (.int k i) = some (elP s sz i.toNat) := by
  rcases x with ⟨rfl, rfl, _⟩ | ⟨id, off, cap, c, e', o, rfl, b, hg, f⟩
  · omega
  · rw [ia_slice ht, iaO_ok h0 h1 (by omega)]; rfl
theorem Ow.ia (x : Ow h e sz s n cs) {t : TypeId} (ht : elI P t = some (e, sz)) (k : IntKind) (i : Int) (h0 : 0 ≤ i) (h1 : i < n) : aIndexAddr P t s (.int k i) = some (elP s sz i.toNat) := x.rd.ia ht k i h0 h1
/-- What lies there: one cell. -/
theorem Rd.ld (x : Rd h e 1 s n cs) {t : TypeId} (ht : lkI P t = some none) (j : Nat) (hj : j < n) : aLoad P h t (elP s 1 j) = cs[j]? := by
  rcases x with ⟨rfl, rfl, _⟩ | ⟨id, off, cap, c, e', o, rfl, b, hg, f, rfl, _⟩
  · omega
  · unfold elP
    simp only
    rw [ld_ptr, ht, hg]
    simp only [Option.bind_some, ldO_one]
    rw [List.getElem?_take, if_pos (by omega), List.getElem?_drop, Nat.mul_one]
/-- Many. -/
theorem Rd.ldg (x : Rd h e sz s n cs) {t : TypeId} (ht : lkI P t = some (some sz)) (j : Nat) (hj : j < n) : aLoad P h t (elP s sz j) = some (.agg ((cs.drop (j * sz)).take sz).toArray) := by
  rcases x with ⟨rfl, rfl, _⟩ | ⟨id, off, cap, c, e', o, rfl, b, hg, f, rfl, _⟩
  · omega
  · unfold elP
    simp only
    have h2 : j * sz + sz ≤ n * sz := by have := Nat.mul_le_mul_right sz (show j + 1 ≤ n by omega); rw [Nat.add_mul, Nat.one_mul] at this; omega
    rw [ld_ptr, ht, hg]
    simp only [Option.bind_some]
    rw [ldO_agg (by omega)]
    congr 3
    rw [List.drop_take, List.take_take, List.drop_drop]
    congr 1
    omega
theorem ints_get {k : IntKind} (l : List Int) {j : Nat} (hj : j < l.length) : (l.map (Value.int k))[j]? = some (.int k (l.getD j 0)) := by
  simp [List.getD, hj]
theorem ints_one (k : IntKind) (l : List Int) : (l.map (Value.int k)).all (·.oneCell') = true := by
  rw [List.all_eq_true]; intro x hx
  obtain ⟨n, _, rfl⟩ := List.mem_map.1 hx; rfl
/-- What lies there, of numbers. -/
theorem Rd.ldi {k : IntKind} {l : List Int} (x : Rd h e 1 s n (l.map (Value.int k))) {t : TypeId} (ht : lkI P t = some none) (j : Nat) (hj : j < n) : aLoad P h t (elP s 1 j) = some (.int k (l.getD j 0)) := by
  rw [x.ld ht j hj]
  exact ints_get l (by have := x.length; rw [List.length_map] at this; omega)

/-- A struct of a slice of structs. -/
theorem flat_get {α : Type} {f : α → List Value} {sz : Nat} (hf : ∀ x, (f x).length = sz) (d : α) : ∀ (l : List α) (j : Nat), j < l.length → ((l.flatMap f).drop (j * sz)).take sz = f (l.getD j d)
  | [], j, h => by simp at h
  | x :: l, 0, _ => by
    rw [List.flatMap_cons, Nat.zero_mul, List.drop_zero, List.take_append_of_le_length (by rw [hf]; exact Nat.le_refl _), List.take_of_length_le (by rw [hf]; exact Nat.le_refl _)]; rfl
  | x :: l, j + 1, h => by
    have := flat_get hf d l j (by simpa using h)
    rw [List.flatMap_cons, Nat.add_mul, Nat.one_mul, Nat.add_comm, ← List.drop_drop, List.drop_left' (hf x), this]; rfl
theorem flat_length {α : Type} {f : α → List Value} {sz : Nat} (hf : ∀ x, (f x).length = sz) (l : List α) : (l.flatMap f).length = l.length * sz := by
  induction l with
  | nil => simp
  | cons x l ih => rw [List.flatMap_cons, List.length_append, hf, ih, List.length_cons, Nat.add_mul, Nat.one_mul]; omega
theorem Rd.lds {α : Type} {f : α → List Value} {l : List α} (hf : ∀ x, (f x).length = sz) (x : Rd h e sz s n (l.flatMap f)) {t : TypeId} (ht : lkI P t = some (some sz)) (hl : l.length = n) (d : α) (j : Nat) (hj : j < n) :
    aLoad P h t (elP s sz j) = some (.agg (f (l.getD j d)).toArray) := by
  rw [x.ldg ht j hj, flat_get hf d l j (by omega)]

/-- The place of a field of an element. -/
def elF (s : Value) (sz j f : Nat) : Value := match s with | .slice (some a) _ _ => .pointer (some ⟨a.block, a.off + j * sz + f, none⟩) | _ => .nilFunc
theorem Rd.fa (x : Rd h e sz s n cs) {st : TypeId} {f o : Nat} (ht : fdI P st f = some o) (j : Nat) (hj : j < n) : aFieldAddr P st (elP s sz j) f = some (elF s sz j o) := by
  rcases x with ⟨rfl, rfl, _⟩ | ⟨id, off, cap, c, e', o', rfl, b, hg, _⟩
  · omega
  · unfold elP elF
    simp only
    exact (fa_ptr st _ _ f).trans (by rw [ht]; rfl)
theorem flat_get1 {α : Type} {f : α → List Value} {sz : Nat} (hf : ∀ x, (f x).length = sz) (d : α) (l : List α) (j k : Nat) (hj : j < l.length) (hk : k < sz) : (l.flatMap f)[j * sz + k]? = (f (l.getD j d))[k]? := by
  rw [← flat_get hf d l j hj, List.getElem?_take, if_pos hk, List.getElem?_drop]
attribute [irreducible] elP elF

theorem setRow_len (c : List Value) (off : Nat) (l : List Value) : (setRow c off l).length = c.length := by
  induction l generalizing c off with
  | nil => rfl
  | cons x l ih => unfold setRow; rw [ih]; simp
theorem setRow_get (c : List Value) (off : Nat) (l : List Value) (h : off + l.length ≤ c.length) (i : Nat) : (setRow c off l)[i]? = if off ≤ i ∧ i < off + l.length then l[i - off]? else c[i]? := by
  induction l generalizing c off with
  | nil => unfold setRow; rw [if_neg (by rw [List.length_nil]; omega)]
  | cons x l ih =>
    unfold setRow
    simp at h
    rw [ih _ _ (by simp; omega), List.getElem?_set]
    by_cases h1 : off + 1 ≤ i ∧ i < off + 1 + l.length
    · rw [if_pos h1, if_pos (by simp; omega)]
      obtain ⟨k, rfl⟩ : ∃ k, i = off + 1 + k := ⟨i - (off + 1), by omega⟩
      rw [show off + 1 + k - (off + 1) = k by omega, show off + 1 + k - off = k + 1 by omega]; simp
    · rw [if_neg h1]
      by_cases h2 : off = i
      · subst h2; rw [if_pos rfl, if_pos (by omega), if_pos (by simp)]; simp
      · rw [if_neg h2, if_neg (by simp; omega)]

/-- What is stored in an element: one cell. -/
theorem Ow.st {t : TypeId} (x : Ow h e 1 s n cs) (ht : szI P t = some 1) {j : Nat} (hj : j < n) {v : Value} (hv : v.cells = #[v]) (h1 : v.oneCell' = true) {K : VQ}
    (hq : ∀ h', Ow h' e 1 s n (cs.set j v) → Fr (idOf s) h h' → h'.next = h.next → K undef h') : optH (aStore P h t (elP s 1 j) v) K := by
  rcases x with ⟨rfl, rfl, _⟩ | ⟨id, off, cap, c, o, rfl, b, hg, f, rfl, k⟩
  · omega
  · unfold elP
    simp only
    rw [st_ptr, ht, hg]
    simp only [Option.bind_some]
    rw [stO_one hv h1 k (by omega), optH_some]
    refine hq _ (.inr ⟨id, off, cap, _, o, rfl, b, get_put_self rfl (get_some_lt hg), by simpa using f, ?_, k⟩) ((Fr.refl _ h).put _ (.inr rfl)) rfl
    rw [Nat.mul_one, Nat.mul_one]
    apply List.ext_getElem?
    intro i
    simp only [List.getElem?_take, List.getElem?_drop, List.getElem?_set, List.length_take, List.length_drop]
    by_cases h1 : i < n
    · simp only [h1, if_true]
      by_cases h2 : j = i
      · subst h2; simp; rw [if_pos (by omega), if_pos (by omega)]
      · simp [h2]
    · simp only [h1, if_false]
      by_cases h2 : j = i
      · omega
      · rw [if_neg h2]
/-- Many cells. -/
theorem Ow.stg {t : TypeId} (x : Ow h e sz s n cs) (ht : szI P t = some sz) {j : Nat} (hj : j < n) {l : List Value} (hl : l.length = sz) (h1 : l.all (·.oneCell') = true) {K : VQ}
    (hq : ∀ h', Ow h' e sz s n (setRow cs (j * sz) l) → Fr (idOf s) h h' → h'.next = h.next → K undef h') : optH (aStore P h t (elP s sz j) (.agg l.toArray)) K := by
  rcases x with ⟨rfl, rfl, _⟩ | ⟨id, off, cap, c, o, rfl, b, hg, f, rfl, k⟩
  · omega
  · unfold elP
    simp only
    have h2 : j * sz + sz ≤ n * sz := by have := Nat.mul_le_mul_right sz (show j + 1 ≤ n by omega); rw [Nat.add_mul, Nat.one_mul] at this; omega
    have h3 := Nat.mul_le_mul_right sz b
    rw [st_ptr, ht, hg]
    simp only [Option.bind_some]
    rw [stO_agg k hl (by omega) h1, optH_some]
    refine hq _ (.inr ⟨id, off, cap, _, o, rfl, b, get_put_self rfl (get_some_lt hg), by rw [setRow_len]; exact f, ?_, k⟩) ((Fr.refl _ h).put _ (.inr rfl)) rfl
    apply List.ext_getElem?
    intro i
    rw [setRow_get _ _ _ (by simp; omega)]
    simp only [List.getElem?_take, List.getElem?_drop]
    rw [setRow_get _ _ _ (by omega)]
    by_cases h5 : i < n * sz
    · rw [if_pos h5, if_pos h5]
      by_cases h4 : j * sz ≤ i ∧ i < j * sz + l.length
      · rw [if_pos h4, if_pos (by omega)]; congr 1; omega
      · rw [if_neg h4, if_neg (by omega)]
    · rw [if_neg h5, if_neg h5, if_neg (by omega)]
end

/-! ### append -/

theorem roomy_eq : roomy = 1099511627776 := rfl
/-- What fits. -/
theorem fits {n b : Nat} (hn : n ≤ 4000000000) (hb : b ≤ 256) : n * (b + 1) ≤ roomy := by
  have h1 : n * (b + 1) ≤ 4000000000 * 257 := Nat.mul_le_mul hn (by omega)
  rw [roomy_eq]; omega
theorem fits' {n : Nat} (hn : n ≤ 4000000000) : n ≤ roomy := by rw [roomy_eq]; omega

/-- What append asks of a slice's type: its element, its size, its bytes. -/
def apI (P : Program) (t : TypeId) : Option (TypeId × Nat × Nat) := match P.underlying t with
  | some (.slice e) => (P.info? e).bind fun i => i.zero.bind fun z => if z.cells.size = i.size ∧ z.cells.toList.all plainV = true ∧ i.size ≠ 0 then some (e, i.size, i.bytes) else none
  | _ => none
theorem apI_el {t e : TypeId} {sz b : Nat} (h : apI P t = some (e, sz, b)) : ∃ i z, P.underlying t = some (.slice e) ∧ P.info? e = some i ∧ i.size = sz ∧ i.bytes = b ∧ i.zero = some z ∧ z.cells.size = sz ∧ z.cells.toList.all plainV = true ∧ sz ≠ 0 := by
  unfold apI at h
  split at h
  · rename_i e' hu
    simp only [Option.bind_eq_some_iff] at h
    obtain ⟨i, hi, z, hz, h⟩ := h
    split at h
    · rename_i hc
      cases h
      exact ⟨i, z, hu, hi, rfl, rfl, hz, hc.1, hc.2.1, hc.2.2⟩
    · cases h
  · cases h

theorem news_rd {h : AHeap} {t t' e : TypeId} {sz b m : Nat} {x : Value} {ds : List Value} (ht : apI P t = some (e, sz, b)) (ht' : apI P t' = some (e, sz, b)) (hx : Rd h e sz x m ds) (hd : ds.all (·.oneCell') = true) : aNews P h #[t, t'] x = some (ds, m, false) := by
  obtain ⟨i, z, hu, hi, rfl, rfl, hz, _, _, h0⟩ := apI_el ht
  obtain ⟨i', z', hu', hi', _⟩ := apI_el ht'
  unfold aNews
  simp only [List.getElem?_toArray, List.getElem?_cons_zero, Option.bind_some, hu, hi, List.getElem?_cons_succ, hu']
  rcases hx with ⟨rfl, rfl, rfl⟩ | ⟨id, off, cap, c, e', o, rfl, _, hg, f, rfl, _⟩
  · simp [aLenOf, aFirst, h0]
  · simp only [aLenOf, Option.bind_some]
    rw [if_neg h0]
    unfold aFirst
    simp only [hg]
    rw [if_pos f]
    simp only [Option.bind_some]
    rw [if_pos ⟨hd, by simp; omega⟩]

theorem append_w {h : AHeap} {t e : TypeId} {sz b n m : Nat} {s : Value} {cs ds : List Value} {K : VQ} (ht : apI P t = some (e, sz, b)) (hs : Ow h e sz s n cs) (hds : ds.length = m * sz) (hd : ds.all (·.oneCell') = true)
    (hl : h.low ≤ h.next) (h1 : (n + m) * (b + 1) ≤ roomy) (h2 : n + m ≤ roomy)
    (hq : ∀ v h', Ow h' e sz v (n + m) (cs ++ ds) → Fr (idOf s) h h' → (∀ id, idOf v id → idOf s id ∨ h.next ≤ id) → K v h') : optR (aAppend P h t s ds m false) K := by
  obtain ⟨i, z, hu, hi, rfl, rfl, hz, hzs, hzp, h0⟩ := apI_el ht
  have hroom : roomy = 1099511627776 := rfl
  rw [hroom] at h1 h2
  rcases hs with ⟨rfl, rfl, rfl⟩ | ⟨id, off, cap, c, o, rfl, hle, hg, f, hcs, hlow⟩
  · unfold aAppend
    simp only [hu, hi, Option.bind_some]
    rw [if_neg (by simp only [hroom, hd]; simp only [not_or]; refine ⟨h0, by simp [hds], by omega, by omega, by simp⟩)]
    by_cases hm : 0 + m ≤ 0
    · obtain rfl : m = 0 := by omega
      simp only [Nat.le_refl, if_true, optR_some]
      have : ds = [] := by cases ds with | nil => rfl | cons => simp at hds
      subst this
      exact hq _ _ (.inl ⟨rfl, rfl, rfl⟩) (Fr.refl _ _) (fun _ q => .inl q)
    · rw [if_neg hm]
      simp only [hz, Option.bind_some]
      rw [if_neg (by simp [hzs, hzp])]
      simp only [and_self, if_true, optR_some]
      refine hq _ _ (.inr ⟨h.next, 0, m, ds, true, by simp [sliceTo], by omega, get_alloc_self rfl, by omega, by simp [← hds], hl⟩) ((Fr.refl _ h).alloc _) (fun id q => .inr (by unfold sliceTo idOf at q; simp only at q; omega))
  · have hnc : n * i.size ≤ cap * i.size := Nat.mul_le_mul_right _ hle
    have hcl : cs.length = n * i.size := by rw [← hcs]; simp; omega
    unfold aAppend
    simp only [hu, hi, Option.bind_some]
    rw [if_neg (by simp only [hroom, hd]; simp only [not_or]; refine ⟨h0, by simp [hds], by omega, by omega, by simp⟩)]
    by_cases hm : n + m ≤ cap
    · rw [if_pos hm]
      by_cases hm0 : m = 0
      · subst hm0
        rw [if_pos rfl, optR_some]
        have : ds = [] := by cases ds with | nil => rfl | cons => simp at hds
        subst this
        exact hq _ _ (.inr ⟨id, off, cap, c, o, rfl, hle, hg, f, by simpa using hcs, hlow⟩) (Fr.refl _ _) (fun _ q => .inl q)
      · have hmc : (n + m) * i.size ≤ cap * i.size := Nat.mul_le_mul_right _ hm
        rw [if_neg hm0, if_neg (by simp)]
        simp only [hg]
        rw [if_pos ⟨hlow, trivial, by omega⟩, optR_some]
        refine hq _ _ (.inr ⟨id, off, cap, _, o, rfl, hm, get_put_self rfl (get_some_lt hg), by rw [setRow_len]; exact f, ?_, hlow⟩) ((Fr.refl _ h).put _ (.inr rfl)) (fun _ q => .inl q)
        rw [Nat.add_mul] at hmc ⊢
        apply List.ext_getElem?
        intro k
        rw [← hcs]
        simp only [List.getElem?_take, List.getElem?_drop]
        rw [setRow_get _ _ _ (by omega), List.getElem?_append]
        simp only [List.length_take, List.length_drop, List.getElem?_take, List.getElem?_drop]
        rw [show min (n * i.size) (c.length - off) = n * i.size by omega]
        by_cases k1 : k < n * i.size
        · rw [if_pos (by omega), if_neg (by omega), if_pos k1, if_pos k1]
        · rw [if_neg k1]
          by_cases k2 : k < n * i.size + m * i.size
          · rw [if_pos k2, if_pos (by omega)]; congr 1; omega
          · rw [if_neg k2, List.getElem?_eq_none (by omega)]
    · rw [if_neg hm]
      simp only [hz, Option.bind_some]
      rw [if_neg (by simp [hzs, hzp])]
      simp only [hg]
      rw [if_pos ⟨trivial, by omega⟩]
      have hfr : ∀ (g : AHeap), g.next = h.next → g.low = h.low → Ow (g.alloc (.cells ((c.drop off).take (n * i.size) ++ ds) e true)) e i.size (sliceTo h.next 0 (n + m) (n + m)) (n + m) (cs ++ ds) := by
        intro g g1 g2
        refine .inr ⟨h.next, 0, n + m, _, true, rfl, Nat.le_refl _, get_alloc_self g1.symm, ?_, ?_, by show g.low ≤ h.next; rw [g2]; exact hl⟩
        · rw [hcs, List.length_append, hcl, hds, Nat.add_mul]; omega
        · rw [hcs, List.drop_zero, List.take_of_length_le (by rw [List.length_append, hcl, hds, Nat.add_mul]; exact Nat.le_refl _)]
      by_cases ho : o = true ∧ off + cap * i.size = c.length
      · rw [if_pos ho, if_pos ⟨hlow, trivial⟩, optR_some]
        refine hq _ _ (hfr _ rfl rfl) (((Fr.refl (idOf (.slice (some ⟨id, off, none⟩) n cap)) h).put (id := id) none (.inr rfl)).alloc _) (fun id q => .inr ?_)
        unfold sliceTo idOf at q; simp only at q; omega
      · rw [if_neg ho, optR_some]
        refine hq _ _ (hfr _ rfl rfl) ((Fr.refl _ h).alloc _) (fun id q => .inr ?_)
        unfold sliceTo idOf at q; simp only at q; omega

/-- 'append(s, x...)'. -/
theorem appends_w {h : AHeap} {t t' e : TypeId} {sz b n m : Nat} {s x : Value} {cs ds : List Value} {K : VQ} (ht : apI P t = some (e, sz, b)) (ht' : apI P t' = some (e, sz, b)) (hs : Ow h e sz s n cs) (hx : Rd h e sz x m ds) (hd : ds.all (·.oneCell') = true)
    (hl : h.low ≤ h.next) (h1 : (n + m) * (b + 1) ≤ roomy) (h2 : n + m ≤ roomy)
    (hq : ∀ v h', Ow h' e sz v (n + m) (cs ++ ds) → Fr (idOf s) h h' → (∀ id, idOf v id → idOf s id ∨ h.next ≤ id) → K v h') :
    optR ((aNews P h #[t, t'] x).bind fun r => aAppend P h t s r.1 r.2.1 r.2.2) K := by
  rw [news_rd ht ht' hx hd]
  exact append_w ht hs hx.length hd hl h1 h2 hq

/-! ### Slices that are built -/
def bsI (P : Program) (t : TypeId) : Option (TypeId × Nat) := match P.underlying t with
  | some (.slice e) => (P.info? e).bind fun i => i.zero.bind fun z => if i.size ≠ 0 ∧ z.cells.size = i.size ∧ z.cells.toList.all plainV = true then some (e, i.size) else none
  | _ => none
/-- The cells of parts that stand one behind the other. -/
def flatP (sz : Nat) : Nat → List (Nat × Value) → Option (List Value)
  | _, [] => some []
  | k, (i, v) :: ps => if i = k ∧ v.cells.size = sz then (flatP sz (k + 1) ps).map (v.cells.toList ++ ·) else none
theorem flatP_nil (sz k : Nat) : flatP sz k [] = some [] := nrfl rfl
theorem flatP_agg (sz k : Nat) (l : List Value) (ps : List (Nat × Value)) (hl : l.length = sz) : flatP sz k ((k, .agg l.toArray) :: ps) = (flatP sz (k + 1) ps).map (l ++ ·) := by
  conv => lhs; unfold flatP
  simp [Value.cells, hl]

theorem foldl_set_zip (off : Nat) : ∀ (vs : List Value) (j : Nat) (cs : List Value), (vs.zipIdx j).foldl (fun cs (c, j) => cs.set (off + j) c) cs = setRow cs (off + j) vs
  | [], _, _ => rfl
  | v :: vs, j, cs => by
    rw [List.zipIdx_cons, List.foldl_cons, foldl_set_zip off vs (j + 1)]
    rfl

theorem fill_flat {sz : Nat} : ∀ (ps : List (Nat × Value)) (k : Nat) (cells l : List Value), flatP sz k ps = some l → cells.length = (k + ps.length) * sz → fillA (fun k => some (k * sz, sz)) cells ps = some (cells.take (k * sz) ++ l)
  | [], k, cells, l, h, hl => by
    cases h
    unfold fillA
    rw [List.append_nil, List.take_of_length_le (by simp at hl; omega)]
  | (i, v) :: ps, k, cells, l, h, hl => by
    unfold flatP at h
    split at h
    · rename_i hc
      obtain ⟨rfl, hv⟩ := hc
      simp only [Option.map_eq_some_iff] at h
      obtain ⟨l', h', rfl⟩ := h
      unfold fillA
      simp only
      have hvl : v.cells.toList.length = sz := by simpa using hv
      have e1 : (i + (ps.length + 1)) * sz = i * sz + sz + ps.length * sz := by rw [Nat.add_mul, Nat.add_mul, Nat.one_mul]; omega
      rw [List.length_cons, e1] at hl
      have hno : ¬ (v.cells.size ≠ sz ∨ i * sz + v.cells.size > cells.length) := by rw [hv, hl]; omega
      rw [if_neg (by simpa [not_or] using hno)]
      rw [foldl_set_zip, fill_flat ps (i + 1) _ l' h' (by rw [setRow_len, hl, Nat.add_mul, Nat.add_mul, Nat.one_mul]), ← List.append_assoc]
      congr 2
      apply List.ext_getElem?
      intro k
      rw [List.getElem?_take, setRow_get _ _ _ (by omega), List.getElem?_append, List.getElem?_take, Nat.add_mul, Nat.one_mul]
      rw [List.length_take, show min (i * sz) cells.length = i * sz by omega]
      by_cases k1 : k < i * sz
      · rw [if_pos (by omega), if_neg (by omega), if_pos k1, if_pos k1]
      · rw [if_neg k1]
        by_cases k2 : k < i * sz + sz
        · rw [if_pos k2, if_pos (by omega), Nat.add_zero]
        · rw [if_neg k2, List.getElem?_eq_none (by omega)]
    · cases h

theorem repeated_lengthW (z : List Value) : ∀ n, (repeated z n).length = n * z.length
  | 0 => by simp [repeated]
  | n + 1 => by unfold repeated; rw [List.length_append, repeated_lengthW z n, Nat.add_mul, Nat.one_mul, Nat.add_comm]
def bsO (P : Program) (t : TypeId) (len : Nat) (ps : List (Nat × Value)) (next : Nat) : Option (Value × Option AObj) :=
    match P.underlying t with
    | some (.slice e) =>
      (P.info? e).bind fun i => if len * i.size > 2 ^ 20 ∨ i.size = 0 then none else (if len = 0 then some (Value.bool true) else i.zero).bind fun z =>
        if len ≠ 0 ∧ (z.cells.size ≠ i.size ∨ z.cells.toList.all plainV = false) then none else
        (fillA (fun k => some (k * i.size, i.size)) (repeated z.cells.toList len) ps).bind fun cs =>
          if cs.all (·.oneCell') = true then some (sliceTo next 0 len len, some (.cells cs e false)) else none
    | _ => none
def bsW (P : Program) (ty : TypeId) (len : Nat) (ps : List (Nat × Value)) (h : AHeap) (K : VQ) : Prop :=
  ∃ p, bsO P ty len ps h.next = some p ∧ K p.1 (match p.2 with | none => h | some o => h.alloc o)
theorem op_buildSlice (t : Bool) (v : Value) (vs : List Value) (h : AHeap) (K : VQ) (ty : TypeId) (len : Nat) (parts : Array (Nat × Operand)) : opW P prims t (v :: vs) (.buildSlice ty len parts) h K = bsW P ty len (parts.toList.map fun p => (p.1, evalE (v :: vs) p.2)) h K := by
  show optR (aOp P _ _ h) K = _
  have e : aPure P (evalE (v :: vs)) (.buildSlice ty len parts) h.next = bsO P ty len (parts.toList.map fun p => (p.1, evalE (v :: vs) p.2)) h.next := rfl
  unfold aOp bsW
  rw [e]
  cases bsO P ty len (parts.toList.map fun p => (p.1, evalE (v :: vs) p.2)) h.next with
  | none => simp [optR, aHeap]
  | some r => obtain ⟨a, b⟩ := r; cases b <;> simp [optR]
theorem bsW_of {ty e : TypeId} {sz len : Nat} {ps : List (Nat × Value)} {cs : List Value} {h : AHeap} {K : VQ} (hb : bsI P ty = some (e, sz)) (hlen : ps.length = len) (hroom : len * sz ≤ 1048576) (hf : flatP sz 0 ps = some cs) (hall : cs.all (·.oneCell') = true) :
    bsW P ty len ps h K = K (.slice (some ⟨h.next, 0, none⟩) len len) (h.alloc (.cells cs e false)) := by
  unfold bsI at hb
  split at hb
  · rename_i e' hu
    simp only [Option.bind_eq_some_iff] at hb
    obtain ⟨i, hi, z, hz, hb⟩ := hb
    split at hb
    · rename_i hc
      cases hb
      obtain ⟨h0, hzs, hzp⟩ := hc
      unfold bsW bsO
      simp only [hu, hi, Option.bind_some]
      rw [if_neg (by simp only [not_or]; exact ⟨by omega, h0⟩)]
      by_cases hl0 : len = 0
      · rw [hl0] at hlen ⊢
        obtain rfl : ps = [] := by cases ps with | nil => rfl | cons => simp at hlen
        cases hf
        simp [fillA, repeated, sliceTo]
      · rw [if_neg hl0]
        simp only [hz, Option.bind_some]
        rw [if_neg (by simp [hzs, hzp])]
        have e2 := fill_flat (sz := i.size) _ 0 (repeated z.cells.toList len) cs hf (by rw [repeated_lengthW, hlen]; simp [hzs])
        rw [e2]
        simp only [Nat.zero_mul, List.take_zero, List.nil_append, Option.bind_some, hall, if_true, sliceTo, Option.some.injEq, exists_eq_left']
    · cases hb
  · cases hb
section
variable {ty e : TypeId}
theorem bsW_nil {sz : Nat} (hb : bsI P ty = some (e, sz)) (h : AHeap) (K : VQ) : bsW P ty 0 [] h K = K (.slice (some ⟨h.next, 0, none⟩) 0 0) (h.alloc (.cells [] e false)) := bsW_of hb rfl (by omega) rfl rfl
theorem bsW_int (hb : bsI P ty = some (e, 1)) (h : AHeap) (K : VQ) (k : IntKind) (n : Int) : bsW P ty 1 [(0, .int k n)] h K = K (.slice (some ⟨h.next, 0, none⟩) 1 1) (h.alloc (.cells [.int k n] e false)) := bsW_of hb rfl (by omega) rfl rfl
theorem bsW_int3 (hb : bsI P ty = some (e, 1)) (h : AHeap) (K : VQ) (k : IntKind) (a0 a1 a2 : Int) : bsW P ty 3 [(0, .int k a0), (1, .int k a1), (2, .int k a2)] h K = K (.slice (some ⟨h.next, 0, none⟩) 3 3) (h.alloc (.cells [.int k a0, .int k a1, .int k a2] e false)) := bsW_of hb rfl (by omega) rfl rfl
theorem bsW_int5 (hb : bsI P ty = some (e, 1)) (h : AHeap) (K : VQ) (k : IntKind) (a0 a1 a2 a3 a4 : Int) : bsW P ty 5 [(0, .int k a0), (1, .int k a1), (2, .int k a2), (3, .int k a3), (4, .int k a4)] h K = K (.slice (some ⟨h.next, 0, none⟩) 5 5) (h.alloc (.cells [.int k a0, .int k a1, .int k a2, .int k a3, .int k a4] e false)) := bsW_of hb rfl (by omega) rfl rfl
theorem bsW_string (hb : bsI P ty = some (e, 1)) (h : AHeap) (K : VQ) (s : ByteArray) : bsW P ty 1 [(0, .string s)] h K = K (.slice (some ⟨h.next, 0, none⟩) 1 1) (h.alloc (.cells [.string s] e false)) := bsW_of hb rfl (by omega) rfl rfl
theorem bsW_slice (hb : bsI P ty = some (e, 1)) (h : AHeap) (K : VQ) (a : Option Addr) (n m : Nat) : bsW P ty 1 [(0, .slice a n m)] h K = K (.slice (some ⟨h.next, 0, none⟩) 1 1) (h.alloc (.cells [.slice a n m] e false)) := bsW_of hb rfl (by omega) rfl rfl
theorem bsW_agg {sz : Nat} (hb : bsI P ty = some (e, sz)) (h : AHeap) (K : VQ) (l : List Value) (hl : l.length = sz) (hz : sz ≤ 1048576) (h1 : l.all (·.oneCell') = true) : bsW P ty 1 [(0, .agg l.toArray)] h K = K (.slice (some ⟨h.next, 0, none⟩) 1 1) (h.alloc (.cells l e false)) :=
  bsW_of hb rfl (by omega) (by rw [flatP_agg _ _ _ _ hl, flatP_nil]; simp) h1
end
/-! ### Structs, arrays that are built -/
def bdI (P : Program) (t : TypeId) : Option (List Value × List (Nat × Nat)) :=
  (aZero P t).bind fun z => if z.cells.toList.all plainV = false then none else
  match P.underlying t with
  | some (.struct fields) => (placesA P fields.toList).map fun places => (z.cells.toList, places)
  | some (.array n elem) => (P.info? elem).map fun i => (z.cells.toList, (List.range n).map fun k => (k * i.size, i.size))
  | _ => none
def fillL (pl : List (Nat × Nat)) : List Value → List (Nat × Value) → Option (List Value)
  | cells, [] => some cells
  | cells, (i, v) :: rest => match pl[i]? with
    | none => none
    | some (off, size) => if v.cells.size ≠ size ∨ off + v.cells.size > cells.length then none else fillL pl (setRow cells off v.cells.toList) rest
theorem fillA_fillL (pl : List (Nat × Nat)) : ∀ (parts : List (Nat × Value)) (cells : List Value), fillL pl cells parts ≠ none → fillA (pl[·]?) cells parts = fillL pl cells parts
  | [], cells, _ => by unfold fillA fillL; rfl
  | (i, v) :: rest, cells, hh => by
    unfold fillL at hh ⊢
    unfold fillA
    cases hp : pl[i]? with
    | none => simp [hp] at hh
    | some p =>
      obtain ⟨off, size⟩ := p
      rw [hp] at hh
      simp only at hh ⊢
      split at hh
      · exact absurd rfl hh
      · rename_i hc
        have hc' : ¬ (decide (v.cells.size ≠ size) || decide (off + v.cells.size > cells.length)) = true := by simpa using hc
        rw [if_neg hc', if_neg hc]
        have e := foldl_set_zip off v.cells.toList 0 cells
        rw [Nat.add_zero] at e
        rw [e]
        exact fillA_fillL pl rest _ hh
theorem fillA_congr {f g : Nat → Option (Nat × Nat)} (hfg : ∀ i p, g i = some p → f i = some p) : ∀ (parts : List (Nat × Value)) (cells l : List Value), fillA g cells parts = some l → fillA f cells parts = some l
  | [], cells, l, h => h
  | (i, v) :: rest, cells, l, h => by
    unfold fillA at h ⊢
    cases hg : g i with
    | none => rw [hg] at h; cases h
    | some p =>
      rw [hg] at h
      rw [hfg i p hg]
      obtain ⟨off, size⟩ := p
      simp only at h ⊢
      split at h
      · cases h
      · rename_i hc; rw [if_neg hc]; exact fillA_congr hfg rest _ l h
def bdV (r : Option (List Value × List (Nat × Nat))) (parts : List (Nat × Value)) (h : AHeap) (K : VQ) : Prop := ∃ p l, r = some p ∧ fillL p.2 p.1 parts = some l ∧ K (.agg l.toArray) h
theorem build_w {t : TypeId} {parts : List (Nat × Value)} {h : AHeap} {K : VQ} (hh : bdV (bdI P t) parts h K) : optW (aBuild P t parts) h K := by
  obtain ⟨⟨z0, pl⟩, l, hb, hf, hk⟩ := hh
  simp only at hf
  unfold bdI at hb
  obtain ⟨z, hz, hb⟩ := Option.bind_eq_some_iff.1 hb
  split at hb
  · cases hb
  · rename_i hp
    refine ⟨_, ?_, hk⟩
    unfold aBuild
    simp only [hz, Option.bind_some]
    rw [if_neg hp]
    cases hu : P.underlying t with
    | none => rw [hu] at hb; cases hb
    | some u =>
      rw [hu] at hb
      cases u with
      | struct fields =>
        simp only [Option.map_eq_some_iff] at hb ⊢
        obtain ⟨places, hpl, he⟩ := hb
        cases he
        rw [hpl]
        simp only [Option.bind_some, Option.map_eq_some_iff]
        exact ⟨l, by rw [fillA_fillL _ _ _ (by rw [hf]; simp)]; exact hf, rfl⟩
      | array n elem =>
        simp only [Option.map_eq_some_iff] at hb ⊢
        obtain ⟨i, hi, he⟩ := hb
        cases he
        rw [hi]
        simp only [Option.bind_some, Option.map_eq_some_iff]
        refine ⟨l, fillA_congr (fun j p hj => ?_) _ _ _ (by rw [fillA_fillL _ _ _ (by rw [hf]; simp)]; exact hf), rfl⟩
        rw [List.getElem?_map] at hj
        obtain ⟨k, hk1, hk2⟩ := Option.map_eq_some_iff.1 hj
        have : k = j := by
          have := List.getElem?_eq_some_iff.1 hk1
          obtain ⟨h1, h2⟩ := this
          simp at h2; exact h2.symm
        subst this
        rw [hk2]
      | _ => cases hb
theorem bdV_some {z : List Value} {pl : List (Nat × Nat)} {parts : List (Nat × Value)} {h : AHeap} {K : VQ} : bdV (some (z, pl)) parts h K = ∃ l, fillL pl z parts = some l ∧ K (.agg l.toArray) h := by
  unfold bdV; simp
theorem fillL_nil (pl : List (Nat × Nat)) (cells : List Value) : fillL pl cells [] = some cells := by unfold fillL; rfl
def fillS (pl : List (Nat × Nat)) (p : Option (Nat × Nat)) (v : Value) (cells : List Value) (rest : List (Nat × Value)) : Option (List Value) := match p with
    | none => none
    | some (off, size) => if v.cells.size ≠ size ∨ off + v.cells.size > cells.length then none else fillL pl (setRow cells off v.cells.toList) rest
theorem fillL_cons (pl : List (Nat × Nat)) (cells : List Value) (i : Nat) (v : Value) (rest : List (Nat × Value)) : fillL pl cells ((i, v) :: rest) = fillS pl pl[i]? v cells rest := by
  conv => lhs; unfold fillL
  rfl
section
variable (pl : List (Nat × Nat)) (cells : List Value) (rest : List (Nat × Value)) (off : Nat)
theorem fillS_one (v : Value) (hv : v.cells = #[v]) (h : off < cells.length) : fillS pl (some (off, 1)) v cells rest = fillL pl (cells.set off v) rest := by
  unfold fillS; simp only [hv]; rw [if_neg (by simp; omega)]; rfl
theorem fillS_int (k : IntKind) (n : Int) (h : off < cells.length) : fillS pl (some (off, 1)) (.int k n) cells rest = fillL pl (cells.set off (.int k n)) rest := fillS_one pl cells rest off _ rfl h
theorem fillS_bool (b : Bool) (h : off < cells.length) : fillS pl (some (off, 1)) (.bool b) cells rest = fillL pl (cells.set off (.bool b)) rest := fillS_one pl cells rest off _ rfl h
theorem fillS_string (b : ByteArray) (h : off < cells.length) : fillS pl (some (off, 1)) (.string b) cells rest = fillL pl (cells.set off (.string b)) rest := fillS_one pl cells rest off _ rfl h
theorem fillS_slice (a : Option Addr) (n c : Nat) (h : off < cells.length) : fillS pl (some (off, 1)) (.slice a n c) cells rest = fillL pl (cells.set off (.slice a n c)) rest := fillS_one pl cells rest off _ rfl h
theorem fillS_pointer (a : Option Addr) (h : off < cells.length) : fillS pl (some (off, 1)) (.pointer a) cells rest = fillL pl (cells.set off (.pointer a)) rest := fillS_one pl cells rest off _ rfl h
theorem fillS_map (a : Option Nat) (h : off < cells.length) : fillS pl (some (off, 1)) (.map a) cells rest = fillL pl (cells.set off (.map a)) rest := fillS_one pl cells rest off _ rfl h
theorem fillS_func (f : Fn) (a b : Array Value) (h : off < cells.length) : fillS pl (some (off, 1)) (.func f a b) cells rest = fillL pl (cells.set off (.func f a b)) rest := fillS_one pl cells rest off _ rfl h
theorem fillS_agg (l : List Value) (sz : Nat) (hl : l.length = sz) (h : off + sz ≤ cells.length) : fillS pl (some (off, sz)) (.agg l.toArray) cells rest = fillL pl (setRow cells off l) rest := by
  have hn : ¬ ((Value.agg l.toArray).cells.size ≠ sz ∨ off + (Value.agg l.toArray).cells.size > cells.length) := by
    have : (Value.agg l.toArray).cells.size = l.length := by simp [Value.cells]
    rw [this]; omega
  unfold fillS
  simp only
  rw [if_neg hn]; rfl
end

section
variable {h : AHeap} {e : TypeId}
/-- A slice that is the whole of an object. -/
theorem Ow.whole {sz n id : Nat} {c : List Value} {o : Bool} (hg : h.get id = some (.cells c e o)) (hc : c.length = n * sz) (hl : h.low ≤ id) : Ow h e sz (.slice (some ⟨id, 0, none⟩) n n) n c :=
  .inr ⟨id, 0, n, c, o, rfl, Nat.le_refl _, hg, by omega, by simp [← hc], hl⟩
theorem Rd.whole {sz n id : Nat} {c : List Value} {o : Bool} (hg : h.get id = some (.cells c e o)) (hc : c.length = n * sz) : Rd h e sz (.slice (some ⟨id, 0, none⟩) n n) n c :=
  .inr ⟨id, 0, n, c, e, o, rfl, Nat.le_refl _, hg, by omega, by simp [← hc], .inr rfl⟩
end

/-! ### Structs, compared -/
end Go.AM
