/- AM: stores, maps, lengths. -/
import Derived.Test.YtgdcbjpookldoaaDoorAMHeap
set_option linter.unusedSimpArgs false
set_option linter.unusedVariables false
namespace Go.AM
variable {P : Program} {B : Nat} {μ : Map} {h : AHeap} {w : World}

theorem setRow_length : ∀ (vs : List Value) (c : List Value) (o : Nat), (setRow c o vs).length = c.length
  | [], _, _ => rfl
  | v :: vs, c, o => by simp only [setRow]; rw [setRow_length vs]; simp
theorem setRow_drop : ∀ (vs : List Value) (c : List Value) (b o : Nat), (setRow c (b + o) vs).drop b = setRow (c.drop b) o vs
  | [], _, _, _ => rfl
  | v :: vs, c, b, o => by
    simp only [setRow]
    rw [Nat.add_assoc, setRow_drop vs, List.drop_set, if_neg (by omega)]
    congr 2; omega
theorem setRow_take : ∀ (vs : List Value) (c : List Value) (n o : Nat), (setRow c o vs).take n = setRow (c.take n) o vs
  | [], _, _, _ => rfl
  | v :: vs, c, n, o => by simp only [setRow]; rw [setRow_take vs, List.take_set]
theorem VRs.setRow {l l' : List Value} (hl : VRs μ l l') : ∀ {vs vs' : List Value} (o : Nat), VRs μ vs vs' → VRs μ (setRow l o vs) (AM.setRow l' o vs') := by
  intro vs
  induction vs generalizing l l' with
  | nil => intro vs' o hv; rw [hv.nil_inv]; exact hl
  | cons v vs ih =>
    intro vs' o hv
    obtain ⟨v', m, rfl, hx, hm⟩ := hv.cons_inv
    exact ih (hl.set o hx) (o + 1) hm
theorem setRow_all {p : Value → Bool} : ∀ (vs : List Value) (c : List Value) (o : Nat), c.all p = true → vs.all p = true → (setRow c o vs).all p = true
  | [], _, _, hc, _ => hc
  | v :: vs, c, o, hc, hv => by
    simp only [List.all_cons, Bool.and_eq_true] at hv
    refine setRow_all vs _ _ ?_ hv.2
    simp only [List.all_eq_true] at hc ⊢
    intro x hx
    rcases List.mem_or_eq_of_mem_set hx with h1 | h1
    · exact hc x h1
    · rw [h1]; exact hv.1

theorem setCell_heap {b o : Nat} {v : Value} {C : Array Value} {e : TypeId} {fr : Nat × Nat} (hb : w.heap[b]? = some (.cells C e fr)) :
    (w.setCell ⟨b, o, none⟩ v).heap[b]? = some (.cells (C.setIfInBounds o v) e fr) := by
  simp only [World.setCell]
  rw [Array.getElem?_modify, if_pos rfl, hb]; rfl
theorem setCell_heap_other {b o k : Nat} {v : Value} (hk : k ≠ b) : (w.setCell ⟨b, o, none⟩ v).heap[k]? = w.heap[k]? := by
  simp only [World.setCell]
  rw [Array.getElem?_modify, if_neg (fun e => hk e.symm)]

theorem setCells_heap {b : Nat} {e : TypeId} {fr : Nat × Nat} : ∀ (vs : List Value) (o : Nat) (w : World) (C : Array Value), w.heap[b]? = some (.cells C e fr) →
    ∃ C', (w.setCells b o vs).heap[b]? = some (.cells C' e fr) ∧ C'.toList = setRow C.toList o vs ∧ C'.size = C.size ∧ (w.setCells b o vs).heap.size = w.heap.size ∧ ∀ k, k ≠ b → (w.setCells b o vs).heap[k]? = w.heap[k]?
  | [], o, w, C, hb => ⟨C, hb, rfl, rfl, rfl, fun _ _ => rfl⟩
  | v :: vs, o, w, C, hb => by
    obtain ⟨C', h1, h2, h3, h4, h5⟩ := setCells_heap vs (o + 1) (w.setCell ⟨b, o, none⟩ v) (C.setIfInBounds o v) (setCell_heap hb)
    exact ⟨C', h1, by rw [h2]; simp [setRow], by rw [h3]; simp, by rw [World.setCells, h4]; simp, fun k hk => by rw [World.setCells, h5 k hk, setCell_heap_other hk]⟩

theorem setCells_env : ∀ (vs : List Value) (r off : Nat) (w : World), SameEnv w (w.setCells r off vs) := by
  intro vs
  induction vs with
  | nil => intro r off w; exact SameEnv.refl w
  | cons v vs ih => intro r off w; exact (show SameEnv w (w.setCell ⟨r, off, none⟩ v) from ⟨rfl, rfl, rfl⟩).trans (ih r (off + 1) _)

/-- Cells of an object are written. -/
theorem HR.write (hr : HR P B μ h w) {id off : Nat} {loc : Loc} {c : List Value} {e : TypeId} {b : Bool} (hm : μ id = some loc) (hg : h.get id = some (.cells c e b)) (hlow : h.low ≤ id)
    {vs vs' : List Value} (hv : VRs μ vs vs') (hfit : off + vs.length ≤ c.length) (hone : vs.all (·.oneCell') = true) :
    (storeCells ⟨loc.blk, loc.base + off, none⟩ vs' 0).run P w = .ok () (w.setCells loc.blk (loc.base + off) vs') ∧
    Post P B μ h w μ (h.put id (some (.cells (setRow c off vs) e b))) (w.setCells loc.blk (loc.base + off) vs') ∧ Keeps h (h.put id (some (.cells (setRow c off vs) e b))) := by
  obtain ⟨C, fr, hb, hcl, ho, hes, hcs, hbs, hvv, hall, hfr0⟩ := hr.rowOwn hm hg hlow
  have hfr := hfr0.resolve_left (by rw [(hr.own id loc hm (by rw [hg]; simp) hlow).1]; simp)
  have hvl := hv.1
  refine ⟨?_, ?_⟩
  · have := run_storeCells_cells (P := P) loc.blk (loc.base + off) vs' 0 w (fun j hj => ?_) (fun j hj => ?_) (fun v hv' => ?_)
    · simpa using this
    · rw [cell_of_row w _ _ C e fr hb]
      rw [Array.getElem?_eq_getElem (by omega)]; rfl
    · simp only [World.frozen?, hb]
      have := hfr.1 (loc.base + off + 0 + j) (by omega)
      simpa using this
    · rw [hv.oneCell] at hone
      exact List.all_eq_true.1 hone v hv'
  · obtain ⟨C', h1, h2, h3, h4, h5⟩ := setCells_heap vs' (loc.base + off) w C hb
    refine hr.put hm (by rw [hg]; simp) hlow h4 (fun k hk => h5 k hk) h1 ⟨.inr rfl, by rw [setRow_length]; exact hcl, ho, hes, by rw [h3]; exact hcs, ⟨hbs, hr.flat hm hg⟩, ?_, setRow_all _ _ _ hall hone, by exact .inr ⟨fun i hi => hfr.1 i (by omega), hfr.2⟩⟩ (fun r hr' => by rw [hg] at hr'; cases hr') (setCells_env vs' _ _ w)
    rw [h2, setRow_drop, setRow_take]
    exact hvv.setRow off hv

theorem aStore_sound (hr : HR P B μ h w) {t : TypeId} {x x' v v' : Value} {h' : AHeap} (hh : aStore P h t x v = some h') (hx : VR μ x x') (hv : VR μ v v') :
    ∃ w', (Instr.storeAt t x' v').run P w = .ok () w' ∧ Post P B μ h w μ h' w' ∧ Keeps h h' := by
  unfold aStore at hh
  split at hh
  · rename_i id off
    cases hx with
    | ptr _ _ loc hl =>
    split at hh
    · rename_i c e b hg
      cases hi : P.info? t with
      | none => rw [hi] at hh; simp at hh
      | some i =>
        rw [hi] at hh
        simp only [Option.bind_some] at hh
        split at hh
        · rename_i hc
          obtain ⟨c1, c2, c3, c4⟩ := hc
          cases hh
          obtain ⟨g1, g2⟩ := hr.write hl hg c1 hv.cells (by simp; omega) c4 (off := off)
          refine ⟨_, ?_, g2⟩
          simp only [Instr.storeAt, Instr.sureAddr, Sem.run_bind, Sem.run_pure, Result.andThen_ok, storeVar, run_size hi, ← hv.cells_size, c2]
          simpa using g1
        · simp at hh
    · simp at hh
  · simp at hh

/-! ### Maps -/

theorem getObj_map {r : Nat} {E : Array MapEntry} {clock : Nat} (hb : w.heap[r]? = some (.map E clock)) : (getObj r).run P w = .ok (.map E clock) w := by simp [getObj, Sem.run, hb]
theorem setObj_map {r : Nat} {E : Array MapEntry} {clock : Nat} (o : Obj) (hb : w.heap[r]? = some (.map E clock)) : (setObj r o).run P w = .ok () { w with heap := w.heap.setIfInBounds r o } := by simp [setObj, Sem.run, hb]

theorem aKeyEq_VR {a b a' b' : Value} {r : Bool} (hh : aKeyEq a b = some r) (ha : VR μ a a') (hb : VR μ b b') : aKeyEq a' b' = some r := by
  unfold aKeyEq at hh
  split at hh
  · cases ha; cases hb; exact hh
  · cases ha; cases hb; exact hh
  · simp at hh

/-- The keys' kind is plain, and they are of it. -/
theorem sameNow_of {d : TypeDesc} {k k' : Value} {r : Bool} (hd : (∃ q, d = .int q) ∨ d = .string) (hk : (∃ q n, d = .int q ∧ k = .int q n) ∨ (∃ s, d = .string ∧ k = .string s)) (hh : aKeyEq k k' = some r) :
    Instr.sameNow d k k' = some r := by
  unfold aKeyEq at hh
  split at hh
  · rename_i q a q' b
    rcases hk with ⟨q2, n, rfl, e⟩ | ⟨s, _, e⟩
    · cases e; simp only [Instr.sameNow]; exact hh
    · cases e
  · rename_i a b
    rcases hk with ⟨q2, n, _, e⟩ | ⟨s, rfl, e⟩
    · cases e
    · simp only [Instr.sameNow]; exact hh
  · simp at hh

theorem aFind_key {k : Value} : ∀ {es : List (Value × Value)} {i j : Nat} {v : Value}, aFind k es i = some (some (j, v)) → ∃ k', es[j - i]? = some (k', v) ∧ aKeyEq k k' = some true ∧ i ≤ j := by
  intro es
  induction es with
  | nil => intro i j v hh; simp [aFind] at hh
  | cons e es ih =>
    intro i j v hh
    obtain ⟨ek, ev⟩ := e
    simp only [aFind] at hh
    split at hh
    · rename_i hq; simp at hh; obtain ⟨rfl, rfl⟩ := hh; exact ⟨ek, by simp, hq, Nat.le_refl _⟩
    · obtain ⟨k', g1, g2, g3⟩ := ih hh
      refine ⟨k', ?_, g2, by omega⟩
      rw [show j - i = (j - (i + 1)) + 1 by omega]; simpa using g1
    · simp at hh

theorem findNow_all {d : TypeDesc} {k' : Value} : ∀ (E : List MapEntry) (i : Nat), (∀ x ∈ E, ∃ b, Instr.sameNow d k' x.key = some b) →
    ((∀ x ∈ E, Instr.sameNow d k' x.key = some false) ∧ Instr.findNow d k' E i = some none) ∨
    ∃ j en, E[j]? = some en ∧ Instr.sameNow d k' en.key = some true ∧ Instr.findNow d k' E i = some (some (i + j, en.val)) := by
  intro E
  induction E with
  | nil => intro i _; exact .inl ⟨by simp, rfl⟩
  | cons x E ih =>
    intro i hE
    obtain ⟨b, hb⟩ := hE x (by simp)
    simp only [Instr.findNow, hb]
    cases b with
    | true => exact .inr ⟨0, x, by simp, hb, by simp⟩
    | false =>
      rcases ih (i + 1) (fun y hy => hE y (by simp [hy])) with ⟨h1, h2⟩ | ⟨j, en, h1, h2, h3⟩
      · refine .inl ⟨?_, h2⟩
        intro y hy
        rcases List.mem_cons.1 hy with rfl | hy
        · exact hb
        · exact h1 y hy
      · exact .inr ⟨j + 1, en, by simpa using h1, h2, by rw [h3]; simp; omega⟩

theorem aKeyEq_true {k ek : Value} (hh : aKeyEq k ek = some true) : ek = k := by
  unfold aKeyEq at hh
  split at hh
  · split at hh
    · rename_i e; subst e; simp at hh; subst hh; rfl
    · simp at hh
  · simp only [Option.some.injEq] at hh
    rw [(MapKept.bytes_beq _ _).1 hh]
  · simp at hh

theorem aKeyEq_comm {a b : Value} : aKeyEq a b = aKeyEq b a := by
  unfold aKeyEq
  cases a <;> cases b <;> try rfl
  · rename_i k x k' y
    by_cases e : k = k'
    · subst e; simp [Bool.beq_comm, eq_comm, BEq.comm]
    · have e' : ¬ k' = k := fun h => e h.symm
      simp [e, e']
  · rename_i x y
    simp only [Option.some.injEq]
    rw [Bool.eq_iff_iff, MapKept.bytes_beq, MapKept.bytes_beq]
    exact eq_comm

theorem aFind_none {k : Value} : ∀ {es : List (Value × Value)} {i : Nat}, aFind k es i = some none → ∀ x ∈ es.map (·.1), aKeyEq k x = some false := by
  intro es
  induction es with
  | nil => intro i _ x hx; simp at hx
  | cons e es ih =>
    intro i hh x hx
    obtain ⟨ek, ev⟩ := e
    simp only [aFind] at hh
    split at hh
    · simp at hh
    · rename_i hq
      simp only [List.map_cons, List.mem_cons] at hx
      rcases hx with rfl | hx
      · exact hq
      · exact ih hh x hx
    · simp at hh

/-- A key that is an integer or a string is itself. -/
theorem VR.keyEq {k k' : Value} (hk : VR μ k k') (hkk : (∃ q n, k' = .int q n) ∨ (∃ s, k' = .string s)) : k = k' := by
  rcases hkk with ⟨q, n, rfl⟩ | ⟨s, rfl⟩ <;> cases hk <;> rfl

theorem find_sound {d : TypeDesc} {k k' : Value} (hk : VR μ k k') (hkk : (∃ q n, d = .int q ∧ k' = .int q n) ∨ (∃ s, d = .string ∧ k' = .string s)) {es : List (Value × Value)} {E : Array MapEntry} {clock : Nat} (hm : MR μ es E clock)
    {r : Option (Nat × Value)} (hh : aFind k es 0 = some r) :
    ∃ r', Instr.findNow d k' E.toList 0 = some r' ∧ (match r, r' with
      | none, none => (∀ x ∈ E.toList, x.key ≠ k') ∧ (∀ x ∈ es.map (·.1), aKeyEq x k = some false ∧ aKeyEq k x = some false)
      | some (j, v), some (j', v') => VR μ v v' ∧ ∃ en, E[j']? = some en ∧ en.key = k' ∧ en.val = v' ∧ es[j]? = some (k, v) ∧ ∃ F : List MapEntry, F.Perm E.toList ∧ VRs μ (es.map (·.1)) (F.map (·.key)) ∧ VRs μ (es.map (·.2)) (F.map (·.val)) ∧ F[j]? = some en
      | _, _ => False) := by
  obtain ⟨hst, hap, F, hp, hF1, hF2⟩ := hm
  have hkk' : (∃ q n, k' = .int q n) ∨ (∃ s, k' = .string s) := by
    rcases hkk with ⟨q, n, _, e⟩ | ⟨s, _, e⟩
    · exact .inl ⟨q, n, e⟩
    · exact .inr ⟨s, e⟩
  have hd : (∃ q, d = .int q) ∨ d = .string := by
    rcases hkk with ⟨q, n, e, _⟩ | ⟨s, e, _⟩
    · exact .inl ⟨q, e⟩
    · exact .inr e
  have hself : aKeyEq k' k' = some true := by
    rcases hkk' with ⟨q, n, rfl⟩ | ⟨s, rfl⟩
    · simp [aKeyEq]
    · simp only [aKeyEq]; rw [(MapKept.bytes_beq _ _).2 rfl]
  obtain rfl := hk.keyEq hkk'
  have toF : ∀ {x x' : Value} {b : Bool}, VR μ x x' → aKeyEq k x = some b → Instr.sameNow d k x' = some b := fun hx hb => sameNow_of hd hkk (aKeyEq_VR hb hk hx)
  cases r with
  | none =>
    have hn := aFind_none hh
    have hall : ∀ x ∈ E.toList, aKeyEq k x.key = some false := by
      intro x hx
      have hx' : x ∈ F := hp.mem_iff.2 hx
      obtain ⟨i, hi⟩ := List.getElem?_of_mem hx'
      have hlt : i < es.length := by have := hF1.1; have := (List.getElem?_eq_some_iff.1 hi).1; simp at *; omega
      obtain ⟨y, hy, hv⟩ := hF1.get (i := i) (x := (es[i]).1) (by simp [hlt])
      simp only [List.getElem?_map, hi, Option.map_some, Option.some.injEq] at hy
      subst hy
      exact aKeyEq_VR (hn _ (List.mem_map.2 ⟨es[i], by simp, rfl⟩)) hk hv
    rcases findNow_all (d := d) (k' := k) E.toList 0 (fun x hx => ⟨false, sameNow_of hd hkk (hall x hx)⟩) with ⟨_, h2⟩ | ⟨j, en, h1, h2, _⟩
    · refine ⟨none, h2, fun x hx e => ?_, fun x hx => ⟨by rw [aKeyEq_comm]; exact hn x hx, hn x hx⟩⟩
      have := hall x hx
      rw [e, hself] at this; cases this
    · have := sameNow_of hd hkk (hall en (List.mem_of_getElem? h1))
      rw [h2] at this; cases this
  | some p =>
    obtain ⟨j, v⟩ := p
    obtain ⟨ek, f1, f2, _⟩ := aFind_key hh
    simp only [Nat.sub_zero] at f1
    obtain rfl := aKeyEq_true f2
    have hjlt : j < es.length := (List.getElem?_eq_some_iff.1 f1).1
    obtain ⟨y, hy, hv⟩ := hF1.get (i := j) (x := ek) (by simp [f1])
    obtain ⟨u, hu, hvu⟩ := hF2.get (i := j) (x := v) (by simp [f1])
    obtain ⟨fn, hfn⟩ : ∃ fn, F[j]? = some fn := by
      cases e : F[j]? with
      | none => simp [e] at hy
      | some fn => exact ⟨fn, rfl⟩
    simp only [List.getElem?_map, hfn, Option.map_some, Option.some.injEq] at hy hu
    subst hy; subst hu
    have hother : ∀ i en, F[i]? = some en → i ≠ j → Instr.sameNow d ek en.key = some false := by
      intro i en hi hij
      have hlt : i < es.length := by have := hF1.1; have := (List.getElem?_eq_some_iff.1 hi).1; simp at *; omega
      obtain ⟨y, hy, hv⟩ := hF1.get (i := i) (x := (es[i]).1) (by simp [hlt])
      simp only [List.getElem?_map, hi, Option.map_some, Option.some.injEq] at hy
      subst hy
      have hpi : aKeyEq ek (es[i]).1 = some false := by
        have hj : (es.map (·.1))[j]? = some ek := by simp [f1]
        have hi' : (es.map (·.1))[i]? = some (es[i]).1 := by simp [hlt]
        have hpw := List.pairwise_iff_getElem.1 hap
        have hjl : j < (es.map (·.1)).length := by simpa using hjlt
        have hil : i < (es.map (·.1)).length := by simpa using hlt
        have ej : (es.map (·.1))[j] = ek := by have := List.getElem?_eq_getElem hjl; rw [hj] at this; exact (Option.some.inj this).symm
        have ei : (es.map (·.1))[i] = (es[i]).1 := by simp
        rcases Nat.lt_or_ge i j with h | h
        · have := (hpw i j hil hjl h).2
          rw [ej, ei] at this; exact this
        · have := (hpw j i hjl hil (by omega)).1
          rw [ej, ei] at this; exact this
      exact toF hv hpi
    have hsome : ∀ x ∈ E.toList, ∃ b, Instr.sameNow d ek x.key = some b := by
      intro x hx
      obtain ⟨i, hi⟩ := List.getElem?_of_mem (hp.mem_iff.2 hx)
      by_cases e : i = j
      · subst e; rw [hfn] at hi; cases hi; exact ⟨_, toF hv f2⟩
      · exact ⟨_, hother i x hi e⟩
    rcases findNow_all (d := d) (k' := ek) E.toList 0 hsome with ⟨h1, _⟩ | ⟨j', en, h1, h2, h3⟩
    · have := h1 fn (hp.mem_iff.1 (List.mem_of_getElem? hfn))
      rw [toF hv f2] at this; cases this
    · have hen : en = fn := by
        obtain ⟨i, hi⟩ := List.getElem?_of_mem (hp.mem_iff.2 (List.mem_of_getElem? h1))
        by_cases e : i = j
        · subst e; rw [hfn] at hi; exact (Option.some.inj hi).symm
        · rw [hother i en hi e] at h2; cases h2
      subst hen
      rw [Nat.zero_add] at h3
      have hkey : en.key = ek := by
        generalize en.key = z at hv
        rcases hkk' with ⟨q, n, e⟩ | ⟨s, e⟩ <;> subst e <;> cases hv <;> rfl
      exact ⟨some (j', en.val), h3, hvu, en, by simpa using h1, hkey, rfl, f1, F, hp, hF1, hF2, hfn⟩

theorem perm_set {α : Type} {A B : List α} {i j : Nat} {x : α} (y : α) (hp : A.Perm B) (ha : A[i]? = some x) (hb : B[j]? = some x) : (A.set i y).Perm (B.set j y) := by
  have key : ∀ (L : List α) (k : Nat), L[k]? = some x → L.Perm (x :: L.eraseIdx k) ∧ (L.set k y).Perm (y :: L.eraseIdx k) := by
    intro L
    induction L with
    | nil => intro k h; simp at h
    | cons z L ih =>
      intro k h
      cases k with
      | zero => simp at h; subst h; exact ⟨List.Perm.refl _, List.Perm.refl _⟩
      | succ k =>
        simp at h
        obtain ⟨h1, h2⟩ := ih k h
        simp only [List.eraseIdx_cons_succ, List.set_cons_succ]
        exact ⟨(h1.cons z).trans (List.Perm.swap _ _ _), (h2.cons z).trans (List.Perm.swap _ _ _)⟩
  obtain ⟨a1, a2⟩ := key A i ha
  obtain ⟨b1, b2⟩ := key B j hb
  have he : (A.eraseIdx i).Perm (B.eraseIdx j) := ((a1.symm.trans hp).trans b1).cons_inv
  exact a2.trans ((he.cons y).trans b2.symm)
theorem perm_erase {α : Type} {A B : List α} {i j : Nat} {x : α} (hp : A.Perm B) (ha : A[i]? = some x) (hb : B[j]? = some x) : (A.eraseIdx i).Perm (B.eraseIdx j) := by
  have key : ∀ (L : List α) (k : Nat), L[k]? = some x → L.Perm (x :: L.eraseIdx k) := by
    intro L
    induction L with
    | nil => intro k h; simp at h
    | cons z L ih =>
      intro k h
      cases k with
      | zero => simp at h; subst h; exact List.Perm.refl _
      | succ k =>
        simp at h
        simp only [List.eraseIdx_cons_succ]
        exact ((ih k h).cons z).trans (List.Perm.swap _ _ _)
  exact (((key A i ha).symm.trans hp).trans (key B j hb)).cons_inv

theorem MR.push {es : List (Value × Value)} {E : Array MapEntry} {clock : Nat} (hm : MR μ es E clock) {k k' v v' : Value} (hk : VR μ k k') (hv : VR μ v v') (h1 : ∀ x ∈ E.toList, x.key ≠ k') (h2 : ∀ x ∈ es.map (·.1), aKeyEq x k = some false ∧ aKeyEq k x = some false) :
    MR μ (es ++ [(k, v)]) (E.push { key := k', val := v', born := clock }) (clock + 1) := by
  obtain ⟨hst, hap, F, hp, hF1, hF2⟩ := hm
  refine ⟨MapKept.stamped_push hst h1, ?_, F ++ [{ key := k', val := v', born := clock }], ?_, ?_, ?_⟩
  · rw [List.map_append, List.pairwise_append]
    exact ⟨hap, List.pairwise_singleton _ _, fun a ha b hb => by simp at hb; subst hb; exact h2 a ha⟩
  · rw [Array.toList_push]; exact hp.append_right _
  · simpa using hF1.append (VRs.cons hk (VRs.nil μ))
  · simpa using hF2.append (VRs.cons hv (VRs.nil μ))

theorem keyOk_sound {kt : TypeId} {k k' : Value} (hh : aKeyOk P kt k = true) (hk : VR μ k k') :
    ∃ d, P.underlying kt = some d ∧ ((∃ q n, d = .int q ∧ k' = .int q n) ∨ (∃ s, d = .string ∧ k' = .string s)) ∧ ∀ b, (Instr.checkKey b 10000 kt k').run P w = .ok () w := by
  unfold aKeyOk at hh
  split at hh
  · rename_i q q' n hu
    cases hk
    have : q = q' := by simpa using hh
    subst this
    exact ⟨_, hu, .inl ⟨q, n, rfl, rfl⟩, fun b => by rw [show (10000 : Nat) = 9999 + 1 from rfl]; generalize 9999 = m; simp [Instr.checkKey, run_underlying hu]⟩
  · rename_i s hu
    cases hk
    exact ⟨_, hu, .inr ⟨s, rfl, rfl⟩, fun b => by rw [show (10000 : Nat) = 9999 + 1 from rfl]; generalize 9999 = m; simp [Instr.checkKey, run_underlying hu]⟩
  · simp at hh

theorem findKey_run {kt : TypeId} {d : TypeDesc} {k : Value} {E : List MapEntry} {r : Option (Nat × Value)} (hu : P.underlying kt = some d) (hf : Instr.findNow d k E 0 = some r) : (Instr.findKey kt k E).run P w = .ok r w := by
  simp [Instr.findKey, run_underlying hu, hf]

/-- A map's object. -/
theorem HR.mapAt (hr : HR P B μ h w) {id : Nat} {loc : Loc} {es : List (Value × Value)} (hm : μ id = some loc) (hg : h.get id = some (.map es)) :
    ∃ E clock, w.heap[loc.blk]? = some (.map E clock) ∧ MR μ es E clock := by
  obtain ⟨O, h1, h2⟩ := hr.obj id loc _ hm hg
  cases O with
  | map E clock => exact ⟨E, clock, h1, h2⟩
  | _ => exact h2.elim

theorem aLookup_sound (hr : HR P B μ h w) {t : TypeId} {m k m' k' v : Value} {ok : Bool} (hh : aLookup P h t m k ok = some v) (hm : VR μ m m') (hk : VR μ k k') :
    ∃ v', (Instr.lookup t m' k' ok).run P w = .ok v' w ∧ VR μ v v' := by
  unfold aLookup at hh
  split at hh
  · rename_i kt et hu
    split at hh
    · simp at hh
    · rename_i hko
      simp only [Bool.not_eq_true, Bool.not_eq_false'] at hko
      obtain ⟨d, hd, hkd, hck⟩ := keyOk_sound (w := w) (by simpa using hko) hk
      -- the entries
      have ent : ∃ (es : List (Value × Value)) (E : Array MapEntry), aEntries h m = some es ∧
          (∀ r', Instr.findNow d k' E.toList 0 = some r' → (Instr.lookup t m' k' ok).run P w = match r' with
            | some (_, u) => .ok (if ok then .tuple #[u, .bool true] else u) w
            | none => ((zeroValue et).run P w).andThen fun z w => .ok (if ok then .tuple #[z, .bool false] else z) w) ∧
          ∃ clock, MR μ es E clock := by
        cases hm with
        | mnil =>
          refine ⟨[], #[], rfl, fun r' hr' => ?_, 0, MR.nil μ 0⟩
          have gk := findKey_run (w := w) hd hr'
          simp only [Instr.lookup, Sem.run_bind, run_underlying hu, Result.andThen_ok, Sem.run_pure, hck, gk]
          cases r' <;> simp
        | map id loc hl =>
          cases hg : h.get id with
          | none => simp [aEntries, hg] at hh
          | some o =>
            cases o with
            | map es =>
              obtain ⟨E, clock, h1, h2⟩ := hr.mapAt hl hg
              refine ⟨es, E, by simp [aEntries, hg], fun r' hr' => ?_, clock, h2⟩
              have gk := findKey_run (w := w) hd hr'
              simp only [Instr.lookup, Sem.run_bind, run_underlying hu, Result.andThen_ok, Sem.run_pure, getObj_map h1, hck, gk]
              cases r' <;> simp
            | _ => simp [aEntries, hg] at hh
        | _ => simp [aEntries] at hh
      obtain ⟨es, E, e1, e2, clock, e3⟩ := ent
      rw [e1] at hh
      simp only [Option.bind_some] at hh
      cases hf : aFind k es 0 with
      | none => rw [hf] at hh; simp at hh
      | some r =>
        rw [hf] at hh
        simp only [Option.bind_some] at hh
        obtain ⟨r', g1, g2⟩ := find_sound hk hkd e3 hf
        rw [e2 r' g1]
        cases r with
        | none =>
          cases r' with
          | some _ => exact g2.elim
          | none =>
            simp only at hh
            cases hz : aZero P et with
            | none => rw [hz] at hh; simp at hh
            | some z =>
              rw [hz] at hh
              simp only [Option.bind_some] at hh
              split at hh
              · rename_i hc
                cases hh
                simp only [Sem.run_bind, run_zero hz, Result.andThen_ok, Sem.run_pure]
                refine ⟨_, rfl, ?_⟩
                cases ok
                · exact VR.closed hc
                · exact VR.tuple' (VRs.cons (VR.closed hc) (VRs.cons (.bool _) (VRs.nil μ)))
              · simp at hh
        | some p =>
          obtain ⟨j, u⟩ := p
          cases r' with
          | none => exact g2.elim
          | some p' =>
            obtain ⟨j', u'⟩ := p'
            obtain ⟨hu', _⟩ := g2
            simp only at hh
            cases hh
            simp only [Sem.run_pure, Result.andThen_ok]
            refine ⟨_, rfl, ?_⟩
            cases ok
            · exact hu'
            · exact VR.tuple' (VRs.cons hu' (VRs.cons (.bool _) (VRs.nil μ)))
  · simp at hh

/-- A map's object is written. -/
theorem HR.putMap (hr : HR P B μ h w) {id : Nat} {loc : Loc} {es es' : List (Value × Value)} {E' : Array MapEntry} {clock' : Nat} (hm : μ id = some loc) (hg : h.get id = some (.map es)) (hlow : h.low ≤ id)
    (h1 : MR μ es' E' clock') :
    (setObj loc.blk (.map E' clock')).run P w = .ok () { w with heap := w.heap.setIfInBounds loc.blk (.map E' clock') } ∧
    Post P B μ h w μ (h.put id (some (.map es'))) { w with heap := w.heap.setIfInBounds loc.blk (.map E' clock') } ∧ Keeps h (h.put id (some (.map es'))) := by
  obtain ⟨E, clock, hb, _⟩ := hr.mapAt hm hg
  refine ⟨setObj_map _ hb, hr.put (O := .map E' clock') hm (by rw [hg]; simp) hlow (by simp) (fun b hb' => ?_) ?_ h1 (fun r hr' => by rw [hg] at hr'; cases hr') ⟨rfl, rfl, rfl⟩⟩
  · simp only [Array.getElem?_setIfInBounds]
    rw [if_neg (fun e => hb' e.symm)]
  · have hlt : loc.blk < w.heap.size := (hr.dom id loc hm).2
    simp [Array.getElem?_setIfInBounds, hlt]

theorem sameBits_key {k k' : Value} (hh : aKeyEq k k' = some true) : Instr.sameBits 10000 k' k = true := by
  unfold aKeyEq at hh
  split at hh
  · rename_i q a q' b
    split at hh
    · rename_i e; subst e
      simp at hh; subst hh
      simp [Instr.sameBits]
    · simp at hh
  · rename_i a b
    simp only [Option.some.injEq] at hh
    simp only [Instr.sameBits]
    rw [beq_toListBytes] at hh ⊢
    have := (beq_iff_eq.1 hh).symm
    exact beq_iff_eq.2 this
  · simp at hh

theorem modify_map {E : Array MapEntry} {j : Nat} {en : MapEntry} (f : MapEntry → MapEntry) (g : MapEntry → Value) (hE : E[j]? = some en) : (E.modify j f).toList.map g = (E.toList.map g).set j (g (f en)) := by
  apply List.ext_getElem?
  intro i
  simp only [List.getElem?_map, List.getElem?_set, Array.getElem?_toList, Array.getElem?_modify]
  have hlt : j < E.size := (Array.getElem?_eq_some_iff.1 hE).1
  by_cases e : j = i
  · subst e
    have := (Array.getElem?_eq_some_iff.1 hE).2
    simp [hlt, this]
  · simp [e]

theorem aMapUpdate_sound (hr : HR P B μ h w) {t : TypeId} {m k v m' k' v' : Value} {h' : AHeap} (hh : aMapUpdate P h t m k v = some h') (hm : VR μ m m') (hk : VR μ k k') (hv : VR μ v v') :
    ∃ w', (Instr.mapUpdate t m' k' v').run P w = .ok () w' ∧ Post P B μ h w μ h' w' ∧ Keeps h h' := by
  unfold aMapUpdate at hh
  split at hh
  · rename_i kt et id hu
    cases hm with
    | map _ loc hl =>
    split at hh
    · rename_i es hg
      split at hh
      · simp at hh
      · rename_i hko
        simp only [Bool.or_eq_true, decide_eq_true_eq, not_or, Bool.not_eq_true, Bool.not_eq_false', Nat.not_lt] at hko
        obtain ⟨hko, hlow⟩ := hko
        obtain ⟨d, hd, hkd, hck⟩ := keyOk_sound (w := w) (by simpa using hko) hk
        obtain ⟨E, clock, h1, h2⟩ := hr.mapAt hl hg
        cases hf : aFind k es 0 with
        | none => rw [hf] at hh; simp at hh
        | some r =>
          rw [hf] at hh
          simp only [Option.bind_some] at hh
          obtain ⟨r', g1, g2⟩ := find_sound hk hkd h2 hf
          have gk := findKey_run (w := w) hd g1
          simp only [Instr.mapUpdate, Sem.run_bind, run_underlying hu, Result.andThen_ok, getObj_map h1, hck, gk]
          cases r with
          | none =>
            cases r' with
            | some _ => exact g2.elim
            | none =>
              simp only at hh; cases hh
              obtain ⟨a1, a2⟩ := hr.putMap (es' := es ++ [(k, v)]) (E' := E.push { key := k', val := v', born := clock }) (clock' := clock + 1) hl hg hlow (h2.push hk hv g2.1 g2.2)
              exact ⟨_, a1, a2⟩
          | some p =>
            obtain ⟨j, u⟩ := p
            cases r' with
            | none => exact g2.elim
            | some p' =>
              obtain ⟨j', u'⟩ := p'
              obtain ⟨hu', en, f6, f7, f8, f9, F, hp, hF1, hF2, hFj⟩ := g2
              simp only at hh; cases hh
              have hkeq : k = k' := hk.keyEq (by
                rcases hkd with ⟨q, n, _, e⟩ | ⟨s, _, e⟩
                · exact .inl ⟨q, n, e⟩
                · exact .inr ⟨s, e⟩)
              have hsb : Instr.sameBits 10000 k' k' = true := sameBits_key (k := k') (k' := k') (by
                rcases hkd with ⟨q, n, _, rfl⟩ | ⟨s, _, rfl⟩
                · simp [aKeyEq]
                · simp only [aKeyEq]; rw [(MapKept.bytes_beq _ _).2 rfl])
              have hkt : (Instr.keyThatStays (((E[j']?).map (·.key)).getD k') k').run P w = .ok k' w := by
                simp only [f6, Option.map_some, Option.getD_some, f7, Instr.keyThatStays]
                rw [if_pos hsb]; rfl
              have hset : (E.modify j' fun e => { e with key := k', val := v' }).toList = E.toList.set j' { en with key := k', val := v' } := by
                have := modify_map (E := E) (j := j') (en := en) (fun e => { e with key := k', val := v' }) (fun e => e.val) f6
                apply List.ext_getElem?
                intro i
                simp only [List.getElem?_set, Array.getElem?_toList, Array.getElem?_modify]
                have hlt : j' < E.size := (Array.getElem?_eq_some_iff.1 f6).1
                by_cases e : j' = i
                · subst e
                  have := (Array.getElem?_eq_some_iff.1 f6).2
                  simp [hlt, this]
                · simp [e]
              have hmr : MR μ (es.set j (k, v)) (E.modify j' fun e => { e with key := k', val := v' }) clock := by
                refine ⟨MapKept.stamped_modify h2.1 _ _ (fun _ _ => rfl) (fun e _ he => by rw [f6] at he; cases he; exact f7.symm), ?_, F.set j { en with key := k', val := v' }, ?_, ?_, ?_⟩
                · have e1 : (es.set j (k, v)).map (·.1) = es.map (·.1) := by
                    apply List.ext_getElem?
                    intro i
                    simp only [List.getElem?_map, List.getElem?_set]
                    by_cases e : j = i
                    · subst e; simp only [if_true]; split <;> simp_all
                    · simp [e]
                  rw [e1]; exact h2.2.1
                · rw [hset]; exact perm_set _ hp hFj (by simpa using f6)
                · rw [List.map_set, List.map_set]; exact hF1.set j hk
                · rw [List.map_set, List.map_set]; exact hF2.set j hv
              obtain ⟨a1, a2⟩ := hr.putMap (es' := es.set j (k, v)) (E' := E.modify j' fun e => { e with key := k', val := v' }) (clock' := clock) hl hg hlow hmr
              refine ⟨_, ?_, a2⟩
              simp only [Sem.run_bind, hkt, Result.andThen_ok]
              exact a1
    · simp at hh
  · simp at hh

end Go.AM
