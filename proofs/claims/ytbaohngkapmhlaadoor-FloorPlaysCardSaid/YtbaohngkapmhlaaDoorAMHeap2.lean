/- AM: stores, maps, lengths. -/
import Derived.Test.YtbaohngkapmhlaaDoorAMHeap
set_option linter.unusedSimpArgs false
set_option linter.unusedVariables false
namespace Go.AM
variable {P : Program} {B : Nat} {μ : Map} {h : AHeap} {w : World}

theorem setRow_length : ∀ (vs : List Value) (c : List Value) (o : Nat), (setRow c o vs).length = c.length
  | [], _, _ => rfl
  | v :: vs, c, o => by simp only [setRow]; rw [setRow_length vs]; simp
theorem setRow_drop : ∀ (vs : List Value) (c : List Value) (b o : Nat), (setRow c (b + o) vs).drop b = setRow (c.drop b) o vs
  | [], _, _, _ => rfl
  | v :: vs, c, b, o => by
    simp only [setRow]
    rw [Nat.add_assoc, setRow_drop vs, List.drop_set, if_neg (by omega)]
    congr 2; omega
theorem setRow_take : ∀ (vs : List Value) (c : List Value) (n o : Nat), (setRow c o vs).take n = setRow (c.take n) o vs
  | [], _, _, _ => rfl
  | v :: vs, c, n, o => by simp only [setRow]; rw [setRow_take vs, List.take_set]
theorem VRs.setRow {l l' : List Value} (hl : VRs μ l l') : ∀ {vs vs' : List Value} (o : Nat), VRs μ vs vs' → VRs μ (setRow l o vs) (AM.setRow l' o vs') := by
  intro vs
  induction vs generalizing l l' with
  | nil => intro vs' o hv; rw [hv.nil_inv]; exact hl
  | cons v vs ih =>
    intro vs' o hv
    obtain ⟨v', m, rfl, hx, hm⟩ := hv.cons_inv
    exact ih (hl.set o hx) (o + 1) hm
theorem setRow_all {p : Value → Bool} : ∀ (vs : List Value) (c : List Value) (o : Nat), c.all p = true → vs.all p = true → (setRow c o vs).all p = true
  | [], _, _, hc, _ => hc
  | v :: vs, c, o, hc, hv => by
    simp only [List.all_cons, Bool.and_eq_true] at hv
    refine setRow_all vs _ _ ?_ hv.2
    simp only [List.all_eq_true] at hc ⊢
    intro x hx
    rcases List.mem_or_eq_of_mem_set hx with h1 | h1
    · exact hc x h1
    · rw [h1]; exact hv.1

theorem setCell_heap {b o : Nat} {v : Value} {C : Array Value} {e : TypeId} {fr : Nat × Nat} (hb : w.heap[b]? = some (.cells C e fr)) :
    (w.setCell ⟨b, o, none⟩ v).heap[b]? = some (.cells (C.setIfInBounds o v) e fr) := by
  simp only [World.setCell]
  rw [Array.getElem?_modify, if_pos rfl, hb]; rfl
theorem setCell_heap_other {b o k : Nat} {v : Value} (hk : k ≠ b) : (w.setCell ⟨b, o, none⟩ v).heap[k]? = w.heap[k]? := by
  simp only [World.setCell]
  rw [Array.getElem?_modify, if_neg (fun e => hk e.symm)]

theorem setCells_heap {b : Nat} {e : TypeId} {fr : Nat × Nat} : ∀ (vs : List Value) (o : Nat) (w : World) (C : Array Value), w.heap[b]? = some (.cells C e fr) →
    ∃ C', (w.setCells b o vs).heap[b]? = some (.cells C' e fr) ∧ C'.toList = setRow C.toList o vs ∧ C'.size = C.size ∧ (w.setCells b o vs).heap.size = w.heap.size ∧ ∀ k, k ≠ b → (w.setCells b o vs).heap[k]? = w.heap[k]?
  | [], o, w, C, hb => ⟨C, hb, rfl, rfl, rfl, fun _ _ => rfl⟩
  | v :: vs, o, w, C, hb => by
    obtain ⟨C', h1, h2, h3, h4, h5⟩ := setCells_heap vs (o + 1) (w.setCell ⟨b, o, none⟩ v) (C.setIfInBounds o v) (setCell_heap hb)
    exact ⟨C', h1, by rw [h2]; simp [setRow], by rw [h3]; simp, by rw [World.setCells, h4]; simp, fun k hk => by rw [World.setCells, h5 k hk, setCell_heap_other hk]⟩

theorem setCells_env : ∀ (vs : List Value) (r off : Nat) (w : World), SameEnv w (w.setCells r off vs) := by
  intro vs
  induction vs with
  | nil => intro r off w; exact SameEnv.refl w
  | cons v vs ih => intro r off w; exact (show SameEnv w (w.setCell ⟨r, off, none⟩ v) from ⟨rfl, rfl, rfl⟩).trans (ih r (off + 1) _)

/-- Cells of an object are written. -/
theorem HR.write (hr : HR P B μ h w) {id off : Nat} {loc : Loc} {c : List Value} {e : TypeId} {b : Bool} (hm : μ id = some loc) (hg : h.get id = some (.cells c e b)) (hlow : h.low ≤ id)
    {vs vs' : List Value} (hv : VRs μ vs vs') (hfit : off + vs.length ≤ c.length) (hone : vs.all (·.oneCell') = true) :
    (storeCells ⟨loc.blk, loc.base + off, none⟩ vs' 0).run P w = .ok () (w.setCells loc.blk (loc.base + off) vs') ∧
    Post P B μ h w μ (h.put id (some (.cells (setRow c off vs) e b))) (w.setCells loc.blk (loc.base + off) vs') ∧ Keeps h (h.put id (some (.cells (setRow c off vs) e b))) := by
  obtain ⟨C, fr, hb, hcl, ho, hes, hcs, hbs, hvv, hall, hfr0⟩ := hr.rowOwn hm hg hlow
  have hfr := hfr0.resolve_left (by rw [(hr.own id loc hm (by rw [hg]; simp) hlow).1]; simp)
  have hvl := hv.1
  refine ⟨?_, ?_⟩
  · have := run_storeCells_cells (P := P) loc.blk (loc.base + off) vs' 0 w (fun j hj => ?_) (fun j hj => ?_) (fun v hv' => ?_)
    · simpa using this
    · rw [cell_of_row w _ _ C e fr hb]
      rw [Array.getElem?_eq_getElem (by omega)]; rfl
    · simp only [World.frozen?, hb]
      have := hfr.1 (loc.base + off + 0 + j) (by omega)
      simpa using this
    · rw [hv.oneCell] at hone
      exact List.all_eq_true.1 hone v hv'
  · obtain ⟨C', h1, h2, h3, h4, h5⟩ := setCells_heap vs' (loc.base + off) w C hb
    refine hr.put hm (by rw [hg]; simp) hlow h4 (fun k hk => h5 k hk) h1 ⟨.inr rfl, by rw [setRow_length]; exact hcl, ho, hes, by rw [h3]; exact hcs, ⟨hbs, hr.flat hm hg⟩, ?_, setRow_all _ _ _ hall hone, by exact .inr ⟨fun i hi => hfr.1 i (by omega), hfr.2⟩⟩ (fun r hr' => by rw [hg] at hr'; cases hr') (setCells_env vs' _ _ w)
    rw [h2, setRow_drop, setRow_take]
    exact hvv.setRow off hv

theorem aStore_sound (hr : HR P B μ h w) {t : TypeId} {x x' v v' : Value} {h' : AHeap} (hh : aStore P h t x v = some h') (hx : VR μ x x') (hv : VR μ v v') :
    ∃ w', (Instr.storeAt t x' v').run P w = .ok () w' ∧ Post P B μ h w μ h' w' ∧ Keeps h h' := by
  unfold aStore at hh
  split at hh
  · rename_i id off
    cases hx with
    | ptr _ _ loc hl =>
    split at hh
    · rename_i c e b hg
      cases hi : P.info? t with
      | none => rw [hi] at hh; simp at hh
      | some i =>
        rw [hi] at hh
        simp only [Option.bind_some] at hh
        split at hh
        · rename_i hc
          obtain ⟨c1, c2, c3, c4⟩ := hc
          cases hh
          obtain ⟨g1, g2⟩ := hr.write hl hg c1 hv.cells (by simp; omega) c4 (off := off)
          refine ⟨_, ?_, g2⟩
          simp only [Instr.storeAt, Instr.sureAddr, Sem.run_bind, Sem.run_pure, Result.andThen_ok, storeVar, run_size hi, ← hv.cells_size, c2]
          simpa using g1
        · simp at hh
    · simp at hh
  · simp at hh

/-! ### Maps -/

theorem getObj_map {r : Nat} {E : Array MapEntry} {clock : Nat} (hb : w.heap[r]? = some (.map E clock)) : (getObj r).run P w = .ok (.map E clock) w := by simp [getObj, Sem.run, hb]
theorem setObj_map {r : Nat} {E : Array MapEntry} {clock : Nat} (o : Obj) (hb : w.heap[r]? = some (.map E clock)) : (setObj r o).run P w = .ok () { w with heap := w.heap.setIfInBounds r o } := by simp [setObj, Sem.run, hb]

theorem aKeyEq_VR {a b a' b' : Value} {r : Bool} (hh : aKeyEq a b = some r) (ha : VR μ a a') (hb : VR μ b b') : aKeyEq a' b' = some r := by
  unfold aKeyEq at hh
  split at hh
  · cases ha; cases hb; exact hh
  · cases ha; cases hb; exact hh
  · simp at hh

/-- The keys' kind is plain, and they are of it. -/
theorem sameNow_of {d : TypeDesc} {k k' : Value} {r : Bool} (hd : (∃ q, d = .int q) ∨ d = .string) (hk : (∃ q n, d = .int q ∧ k = .int q n) ∨ (∃ s, d = .string ∧ k = .string s)) (hh : aKeyEq k k' = some r) :
    Instr.sameNow d k k' = some r := by
  unfold aKeyEq at hh
  split at hh
  · rename_i q a q' b
    rcases hk with ⟨q2, n, rfl, e⟩ | ⟨s, _, e⟩
    · cases e; simp only [Instr.sameNow]; exact hh
    · cases e
  · rename_i a b
    rcases hk with ⟨q2, n, _, e⟩ | ⟨s, rfl, e⟩
    · cases e
    · simp only [Instr.sameNow]; exact hh
  · simp at hh

theorem find_sound {d : TypeDesc} {k k' : Value} (hk : VR μ k k') (hkk : (∃ q n, d = .int q ∧ k' = .int q n) ∨ (∃ s, d = .string ∧ k' = .string s)) :
    ∀ {es : List (Value × Value)} {E : List MapEntry} (i : Nat) {r : Option (Nat × Value)}, aFind k es i = some r → VRs μ (es.map (·.1)) (E.map (·.key)) → VRs μ (es.map (·.2)) (E.map (·.val)) →
    ∃ r', Instr.findNow d k' E i = some r' ∧ (match r, r' with | none, none => True | some (j, v), some (j', v') => j = j' ∧ i ≤ j ∧ j < i + es.length ∧ VR μ v v' | _, _ => False) := by
  intro es
  induction es with
  | nil =>
    intro E i r hh h1 _
    have : E = [] := by
      have := h1.1; simp at this; exact List.eq_nil_of_length_eq_zero this.symm
    subst this
    simp [aFind] at hh; subst hh
    exact ⟨none, rfl, trivial⟩
  | cons e es ih =>
    intro E i r hh h1 h2
    obtain ⟨ek, ev⟩ := e
    cases E with
    | nil => have := h1.1; simp at this
    | cons E0 E =>
      have hkk1 := VRs.head h1
      have hvv1 := VRs.head h2
      simp only [aFind] at hh
      simp only [Instr.findNow]
      cases hq : aKeyEq k ek with
      | none => rw [hq] at hh; simp at hh
      | some b =>
        have hs : Instr.sameNow d k' E0.key = some b := by
          refine sameNow_of ?_ hkk (aKeyEq_VR hq hk hkk1)
          rcases hkk with ⟨q, n, e, _⟩ | ⟨s, e, _⟩
          · exact .inl ⟨q, e⟩
          · exact .inr e
        rw [hs]
        rw [hq] at hh
        cases b with
        | true =>
          simp only at hh; cases hh
          exact ⟨some (i, E0.val), rfl, rfl, Nat.le_refl _, by simp, hvv1⟩
        | false =>
          simp only at hh
          obtain ⟨r', g1, g2⟩ := ih (i + 1) hh (VRs.tail h1) (VRs.tail h2)
          refine ⟨r', g1, ?_⟩
          cases r with
          | none => cases r' with | none => trivial | some _ => exact g2.elim
          | some p => cases r' with
            | none => exact g2.elim
            | some p' => obtain ⟨a, b, c, d⟩ := g2; exact ⟨a, by omega, by simp; omega, d⟩

theorem keyOk_sound {kt : TypeId} {k k' : Value} (hh : aKeyOk P kt k = true) (hk : VR μ k k') :
    ∃ d, P.underlying kt = some d ∧ ((∃ q n, d = .int q ∧ k' = .int q n) ∨ (∃ s, d = .string ∧ k' = .string s)) ∧ ∀ b, (Instr.checkKey b 10000 kt k').run P w = .ok () w := by
  unfold aKeyOk at hh
  split at hh
  · rename_i q q' n hu
    cases hk
    have : q = q' := by simpa using hh
    subst this
    exact ⟨_, hu, .inl ⟨q, n, rfl, rfl⟩, fun b => by rw [show (10000 : Nat) = 9999 + 1 from rfl]; generalize 9999 = m; simp [Instr.checkKey, run_underlying hu]⟩
  · rename_i s hu
    cases hk
    exact ⟨_, hu, .inr ⟨s, rfl, rfl⟩, fun b => by rw [show (10000 : Nat) = 9999 + 1 from rfl]; generalize 9999 = m; simp [Instr.checkKey, run_underlying hu]⟩
  · simp at hh

theorem findKey_run {kt : TypeId} {d : TypeDesc} {k : Value} {E : List MapEntry} {r : Option (Nat × Value)} (hu : P.underlying kt = some d) (hf : Instr.findNow d k E 0 = some r) : (Instr.findKey kt k E).run P w = .ok r w := by
  simp [Instr.findKey, run_underlying hu, hf]

/-- A map's object. -/
theorem HR.mapAt (hr : HR P B μ h w) {id : Nat} {loc : Loc} {es : List (Value × Value)} (hm : μ id = some loc) (hg : h.get id = some (.map es)) :
    ∃ E clock, w.heap[loc.blk]? = some (.map E clock) ∧ VRs μ (es.map (·.1)) (E.toList.map (·.key)) ∧ VRs μ (es.map (·.2)) (E.toList.map (·.val)) := by
  obtain ⟨O, h1, h2⟩ := hr.obj id loc _ hm hg
  cases O with
  | map E clock => exact ⟨E, clock, h1, h2⟩
  | _ => exact h2.elim

theorem aLookup_sound (hr : HR P B μ h w) {t : TypeId} {m k m' k' v : Value} {ok : Bool} (hh : aLookup P h t m k ok = some v) (hm : VR μ m m') (hk : VR μ k k') :
    ∃ v', (Instr.lookup t m' k' ok).run P w = .ok v' w ∧ VR μ v v' := by
  unfold aLookup at hh
  split at hh
  · rename_i kt et hu
    split at hh
    · simp at hh
    · rename_i hko
      simp only [Bool.not_eq_true, Bool.not_eq_false'] at hko
      obtain ⟨d, hd, hkd, hck⟩ := keyOk_sound (w := w) (by simpa using hko) hk
      -- the entries
      have ent : ∃ (es : List (Value × Value)) (E : Array MapEntry), aEntries h m = some es ∧
          (∀ r', Instr.findNow d k' E.toList 0 = some r' → (Instr.lookup t m' k' ok).run P w = match r' with
            | some (_, u) => .ok (if ok then .tuple #[u, .bool true] else u) w
            | none => ((zeroValue et).run P w).andThen fun z w => .ok (if ok then .tuple #[z, .bool false] else z) w) ∧
          VRs μ (es.map (·.1)) (E.toList.map (·.key)) ∧ VRs μ (es.map (·.2)) (E.toList.map (·.val)) := by
        cases hm with
        | mnil =>
          refine ⟨[], #[], rfl, fun r' hr' => ?_, VRs.nil μ, VRs.nil μ⟩
          have gk := findKey_run (w := w) hd hr'
          simp only [Instr.lookup, Sem.run_bind, run_underlying hu, Result.andThen_ok, Sem.run_pure, hck, gk]
          cases r' <;> simp
        | map id loc hl =>
          cases hg : h.get id with
          | none => simp [aEntries, hg] at hh
          | some o =>
            cases o with
            | map es =>
              obtain ⟨E, clock, h1, h2, h3⟩ := hr.mapAt hl hg
              refine ⟨es, E, by simp [aEntries, hg], fun r' hr' => ?_, h2, h3⟩
              have gk := findKey_run (w := w) hd hr'
              simp only [Instr.lookup, Sem.run_bind, run_underlying hu, Result.andThen_ok, Sem.run_pure, getObj_map h1, hck, gk]
              cases r' <;> simp
            | _ => simp [aEntries, hg] at hh
        | _ => simp [aEntries] at hh
      obtain ⟨es, E, e1, e2, e3, e4⟩ := ent
      rw [e1] at hh
      simp only [Option.bind_some] at hh
      cases hf : aFind k es 0 with
      | none => rw [hf] at hh; simp at hh
      | some r =>
        rw [hf] at hh
        simp only [Option.bind_some] at hh
        obtain ⟨r', g1, g2⟩ := find_sound hk hkd 0 hf e3 e4
        rw [e2 r' g1]
        cases r with
        | none =>
          cases r' with
          | some _ => exact g2.elim
          | none =>
            simp only at hh
            cases hz : aZero P et with
            | none => rw [hz] at hh; simp at hh
            | some z =>
              rw [hz] at hh
              simp only [Option.bind_some] at hh
              split at hh
              · rename_i hc
                cases hh
                simp only [Sem.run_bind, run_zero hz, Result.andThen_ok, Sem.run_pure]
                refine ⟨_, rfl, ?_⟩
                cases ok
                · exact VR.closed hc
                · exact VR.tuple' (VRs.cons (VR.closed hc) (VRs.cons (.bool _) (VRs.nil μ)))
              · simp at hh
        | some p =>
          obtain ⟨j, u⟩ := p
          cases r' with
          | none => exact g2.elim
          | some p' =>
            obtain ⟨j', u'⟩ := p'
            obtain ⟨_, _, _, hu'⟩ := g2
            simp only at hh
            cases hh
            simp only [Sem.run_pure, Result.andThen_ok]
            refine ⟨_, rfl, ?_⟩
            cases ok
            · exact hu'
            · exact VR.tuple' (VRs.cons hu' (VRs.cons (.bool _) (VRs.nil μ)))
  · simp at hh

/-- A map's object is written. -/
theorem HR.putMap (hr : HR P B μ h w) {id : Nat} {loc : Loc} {es es' : List (Value × Value)} {E' : Array MapEntry} {clock' : Nat} (hm : μ id = some loc) (hg : h.get id = some (.map es)) (hlow : h.low ≤ id)
    (h1 : VRs μ (es'.map (·.1)) (E'.toList.map (·.key))) (h2 : VRs μ (es'.map (·.2)) (E'.toList.map (·.val))) :
    (setObj loc.blk (.map E' clock')).run P w = .ok () { w with heap := w.heap.setIfInBounds loc.blk (.map E' clock') } ∧
    Post P B μ h w μ (h.put id (some (.map es'))) { w with heap := w.heap.setIfInBounds loc.blk (.map E' clock') } ∧ Keeps h (h.put id (some (.map es'))) := by
  obtain ⟨E, clock, hb, _, _⟩ := hr.mapAt hm hg
  refine ⟨setObj_map _ hb, hr.put (O := .map E' clock') hm (by rw [hg]; simp) hlow (by simp) (fun b hb' => ?_) ?_ ⟨h1, h2⟩ (fun r hr' => by rw [hg] at hr'; cases hr') ⟨rfl, rfl, rfl⟩⟩
  · simp only [Array.getElem?_setIfInBounds]
    rw [if_neg (fun e => hb' e.symm)]
  · have hlt : loc.blk < w.heap.size := (hr.dom id loc hm).2
    simp [Array.getElem?_setIfInBounds, hlt]

theorem sameBits_key {k k' : Value} (hh : aKeyEq k k' = some true) : Instr.sameBits 10000 k' k = true := by
  unfold aKeyEq at hh
  split at hh
  · rename_i q a q' b
    split at hh
    · rename_i e; subst e
      simp at hh; subst hh
      simp [Instr.sameBits]
    · simp at hh
  · rename_i a b
    simp only [Option.some.injEq] at hh
    simp only [Instr.sameBits]
    rw [beq_toListBytes] at hh ⊢
    have := (beq_iff_eq.1 hh).symm
    exact beq_iff_eq.2 this
  · simp at hh

theorem modify_map {E : Array MapEntry} {j : Nat} {en : MapEntry} (f : MapEntry → MapEntry) (g : MapEntry → Value) (hE : E[j]? = some en) : (E.modify j f).toList.map g = (E.toList.map g).set j (g (f en)) := by
  apply List.ext_getElem?
  intro i
  simp only [List.getElem?_map, List.getElem?_set, Array.getElem?_toList, Array.getElem?_modify]
  have hlt : j < E.size := (Array.getElem?_eq_some_iff.1 hE).1
  by_cases e : j = i
  · subst e
    have := (Array.getElem?_eq_some_iff.1 hE).2
    simp [hlt, this]
  · simp [e]

theorem aFind_key {k : Value} : ∀ {es : List (Value × Value)} {i j : Nat} {v : Value}, aFind k es i = some (some (j, v)) → ∃ k', es[j - i]? = some (k', v) ∧ aKeyEq k k' = some true ∧ i ≤ j := by
  intro es
  induction es with
  | nil => intro i j v hh; simp [aFind] at hh
  | cons e es ih =>
    intro i j v hh
    obtain ⟨ek, ev⟩ := e
    simp only [aFind] at hh
    split at hh
    · rename_i hq; simp at hh; obtain ⟨rfl, rfl⟩ := hh; exact ⟨ek, by simp, hq, Nat.le_refl _⟩
    · obtain ⟨k', g1, g2, g3⟩ := ih hh
      refine ⟨k', ?_, g2, by omega⟩
      rw [show j - i = (j - (i + 1)) + 1 by omega]; simpa using g1
    · simp at hh

theorem aMapUpdate_sound (hr : HR P B μ h w) {t : TypeId} {m k v m' k' v' : Value} {h' : AHeap} (hh : aMapUpdate P h t m k v = some h') (hm : VR μ m m') (hk : VR μ k k') (hv : VR μ v v') :
    ∃ w', (Instr.mapUpdate t m' k' v').run P w = .ok () w' ∧ Post P B μ h w μ h' w' ∧ Keeps h h' := by
  unfold aMapUpdate at hh
  split at hh
  · rename_i kt et id hu
    cases hm with
    | map _ loc hl =>
    split at hh
    · rename_i es hg
      split at hh
      · simp at hh
      · rename_i hko
        simp only [Bool.or_eq_true, decide_eq_true_eq, not_or, Bool.not_eq_true, Bool.not_eq_false', Nat.not_lt] at hko
        obtain ⟨hko, hlow⟩ := hko
        obtain ⟨d, hd, hkd, hck⟩ := keyOk_sound (w := w) (by simpa using hko) hk
        obtain ⟨E, clock, h1, h2, h3⟩ := hr.mapAt hl hg
        cases hf : aFind k es 0 with
        | none => rw [hf] at hh; simp at hh
        | some r =>
          rw [hf] at hh
          simp only [Option.bind_some] at hh
          obtain ⟨r', g1, g2⟩ := find_sound hk hkd 0 hf h2 h3
          have gk := findKey_run (w := w) hd g1
          simp only [Instr.mapUpdate, Sem.run_bind, run_underlying hu, Result.andThen_ok, getObj_map h1, hck, gk]
          cases r with
          | none =>
            cases r' with
            | some _ => exact g2.elim
            | none =>
              simp only at hh; cases hh
              obtain ⟨a1, a2⟩ := hr.putMap (es' := es ++ [(k, v)]) (E' := E.push { key := k', val := v', born := clock }) (clock' := clock + 1) hl hg hlow
                (by simpa using h2.append (VRs.cons hk (VRs.nil μ))) (by simpa using h3.append (VRs.cons hv (VRs.nil μ)))
              exact ⟨_, a1, a2⟩
          | some p =>
            obtain ⟨j, u⟩ := p
            cases r' with
            | none => exact g2.elim
            | some p' =>
              obtain ⟨j', u'⟩ := p'
              obtain ⟨rfl, _, hjlt, hu'⟩ := g2
              simp only at hh; cases hh
              obtain ⟨ek, f1, f2, _⟩ := aFind_key hf
              simp only [Nat.sub_zero] at f1
              have hkey : (es.map (·.1))[j]? = some ek := by simp [f1]
              obtain ⟨ek', f3, f4⟩ := h2.get hkey
              have f5 : ∃ en, E[j]? = some en ∧ en.key = ek' := by
                simp only [List.getElem?_map, Option.map_eq_some_iff] at f3
                obtain ⟨en, x1, x2⟩ := f3
                exact ⟨en, by simpa using x1, x2⟩
              obtain ⟨en, f6, f7⟩ := f5
              have hsb := sameBits_key (aKeyEq_VR f2 hk f4)
              have hkt : (Instr.keyThatStays (((E[j]?).map (·.key)).getD k') k').run P w = .ok k' w := by
                simp only [f6, Option.map_some, Option.getD_some, f7, Instr.keyThatStays]
                rw [if_pos hsb]; rfl
              have hjE : j < E.toList.length := by
                have := h2.1; simp at this hjlt; simp; omega
              obtain ⟨a1, a2⟩ := hr.putMap (es' := es.set j (k, v)) (E' := E.modify j fun e => { e with key := k', val := v' }) (clock' := clock) hl hg hlow
                (by
                  have e1 : (E.modify j fun e => { e with key := k', val := v' }).toList.map (·.key) = (E.toList.map (·.key)).set j k' := modify_map _ _ f6
                  rw [e1, List.map_set]
                  exact h2.set j hk)
                (by
                  have e1 : (E.modify j fun e => { e with key := k', val := v' }).toList.map (·.val) = (E.toList.map (·.val)).set j v' := modify_map _ _ f6
                  rw [e1, List.map_set]
                  exact h3.set j hv)
              refine ⟨_, ?_, a2⟩
              simp only [Sem.run_bind, hkt, Result.andThen_ok]
              exact a1
    · simp at hh
  · simp at hh

end Go.AM
