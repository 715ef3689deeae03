/- AM: the operations that look at the heap answer as the model's own. First: worlds. -/
import Derived.Test.YtgdcbjpookldoaaDoorAMPure3
import Derived.Deep.AppendSrc
import Derived.Deep.Upon
import Derived.Lib.AppendZerosOnto
set_option linter.unusedSimpArgs false
set_option linter.unusedVariables false
namespace Go.AM
variable {P : Program} {B : Nat} {μ : Map} {h : AHeap} {w : World}

theorem HR.congr {w' : World} (hr : HR P B μ h w) (hh : w'.heap = w.heap) : HR P B μ h w' where
  dom id loc a := by rw [hh]; exact hr.dom id loc a
  obj id loc o a b := by rw [hh]; exact hr.obj id loc o a b
  own := hr.own
  low := hr.low
  base := by rw [hh]; exact hr.base

theorem Post.congr {μ' : Map} {h' : AHeap} {w1 w2 : World} (p : Post P B μ h w μ' h' w1) (hh : w2.heap = w1.heap) (he : SameEnv w1 w2) : Post P B μ h w μ' h' w2 :=
  ⟨p.le, p.fresh, p.hr.congr hh, (by rw [hh]; exact p.size), fun b hb hm => (by rw [hh]; exact p.frame b hb hm), p.still, p.env.trans he⟩

/-- A draw before. -/
theorem Post.congr0 {μ' : Map} {h' : AHeap} {w0 w1 : World} (p : Post P B μ h w0 μ' h' w1) (hh : w0.heap = w.heap) (he : SameEnv w w0) : Post P B μ h w μ' h' w1 :=
  ⟨p.le, fun id loc a b => (by rw [← hh]; exact p.fresh id loc a b), p.hr, (by rw [← hh]; exact p.size), fun b hb hm => (by rw [p.frame b (by rw [hh]; exact hb) hm, hh]), p.still, he.trans p.env⟩

/-- A new object. -/
theorem HR.alloc (hr : HR P B μ h w) {o : AObj} {O : Obj} {loc : Loc} (hbr : loc.blk = w.heap.size ∧ loc.ro = false) (ho : ∀ μ', μ.le μ' → μ' h.next = some loc → OR P μ' loc o O) :
    ∃ μ', μ' h.next = some loc ∧ Post P B μ h w μ' (h.alloc o) (w.alloc O) ∧ Keeps h (h.alloc o) ∧ (∀ id, id ≠ h.next → μ' id = μ id) := by
  obtain ⟨hb, hro⟩ := hbr
  have hn : μ h.next = none := by
    cases e : μ h.next with
    | none => rfl
    | some l => have := (hr.dom _ _ e).1; omega
  let μ' : Map := fun id => if id = h.next then some loc else μ id
  have hle : μ.le μ' := by
    intro id l hl
    by_cases e : id = h.next
    · subst e; rw [hn] at hl; cases hl
    · simp [μ', e, hl]
  have hm : μ' h.next = some loc := by simp [μ']
  have hsz : (w.alloc O).heap.size = w.heap.size + 1 := by simp
  refine ⟨μ', hm, ⟨hle, ?_, ⟨?_, ?_, ?_, ?_, ?_⟩, by simp, ?_, fun id hid _ => (by rw [AHeap.get_alloc, if_neg (by omega)]), ⟨rfl, rfl, rfl⟩⟩, ⟨by simp, rfl, ?_, ?_, ?_⟩, fun id hid => by simp [μ', hid]⟩
  · intro id l a b
    by_cases e : id = h.next
    · subst e; rw [hm] at a; cases a; exact ⟨Nat.le_refl _, .inl (by omega)⟩
    · simp only [μ', if_neg e] at a; rw [b] at a; cases a
  · intro id l a
    by_cases e : id = h.next
    · subst e; rw [hm] at a; cases a; exact ⟨by simp, by omega⟩
    · simp only [μ', if_neg e] at a; have := hr.dom id l a; simp; omega
  · intro id l ob a g
    rw [AHeap.get_alloc] at g
    by_cases e : id = h.next
    · subst e; rw [hm] at a; cases a
      rw [if_pos rfl] at g; cases g
      exact ⟨O, by rw [hb]; exact heap_alloc_new w O, ho μ' hle hm⟩
    · rw [if_neg e] at g
      simp only [μ', if_neg e] at a
      obtain ⟨O', h1, h2⟩ := hr.obj id l ob a g
      exact ⟨O', by rw [heap_alloc_old w O _ (hr.dom id l a).2]; exact h1, h2.mono hle⟩
  · intro id l a g hlow
    rw [AHeap.get_alloc] at g
    simp only [AHeap.low_alloc] at hlow
    by_cases e : id = h.next
    · subst e; rw [hm] at a; cases a
      refine ⟨hro, fun id' l' a' g' hne => ?_⟩
      simp only [μ', if_neg hne] at a'
      have := (hr.dom id' l' a').2
      omega
    · rw [if_neg e] at g
      simp only [μ', if_neg e] at a
      obtain ⟨h1, h2⟩ := hr.own id l a g hlow
      refine ⟨h1, fun id' l' a' g' hne => ?_⟩
      by_cases e' : id' = h.next
      · subst e'; rw [hm] at a'; cases a'; have := (hr.dom id l a).2; omega
      · simp only [μ', if_neg e'] at a'
        rw [AHeap.get_alloc, if_neg e'] at g'
        exact h2 id' l' a' g' hne
  · have := hr.low; simp; omega
  · have := hr.base; omega
  · intro b hb' _
    exact heap_alloc_old w O b hb'
  · intro id hid; rw [AHeap.get_alloc, if_neg (by have := hr.low; omega)]
  · intro id hid hg; rw [AHeap.get_alloc, if_neg (by omega)]; exact hg
  · intro id r hg
    refine ⟨r, ?_⟩
    rw [AHeap.get_alloc, if_neg ?_]; exact hg
    intro e; subst e; rw [h.get_ge _ (Nat.le_refl _)] at hg; cases hg

/-- An object is written. -/
theorem HR.put (hr : HR P B μ h w) {id : Nat} {loc : Loc} {o : AObj} {O : Obj} {w' : World} (hm : μ id = some loc) (hg : h.get id ≠ none) (hlow : h.low ≤ id)
    (hs : w'.heap.size = w.heap.size) (hoth : ∀ b, b ≠ loc.blk → w'.heap[b]? = w.heap[b]?) (hO : w'.heap[loc.blk]? = some O) (ho : OR P μ loc o O)
    (hloop : ∀ r, h.get id = some (.loop r) → ∃ r', o = .loop r') (henv : SameEnv w w') : Post P B μ h w μ (h.put id (some o)) w' ∧ Keeps h (h.put id (some o)) := by
  have hid := (hr.dom id loc hm).1
  have gp := h.get_put id (some o) hid
  refine ⟨⟨Map.le_refl _, fun i l a b => (by rw [a] at b; cases b), ⟨?_, ?_, ?_, hr.low, by rw [hs]; exact hr.base⟩, by omega, ?_, fun j hj hn => (by rw [gp, if_neg (fun e => by subst e; rw [hm] at hn; cases hn)]), henv⟩, ⟨Nat.le_refl _, rfl, ?_, ?_, ?_⟩⟩
  · intro i l a; have := hr.dom i l a; simp; omega
  · intro i l ob a g
    rw [gp] at g
    by_cases e : i = id
    · subst e; rw [if_pos rfl] at g; cases g; rw [hm] at a; cases a; exact ⟨O, hO, ho⟩
    · rw [if_neg e] at g
      obtain ⟨O', h1, h2⟩ := hr.obj i l ob a g
      refine ⟨O', ?_, h2⟩
      rw [hoth _ ((hr.own id loc hm hg hlow).2 i l a (by rw [g]; simp) e)]
      exact h1
  · intro i l a g hl
    have key : ∀ j, (h.put id (some o)).get j ≠ none → h.get j ≠ none := by
      intro j hj
      rw [gp] at hj
      by_cases e : j = id
      · subst e; exact hg
      · rw [if_neg e] at hj; exact hj
    obtain ⟨h1, h2⟩ := hr.own i l a (key i g) hl
    exact ⟨h1, fun i' l' a' g' hne => h2 i' l' a' (key i' g') hne⟩
  · intro b hb hmine
    refine hoth b (fun e => hmine ⟨id, loc, hm, hg, hlow, e.symm⟩)
  · intro i hi; rw [gp, if_neg (by omega)]
  · intro i hi hn; rw [gp]
    by_cases e : i = id
    · subst e; exact absurd hn hg
    · rw [if_neg e]; exact hn
  · intro i r hi
    rw [gp]
    by_cases e : i = id
    · subst e; obtain ⟨r', rfl⟩ := hloop r hi; exact ⟨r', by simp⟩
    · rw [if_neg e]; exact ⟨r, hi⟩

/-- What an object's cells are in the world. -/
theorem HR.row (hr : HR P B μ h w) {id : Nat} {loc : Loc} {c : List Value} {e : TypeId} {b : Bool} (hm : μ id = some loc) (hg : h.get id = some (.cells c e b)) :
    ∃ C e' fr, w.heap[loc.blk]? = some (.cells C e' fr) ∧ (loc.ro = true ∨ e' = e) ∧ c.length = loc.size ∧ loc.opn = b ∧ loc.esize = P.cellsOf e ∧ C.size = loc.csize ∧ loc.base + loc.size ≤ loc.csize ∧
      VRs μ c ((C.toList.drop loc.base).take loc.size) ∧ c.all (·.oneCell') = true ∧ (loc.ro = true ∨ Melted P e' C fr) := by
  obtain ⟨O, h1, h2⟩ := hr.obj id loc _ hm hg
  cases O with
  | cells C e' fr =>
    obtain ⟨a1, a2, a3, a4, a5, a6, a7⟩ := h2
    exact ⟨C, e', fr, h1, a1, a2, a3, a4, a5, a6.1, a7⟩
  | _ => exact h2.elim
/-- The run's own object that is not open fills its block. -/
theorem HR.flat (hr : HR P B μ h w) {id : Nat} {loc : Loc} {c : List Value} {e : TypeId} {b : Bool} (hm : μ id = some loc) (hg : h.get id = some (.cells c e b)) : loc.ro = true ∨ b = true ∨ loc.base = 0 ∧ loc.size = loc.csize := by
  obtain ⟨O, h1, h2⟩ := hr.obj id loc _ hm hg
  cases O with
  | cells C e' fr =>
    obtain ⟨a1, a2, a3, a4, a5, a6, a7⟩ := h2
    exact a6.2
  | _ => exact h2.elim
/-- The same of one that may be written. -/
theorem HR.rowOwn (hr : HR P B μ h w) {id : Nat} {loc : Loc} {c : List Value} {e : TypeId} {b : Bool} (hm : μ id = some loc) (hg : h.get id = some (.cells c e b)) (hlow : h.low ≤ id) :
    ∃ C fr, w.heap[loc.blk]? = some (.cells C e fr) ∧ c.length = loc.size ∧ loc.opn = b ∧ loc.esize = P.cellsOf e ∧ C.size = loc.csize ∧ loc.base + loc.size ≤ loc.csize ∧
      VRs μ c ((C.toList.drop loc.base).take loc.size) ∧ c.all (·.oneCell') = true ∧ (loc.ro = true ∨ Melted P e C fr) := by
  obtain ⟨C, e', fr, h1, h2, h3⟩ := hr.row hm hg
  obtain rfl := h2.resolve_left (by rw [(hr.own id loc hm (by rw [hg]; simp) hlow).1]; simp)
  exact ⟨C, fr, h1, h3⟩

theorem cell_in {C : Array Value} {e : TypeId} {fr : Nat × Nat} {b j : Nat} {v : Value} (hb : w.heap[b]? = some (.cells C e fr)) (hv : C.toList[j]? = some v) : w.cell? ⟨b, j, none⟩ = some v := by
  rw [cell_of_row w b j C e fr hb]; simpa using hv

/-- A stretch of cells. -/
theorem HR.stretch (hr : HR P B μ h w) {id : Nat} {loc : Loc} {c : List Value} {e : TypeId} {b : Bool} (hm : μ id = some loc) (hg : h.get id = some (.cells c e b)) (off n : Nat) (hn : off + n ≤ c.length) :
    ∃ xs, VRs μ ((c.drop off).take n) xs ∧ xs.length = n ∧ ∀ w2 : World, w2.heap = w.heap → ∀ j v, xs[j]? = some v → w2.cell? ((⟨loc.blk, loc.base + off, none⟩ : Addr).add j) = some v := by
  obtain ⟨C, e', fr, hb, _, hl, _, _, hcs, hbs, hv, _, _⟩ := hr.row hm hg
  have hv' := (hv.drop off).take n
  refine ⟨_, hv', ?_, fun w2 hw2 j v hj => ?_⟩
  · have := hv'.1; rw [← this]; simp; omega
  · rw [Addr_add]
    refine cell_in (by rw [hw2]; exact hb) ?_
    rw [List.getElem?_take] at hj
    split at hj
    · rw [List.getElem?_drop, List.getElem?_take] at hj
      split at hj
      · rw [List.getElem?_drop] at hj; rw [← hj]; congr 1; omega
      · cases hj
    · cases hj

theorem aLoad_sound (hr : HR P B μ h w) {t : TypeId} {x x' v : Value} (hh : aLoad P h t x = some v) (hx : VR μ x x') : ∃ v', (Instr.loadAt t x').run P w = .ok v' w ∧ VR μ v v' := by
  unfold aLoad at hh
  split at hh
  · rename_i id off
    cases hx with
    | ptr _ _ loc hl =>
    split at hh
    · rename_i c e b hg
      cases hu : P.underlying t with
      | none => rw [hu] at hh; simp at hh
      | some d =>
      cases hi : P.info? t with
      | none => rw [hu, hi] at hh; simp at hh
      | some i =>
        rw [hu, hi] at hh
        simp only [Option.bind_some] at hh
        split at hh
        · rename_i ha
          split at hh
          · rename_i hlen
            cases hh
            obtain ⟨xs, h1, h2, h3⟩ := hr.stretch hl hg off i.size hlen
            refine ⟨.agg xs.toArray, ?_, VR.agg' (by simpa using h1)⟩
            have := run_loadCells_list (P := P) w ⟨loc.blk, loc.base + off, none⟩ xs (h3 w rfl)
            rw [h2] at this
            simp only [Instr.loadAt, Instr.sureAddr, Sem.run_bind, Sem.run_pure, Result.andThen_ok, loadVar, run_agg hu, ha, if_true, run_size hi, this]
          · simp at hh
        · rename_i ha
          obtain ⟨C, e', fr, hb, _, hcl, _, _, hcs, hbs, hv, _, _⟩ := hr.row hl hg
          obtain ⟨v', h1, h2⟩ := hv.get hh
          refine ⟨v', ?_, h2⟩
          have hc : w.cell? ⟨loc.blk, loc.base + off, none⟩ = some v' := by
            refine cell_in hb ?_
            rw [List.getElem?_take] at h1
            split at h1
            · rw [List.getElem?_drop] at h1; exact h1
            · cases h1
          simp only [Instr.loadAt, Instr.sureAddr, Sem.run_bind, Sem.run_pure, Result.andThen_ok, loadVar, run_agg hu, ha, Bool.false_eq_true, if_false, run_load, hc]
    · simp at hh
  · simp at hh

end Go.AM
