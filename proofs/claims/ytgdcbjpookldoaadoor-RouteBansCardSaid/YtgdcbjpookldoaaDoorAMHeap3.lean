/- AM: slices: lengths, append, copy; and all that looks at the heap, together. -/
import Derived.Test.YtgdcbjpookldoaaDoorAMHeap2
set_option linter.unusedSimpArgs false
set_option linter.unusedVariables false
namespace Go.AM
variable {P : Program} {B : Nat} {μ : Map} {h : AHeap} {w : World}

theorem aSliceH_sound (hr : HR P B μ h w) {t : TypeId} {x x' v : Value} {lo hi mx lo' hi' mx' : Option Value} (hh : aSliceH P h t x lo hi mx = some v) (hx : VR μ x x') (h1 : VRo μ lo lo') (h2 : VRo μ hi hi') (h3 : VRo μ mx mx') :
    ∃ v', (Instr.sliceAt t x' lo' hi' mx').run P w = .ok v' w ∧ VR μ v v' := by
  unfold aSliceH at hh
  split at hh
  · rename_i id off len cap
    split at hh
    · rename_i e c e' b hu hg
      split at hh
      · rename_i he
        subst he
        refine aSlice_sound hh hx h1 h2 h3 ?_
        intro e i id' loc off' len' cap' hu' hi' hx' hl
        cases hx'
        rw [hu] at hu'; cases hu'
        obtain ⟨_, _, _, _, _, _, _, hes, _⟩ := hr.row hl hg
        rw [hes, cellsOf_info hi']
      · simp at hh
    · simp at hh
  · rename_i hne
    refine aSlice_sound hh hx h1 h2 h3 ?_
    intro e i id' loc off' len' cap' hu' hi' hx' hl
    exact absurd hx' (hne _ _ _ _)

theorem aLen_sound (hr : HR P B μ h w) {t : TypeId} {x x' v : Value} (hh : aLen P h t x = some v) (hx : VR μ x x') (ats : Array TypeId) (ha : ats[0]? = some t) (ty : TypeId) (rest : Array Value) (hx0 : rest[0]? = some x') :
    (Builtin.len_ ats ty rest).run P w = .ok v w ∧ VR μ v v := by
  unfold aLen at hh
  split at hh
  · rename_i s hu
    cases hx; cases hh
    exact ⟨by simp [Builtin.len_, ha, hx0, run_underlying hu, goInt], .int _ _⟩
  · rename_i n e hu
    cases hh
    exact ⟨by simp [Builtin.len_, ha, hx0, run_underlying hu, goInt], .int _ _⟩
  · rename_i e a n c hu
    cases hh
    refine ⟨?_, .int _ _⟩
    cases hx <;> simp [Builtin.len_, ha, hx0, run_underlying hu, goInt]
  · rename_i k e hu
    cases hx; cases hh
    exact ⟨by simp [Builtin.len_, ha, hx0, run_underlying hu, goInt], .int _ _⟩
  · rename_i k e id hu
    cases hx with
    | map _ loc hl =>
    split at hh
    · rename_i es hg
      cases hh
      obtain ⟨E, clock, h1, h2⟩ := hr.mapAt hl hg
      have hlen : E.size = es.length := h2.size
      refine ⟨?_, .int _ _⟩
      simp only [Builtin.len_, ha, hx0, Sem.run_bind, run_underlying hu, Result.andThen_ok, getObj_map h1, Sem.run_pure, goInt, hlen]
    · simp at hh
  · simp at hh

theorem aCap_sound (hr : HR P B μ h w) {t : TypeId} {x x' v : Value} (hh : aCap P h t x = some v) (hx : VR μ x x') (ats : Array TypeId) (ha : ats[0]? = some t) (ty : TypeId) (rest : Array Value) (hx0 : rest[0]? = some x') :
    (Builtin.cap_ ats ty rest).run P w = .ok v w ∧ VR μ v v := by
  unfold aCap at hh
  split at hh
  · rename_i e n c hu
    cases hx; cases hh
    exact ⟨by simp [Builtin.cap_, ha, hx0, run_underlying hu, goInt], .int _ _⟩
  · rename_i e id off len cap hu
    split at hh
    · rename_i c e' b hg
      cases hi : P.info? e' with
      | none => rw [hi] at hh; simp at hh
      | some i =>
        rw [hi] at hh
        simp only [Option.bind_some] at hh
        split at hh
        · simp at hh
        · rename_i hne
          cases hh
          refine ⟨?_, .int _ _⟩
          cases hx with
          | slice _ _ _ _ cap' loc hl _ _ hex _ _ _ =>
            obtain ⟨C, e0, fr, hb, _, hcl, ho, hes, _⟩ := hr.row hl hg
            have : cap = cap' := by
              rcases hex with e | ⟨e1, e2⟩
              · exact e
              · refine absurd ?_ hne
                rw [hes, cellsOf_info hi] at e2
                simp [← ho, e1, e2, hcl]
            subst this
            simp [Builtin.cap_, ha, hx0, run_underlying hu, goInt]
          | slice0 => simp [Builtin.cap_, ha, hx0, run_underlying hu, goInt]
    · simp at hh
  · simp at hh

theorem aFirst_sound (hr : HR P B μ h w) {size n : Nat} {x x' : Value} {cs : List Value} (hh : aFirst h size n x = some cs) (hx : VR μ x x') (hn : ∀ a l c, x = .slice a l c → n ≤ l) :
    ∃ xs, VRs μ cs xs ∧ ∀ w2 : World, w2.heap = w.heap → (Builtin.firstCells size n x').run P w2 = .ok xs.toArray w2 := by
  unfold aFirst at hh
  split at hh
  · rename_i id off len cap
    split at hh
    · rename_i c e b hg
      split at hh
      · rename_i hfit
        cases hh
        cases hx with
        | slice _ _ _ _ cap' loc hl _ _ _ _ _ _ =>
          obtain ⟨xs, h1, h2, h3⟩ := hr.stretch hl hg off (n * size) hfit
          refine ⟨xs, h1, fun w2 hw => ?_⟩
          have := run_loadCells_list (P := P) w2 ⟨loc.blk, loc.base + off, none⟩ xs (h3 w2 hw)
          rw [h2] at this
          simp only [Builtin.firstCells, this]
        | slice0 _ _ off' loc hl =>
          have := hn _ _ _ rfl
          have : n = 0 := by omega
          subst this
          exact ⟨[], by simp; exact VRs.nil μ, fun w2 hw => by simp [Builtin.firstCells, loadCells, loadCellsFrom]⟩
      · simp at hh
    · simp at hh
  · rename_i len cap
    cases hh
    cases hx
    exact ⟨[], VRs.nil μ, fun w2 hw => rfl⟩
  · rename_i s
    cases hh
    cases hx
    refine ⟨(s.data.toList.take n).map fun b => .int .u8 b.toNat, ⟨rfl, fun i a b ha hb => ?_⟩, fun w2 hw => ?_⟩
    · rw [ha] at hb; cases hb
      simp only [List.getElem?_map, Option.map_eq_some_iff] at ha
      obtain ⟨u, _, rfl⟩ := ha
      exact .int _ _
    · simp only [Builtin.firstCells, Sem.run_pure]
      congr 1
      apply Array.ext'
      simp [ByteArray.data_extract]
  · simp at hh

theorem lenOf_sound {x x' : Value} {n : Nat} (hh : aLenOf x = some n) (hx : VR μ x x') (w : World) : (Builtin.lenOf x').run P w = .ok n w := by
  unfold aLenOf at hh
  split at hh
  · cases hh; cases hx <;> rfl
  · cases hh; cases hx; rfl
  · simp at hh

theorem nextslicecap_le (need cap : Nat) (hlt : cap < need) : Builtin.nextslicecap need cap ≤ 2 * need + 192 := by
  have grow : ∀ (r c : Nat), c ≤ 2 * need + 192 → Builtin.growBy need r c ≤ 2 * need + 192 := by
    intro r
    induction r with
    | zero => intro c hc; exact hc
    | succ r ih =>
      intro c hc
      simp only [Builtin.growBy]
      split
      · exact hc
      · exact ih _ (by omega)
  unfold Builtin.nextslicecap
  split
  · omega
  · split
    · omega
    · exact grow 4 cap (by omega)

/-- What is appended, in the world. -/
theorem aNews_sound (hr : HR P B μ h w) {ats : Array TypeId} {t tx e : TypeId} {i : TypeInfo} {x x' : Value} {cs : List Value} {n : Nat} {z : Bool} (hh : aNews P h ats x = some (cs, n, z)) (hx : VR μ x x')
    (ha0 : ats[0]? = some t) (ha1 : ats[1]? = some tx) (ht : P.underlying t = some (.slice e)) (hi : P.info? e = some i) :
    (z = false ∧ cs.all (·.oneCell') = true ∧ ∃ xs, VRs μ cs xs ∧ ∀ w2 : World, w2.heap = w.heap → Src P i.size tx x' n xs w2) ∨
    (z = true ∧ ∃ q q' zr, P.underlying tx = some (.int q) ∧ x' = .int q' n ∧ i.zero = some zr ∧ zr.cells.size = i.size ∧ zr.cells.toList.all plainV = true ∧ cs = repeated zr.cells.toList n ∧ n * (i.bytes + 1) ≤ roomy ∧ n ≤ roomy ∧ i.size ≠ 0) := by
  unfold aNews at hh
  rw [ha0, ha1] at hh
  simp only [Option.bind_some, ht, hi] at hh
  split at hh
  · rename_i q hu
    split at hh
    · rename_i q' l
      split at hh
      · rename_i hb
        obtain ⟨b1, b2, b3, b4⟩ := hb
        cases hz : i.zero with
        | none => rw [hz] at hh; simp at hh
        | some zr =>
          rw [hz] at hh
          simp only [Option.bind_some] at hh
          split at hh
          · rename_i hc
            cases hh
            cases hx
            refine .inr ⟨rfl, q, q', zr, hu, ?_, rfl, hc.1, hc.2, rfl, b3, by omega, b4⟩
            congr 1; omega
          · simp at hh
      · simp at hh
    · simp at hh
  · rename_i e' hu
    cases hn : aLenOf x with
    | none => rw [hn] at hh; simp at hh
    | some m =>
      rw [hn] at hh
      simp only [Option.bind_some] at hh
      split at hh
      · simp at hh
      · rename_i hs0
        cases hf : aFirst h i.size m x with
        | none => rw [hf] at hh; simp at hh
        | some c =>
          rw [hf] at hh
          simp only [Option.bind_some] at hh
          split at hh
          · rename_i hc
            cases hh
            obtain ⟨xs, h1, h2⟩ := aFirst_sound hr hf hx (by intro a l c' e1; subst e1; simp [aLenOf] at hn; omega)
            refine .inl ⟨rfl, hc.1, xs, h1, fun w2 hw => ⟨.inl ⟨e', hu⟩, fun w' => lenOf_sound hn hx w', h2 w2 hw, h2 w2.drew hw, by rw [← h1.1]; exact hc.2, ?_⟩⟩
            have := hc.1
            rw [h1.oneCell] at this
            exact List.all_eq_true.1 this
          · simp at hh
  · rename_i hu
    cases hn : aLenOf x with
    | none => rw [hn] at hh; simp at hh
    | some m =>
      rw [hn] at hh
      simp only [Option.bind_some] at hh
      split at hh
      · simp at hh
      · rename_i hs0
        cases hf : aFirst h i.size m x with
        | none => rw [hf] at hh; simp at hh
        | some c =>
          rw [hf] at hh
          simp only [Option.bind_some] at hh
          split at hh
          · rename_i hc
            cases hh
            obtain ⟨xs, h1, h2⟩ := aFirst_sound hr hf hx (by intro a l c' e1; subst e1; simp [aLenOf] at hn; omega)
            refine .inl ⟨rfl, hc.1, xs, h1, fun w2 hw => ⟨.inr hu, fun w' => lenOf_sound hn hx w', h2 w2 hw, h2 w2.drew hw, by rw [← h1.1]; exact hc.2, ?_⟩⟩
            have := hc.1
            rw [h1.oneCell] at this
            exact List.all_eq_true.1 this
          · simp at hh
  · simp at hh

/-- An object is given up. -/
theorem HR.kill (hr : HR P B μ h w) {id : Nat} {loc : Loc} {c : List Value} {e : TypeId} {b : Bool} (hm : μ id = some loc) (hg : h.get id = some (.cells c e b)) (hlow : h.low ≤ id) :
    Post P B μ h w μ (h.put id none) w ∧ Keeps h (h.put id none) := by
  have hid := (hr.dom id loc hm).1
  have gp := h.get_put id none hid
  have key : ∀ j, (h.put id none).get j ≠ none → h.get j ≠ none := by
    intro j hj
    rw [gp] at hj
    by_cases e : j = id
    · subst e; simp at hj
    · rw [if_neg e] at hj; exact hj
  refine ⟨⟨Map.le_refl _, fun i l a b => (by rw [a] at b; cases b), ⟨hr.dom, ?_, ?_, hr.low, hr.base⟩, Nat.le_refl _, fun _ _ _ => rfl, fun j hj hn => (by rw [gp, if_neg (fun e => by subst e; rw [hm] at hn; cases hn)]), SameEnv.refl w⟩, ⟨Nat.le_refl _, rfl, ?_, ?_, ?_⟩⟩
  · intro i l ob a g
    rw [gp] at g
    by_cases e : i = id
    · subst e; simp at g
    · rw [if_neg e] at g; exact hr.obj i l ob a g
  · intro i l a g hl
    obtain ⟨h1, h2⟩ := hr.own i l a (key i g) hl
    exact ⟨h1, fun i' l' a' g' hne => h2 i' l' a' (key i' g') hne⟩
  · intro i hi; rw [gp, if_neg (by omega)]
  · intro i hi hn; rw [gp]; split
    · rfl
    · exact hn
  · intro i r hi
    rw [gp]
    by_cases e : i = id
    · subst e; rw [hg] at hi; cases hi
    · rw [if_neg e]; exact ⟨r, hi⟩

/-- A new object takes the place of one that is given up. -/
theorem HR.adopt (hr : HR P B μ h w) {id : Nat} {loc loc' : Loc} {c : List Value} {e : TypeId} {b : Bool} (hm : μ id = some loc) (hg : h.get id = some (.cells c e b)) (hlow : h.low ≤ id)
    {w' : World} {o : AObj} {O : Obj} (hblk : loc'.blk = loc.blk) (hro' : loc'.ro = false) (hs : w'.heap.size = w.heap.size) (hoth : ∀ k, k ≠ loc.blk → w'.heap[k]? = w.heap[k]?) (hO : w'.heap[loc.blk]? = some O) (henv : SameEnv w w')
    (ho : ∀ μ', μ.le μ' → μ' h.next = some loc' → OR P μ' loc' o O) :
    ∃ μ', μ' h.next = some loc' ∧ Post P B μ h w μ' ((h.put id none).alloc o) w' ∧ Keeps h ((h.put id none).alloc o) := by
  have hid := (hr.dom id loc hm).1
  have gp := h.get_put id none hid
  have ga : ∀ j, ((h.put id none).alloc o).get j = if j = h.next then some o else (h.put id none).get j := fun j => (h.put id none).get_alloc o j
  have hn : μ h.next = none := by
    cases e : μ h.next with
    | none => rfl
    | some l => have := (hr.dom _ _ e).1; omega
  let μ' : Map := fun j => if j = h.next then some loc' else μ j
  have hle : μ.le μ' := by
    intro j l hl
    by_cases e : j = h.next
    · subst e; rw [hn] at hl; cases hl
    · simp [μ', e, hl]
  have hm' : μ' h.next = some loc' := by simp [μ']
  have old : ∀ j, j ≠ h.next → ((h.put id none).alloc o).get j ≠ none → j ≠ id ∧ h.get j ≠ none := by
    intro j hj hgj
    rw [ga, if_neg hj, gp] at hgj
    by_cases e : j = id
    · subst e; simp at hgj
    · rw [if_neg e] at hgj; exact ⟨e, hgj⟩
  have notb : ∀ j l, μ j = some l → j ≠ id → h.get j ≠ none → l.blk ≠ loc.blk := fun j l a hne g => (hr.own id loc hm (by rw [hg]; simp) hlow).2 j l a g hne
  refine ⟨μ', hm', ⟨hle, ?_, ⟨?_, ?_, ?_, ?_, ?_⟩, by omega, ?_, fun j hj hn' => (by rw [ga, if_neg (by omega), gp, if_neg (fun e => by subst e; rw [hm] at hn'; cases hn')]), henv⟩, ⟨by simp, rfl, ?_, ?_, ?_⟩⟩
  · intro j l a b'
    by_cases e : j = h.next
    · subst e; rw [hm'] at a; cases a; exact ⟨Nat.le_refl _, .inr ⟨id, loc, hm, by rw [hg]; simp, hlow, hblk.symm⟩⟩
    · simp only [μ', if_neg e] at a; rw [b'] at a; cases a
  · intro j l a
    by_cases e : j = h.next
    · subst e; rw [hm'] at a; cases a; have := (hr.dom id loc hm).2; exact ⟨by simp, by omega⟩
    · simp only [μ', if_neg e] at a; have := hr.dom j l a; simp; omega
  · intro j l ob a g
    by_cases e : j = h.next
    · subst e; rw [hm'] at a; cases a
      rw [ga, if_pos rfl] at g; cases g
      exact ⟨O, by rw [hblk]; exact hO, ho μ' hle hm'⟩
    · obtain ⟨o1, o2⟩ := old j e (by rw [g]; simp)
      simp only [μ', if_neg e] at a
      rw [ga, if_neg e, gp, if_neg o1] at g
      obtain ⟨O', h1, h2⟩ := hr.obj j l ob a g
      exact ⟨O', by rw [hoth _ (notb j l a o1 o2)]; exact h1, h2.mono hle⟩
  · intro j l a g hlj
    simp only [AHeap.low_alloc, AHeap.low_put] at hlj
    by_cases e : j = h.next
    · subst e; rw [hm'] at a; cases a
      refine ⟨hro', fun j' l' a' g' hne => ?_⟩
      simp only [μ', if_neg hne] at a'
      obtain ⟨o1, o2⟩ := old j' hne g'
      rw [hblk]; exact notb j' l' a' o1 o2
    · obtain ⟨o1, o2⟩ := old j e g
      simp only [μ', if_neg e] at a
      obtain ⟨h1, h2⟩ := hr.own j l a o2 hlj
      refine ⟨h1, fun j' l' a' g' hne => ?_⟩
      by_cases e' : j' = h.next
      · subst e'; rw [hm'] at a'; cases a'; rw [hblk]; exact fun e3 => notb j l a o1 o2 e3.symm
      · obtain ⟨p1, p2⟩ := old j' e' g'
        simp only [μ', if_neg e'] at a'
        exact h2 j' l' a' p2 hne
  · have := hr.low; simp; omega
  · rw [hs]; exact hr.base
  · intro k hk hmine
    exact hoth k (fun e => hmine ⟨id, loc, hm, by rw [hg]; simp, hlow, e.symm⟩)
  · intro j hj; rw [ga, if_neg (by have := hr.low; omega), gp, if_neg (by omega)]
  · intro j hj hgj; rw [ga, if_neg (by omega), gp]; split
    · rfl
    · exact hgj
  · intro j r hj
    have hjn : j ≠ h.next := by intro e; subst e; rw [h.get_ge _ (Nat.le_refl _)] at hj; cases hj
    rw [ga, if_neg hjn, gp]
    by_cases e : j = id
    · subst e; rw [hg] at hj; cases hj
    · rw [if_neg e]; exact ⟨r, hj⟩

theorem setRow_tail : ∀ (vs : List Value) (L : List Value) (k : Nat), k + vs.length = L.length → setRow L k vs = L.take k ++ vs
  | [], L, k, hk => by simp at hk; simp [setRow, List.take_of_length_le (Nat.le_of_eq hk.symm)]
  | v :: vs, L, k, hk => by
    simp only [setRow]
    simp at hk
    rw [setRow_tail vs (L.set k v) (k + 1) (by simp; omega)]
    rw [List.take_add_one, List.take_set]
    have : (L.set k v)[k]? = some v := by rw [List.getElem?_set_self (by omega)]
    rw [this]
    have e1 : (L.take k).set k v = L.take k := by
      apply List.set_eq_of_length_le; simp; omega
    rw [e1]; simp

theorem appendFresh {e : TypeId} {i : TypeInfo} (hi : P.info? e = some i) {olds olds' news news' : List Value} {len n cap' : Nat} {zr : Value} (h1 : VRs μ olds olds') (h2 : VRs μ news news')
    (hol : olds.length = len * i.size) (hnl : news.length = n * i.size) (hone : (olds ++ news).all (·.oneCell') = true) (hcap : len + n ≤ cap') (hz : zr.cells.size = i.size) (hmx : cap' ≤ 9223372036854775807) :
    ∀ μ' blk, μ.le μ' → μ' h.next = some ⟨blk, 0, (olds ++ news).length, (olds ++ news).length + (cap' - (len + n)) * i.size, P.cellsOf e, true, false⟩ →
      OR P μ' ⟨blk, 0, (olds ++ news).length, (olds ++ news).length + (cap' - (len + n)) * i.size, P.cellsOf e, true, false⟩ (.cells (olds ++ news) e true) (.cells ((olds' ++ news').toArray ++ Builtin.zeroCells zr.cells (cap' - (len + n))) e (0, 0)) ∧
      VR μ' (sliceTo h.next 0 (len + n) (len + n)) (.slice (some ⟨blk, 0, none⟩) (len + n) cap') := by
  intro μ' blk hle hm
  have hlen : (olds ++ news).length = (len + n) * i.size := by simp [hol, hnl, Nat.add_mul]
  have hv := (h1.append h2).mono hle
  refine ⟨⟨.inr rfl, rfl, rfl, rfl, ?_, by simp, ?_, hone, .inr (Melted.all fun j hh => by simp at hh)⟩, ?_⟩
  · have := hv.1
    simp only [Array.size_append, List.size_toArray, Builtin.zeroCells, Array.size_map, Array.size_range, hz]
    omega
  · simp only [List.drop_zero, Array.toList_append]
    have e1 := hv.1
    rw [List.take_append_of_le_length (by simpa using Nat.le_of_eq e1), List.take_of_length_le (by simpa using Nat.le_of_eq e1.symm)]
    exact hv
  · have := VR.slice (μ := μ') h.next 0 (len + n) (len + n) cap' _ hm (Nat.le_refl _) hcap (.inr ⟨rfl, by simp only [cellsOf_info hi]; omega⟩) (by
      simp only [cellsOf_info hi, hlen]
      have : (len + n) * i.size + (cap' - (len + n)) * i.size = cap' * i.size := by rw [← Nat.add_mul]; congr 1; omega
      omega) (by simp only [cellsOf_info hi]; omega) hmx
    simpa [sliceTo] using this

theorem two_args {α : Type} {a : Array α} {x y : α} (h2 : a.size = 2) (h0 : a[0]? = some x) (h1 : a[1]? = some y) : a = #[x, y] := by
  apply Array.ext
  · simp [h2]
  · intro i hi hj
    have : i = 0 ∨ i = 1 := by omega
    rcases this with rfl | rfl
    · simpa using (Array.getElem?_eq_some_iff.1 h0).2
    · simpa using (Array.getElem?_eq_some_iff.1 h1).2

set_option maxHeartbeats 2000000 in
theorem aAppend_sound (hr : HR P B μ h w) {ats : Array TypeId} {t tx : TypeId} {s s' x x' v : Value} {cs : List Value} {n : Nat} {z : Bool} {h' : AHeap} (ty : TypeId)
    (hn : aNews P h ats x = some (cs, n, z)) (hh : aAppend P h t s cs n z = some (v, h')) (hx : VR μ x x') (hs : VR μ s s') (ha : ats = #[t, tx]) :
    ∃ v' w' μ', (Builtin.append_ ats ty #[s', x']).run P w = .ok v' w' ∧ VR μ' v v' ∧ Post P B μ h w μ' h' w' ∧ Keeps h h' := by
  unfold aAppend at hh
  split at hh
  · rename_i e base len cap ht
    cases hi : P.info? e with
    | none => rw [hi] at hh; simp at hh
    | some i =>
    rw [hi] at hh
    simp only [Option.bind_some] at hh
    split at hh
    · simp at hh
    · rename_i hcond
      simp only [not_or, Bool.not_eq_false] at hcond
      obtain ⟨hs0, hcl, hroom, hroom2, hone⟩ := hcond
      have hnews := aNews_sound (tx := tx) hr hn hx (by rw [ha]; rfl) (by rw [ha]; rfl) ht hi
      subst ha
      have hcl' : cs.length = n * i.size := by omega
      have er : roomy = 1099511627776 := by decide
      -- the two runs, each for whatever address and capacity
      have nothing : ∀ (b' : Option Addr) (c' : Nat), n = 0 → len ≤ c' → (Builtin.append_ #[t, tx] ty #[.slice b' len c', x']).run P w = .ok (.slice b' len c') w := by
        intro b' c' hn0 hle
        subst hn0
        rcases hnews with ⟨rfl, _, xs, hv, hsrc⟩ | ⟨rfl, q, q', zr, hq, rfl, hz, hzs, _, _, _, _, _⟩
        · have : xs = [] := by have := hv.1; rw [hcl'] at this; simp at this; exact List.eq_nil_of_length_eq_zero this.symm
          subst this
          exact run_append_nothing w t tx ty e i ht hi b' len c' hle x' (hsrc w rfl)
        · have hw : IntKind.i64.wrap (0 : Int) = 0 := by decide
          cases b' <;> simp [Builtin.append_, run_underlying ht, run_underlying hq, sizeOf, typeInfo, hi, asInt, asIntOf, hw, hle, storeCells]
      have fresh : ∀ (b' : Option Addr) (c' : Nat) (olds olds' : List Value), c' < len + n → len ≤ c' → VRs μ olds olds' → olds.length = len * i.size → olds.all (·.oneCell') = true →
          (∀ w2 : World, w2.heap = w.heap → (Builtin.firstCells i.size len (.slice b' len c')).run P w2 = .ok olds'.toArray w2) → ∀ zr, i.zero = some zr → zr.cells.size = i.size → zr.cells.toList.all plainV = true →
          ∃ v' cap' O loc, (Builtin.append_ #[t, tx] ty #[.slice b' len c', x']).run P w = .ok v' (w.drew.alloc O) ∧ (loc.blk = w.heap.size ∧ loc.ro = false) ∧
            ∀ μ', μ.le μ' → μ' h.next = some loc → OR P μ' loc (.cells (olds ++ cs) e true) O ∧ VR μ' (sliceTo h.next 0 (len + n) (len + n)) v' ∧ v' = .slice (some ⟨loc.blk, 0, none⟩) (len + n) cap' := by
        intro b' c' olds olds' hlt hlec hov hol hoone hold zr hz hzs hzp
        have hnl := nextslicecap_le (len + n) c' hlt
        have hfit : Builtin.nextslicecap (len + n) c' * i.bytes ≤ 281474976710656 := by
          rw [er] at hroom hroom2
          have k1 : (len + n) * i.bytes ≤ (len + n) * (i.bytes + 1) := Nat.mul_le_mul_left _ (by omega)
          have k2 : Builtin.nextslicecap (len + n) c' * i.bytes ≤ (2 * (len + n) + 192) * i.bytes := Nat.mul_le_mul_right _ hnl
          have k3 : (2 * (len + n) + 192) * i.bytes = 2 * ((len + n) * i.bytes) + 192 * i.bytes := by rw [Nat.add_mul, Nat.mul_assoc]
          have k4 : i.bytes ≤ (len + n) * i.bytes := Nat.le_mul_of_pos_left _ (by omega)
          omega
        have hcapge : len + n ≤ grownCap w (len + n) c' e := by unfold grownCap Question.cut; simp only; omega
        have hcapmx : grownCap w (len + n) c' e ≤ 9223372036854775807 := grownCap_le_maxLen w (len + n) c' e (by unfold maxLen; unfold roomy at *; omega)
        have oneAll : (olds ++ cs).all (·.oneCell') = true := by rw [List.all_append, hoone, Bool.true_and]; simpa using hone
        rcases hnews with ⟨rfl, _, xs, hv, hsrc⟩ | ⟨rfl, q, q', zr', hq, rfl, hz', hzs', hzp', rfl, hnb, hn40, _⟩
        · have hrun := run_append_grow_src (P := P) w t tx ty e i zr ht hi hz b' len c' olds' (hold w.drew rfl) x' n xs (hsrc w rfl) hlt (by rw [er] at hroom2; omega) hfit
          refine ⟨_, grownCap w (len + n) c' e, _, ⟨w.heap.size, 0, (olds ++ cs).length, (olds ++ cs).length + (grownCap w (len + n) c' e - (len + n)) * i.size, P.cellsOf e, true, false⟩, hrun, ⟨rfl, rfl⟩, fun μ' hle hm => ?_⟩
          obtain ⟨g1, g2⟩ := appendFresh hi hov hv hol hcl' oneAll hcapge hzs hcapmx μ' _ hle hm
          exact ⟨g1, g2, rfl⟩
        · rw [hz'] at hz; cases hz
          by_cases hn0 : n = 0
          · exfalso
            omega
          · have hrun := Lib.run_append_grow_zeros (P := P) w t tx ty e i zr q' q ht hq hi hz' b' len c' olds' (hold w.drew rfl) n (by omega) (by omega) hlt (by rw [er] at hroom2; omega) (by
              rw [er] at hnb
              have : n * i.bytes ≤ n * (i.bytes + 1) := Nat.mul_le_mul_left _ (by omega)
              omega) hfit
            have hzc : (Builtin.zeroCells zr.cells n).toList = repeated zr.cells.toList n := by
              rw [repeated_eq n (.inl (by omega))]; rfl
            have hv : VRs μ (repeated zr.cells.toList n) (Builtin.zeroCells zr.cells n).toList := by rw [hzc]; exact VRs.plain (all_repeated hzp _)
            refine ⟨_, grownCap w (len + n) c' e, _, ⟨w.heap.size, 0, (olds ++ repeated zr.cells.toList n).length, (olds ++ repeated zr.cells.toList n).length + (grownCap w (len + n) c' e - (len + n)) * i.size, P.cellsOf e, true, false⟩, hrun, ⟨rfl, rfl⟩, fun μ' hle hm => ?_⟩
            obtain ⟨g1, g2⟩ := appendFresh hi hov hv hol hcl' oneAll hcapge hzs hcapmx μ' _ hle hm
            refine ⟨?_, g2, rfl⟩
            have e1 : (olds' ++ (Builtin.zeroCells zr.cells n).toList).toArray = olds'.toArray ++ Builtin.zeroCells zr.cells n := by
              apply Array.ext'; simp
            rw [e1] at g1
            exact g1
      have wrap : ∀ {w1 : World} {μ1 : Map} {h1 : AHeap}, Post P B μ h w.drew μ1 h1 w1 → Post P B μ h w μ1 h1 w1 := fun p => p.congr0 rfl ⟨rfl, rfl, rfl⟩
      have hrd : HR P B μ h w.drew := hr.congr rfl
      split at hh
      · rename_i hle
        split at hh
        · rename_i hn0
          cases hh
          cases hs with
          | snil => exact ⟨_, w, μ, nothing none 0 hn0 (by omega), .snil, Post.refl hr, Keeps.refl h⟩
          | slice id off _ _ cap' loc hl a1 a2 a3 a4 a5 a6 => exact ⟨_, w, μ, nothing _ cap' hn0 (by omega), .slice id off _ _ cap' loc hl a1 a2 a3 a4 a5 a6, Post.refl hr, Keeps.refl h⟩
          | slice0 id off off' loc hl => exact ⟨_, w, μ, nothing _ 0 hn0 (by omega), .slice0 id off off' loc hl, Post.refl hr, Keeps.refl h⟩
        · rename_i hn0
          split at hh
          · simp at hh
          · rename_i hz
            rcases hnews with ⟨_, _, xs, hv, hsrc⟩ | ⟨e1, _⟩
            · split at hh
              · rename_i id off
                split at hh
                · rename_i c e' b hg
                  split at hh
                  · rename_i hc
                    obtain ⟨c1, rfl, c3⟩ := hc
                    cases hh
                    cases hs with
                    | slice _ _ _ _ cap' loc hl a1 a2 a3 a4 a5 a6 =>
                      have hfit : off + len * i.size + cs.length ≤ c.length := by rw [hcl']; rw [Nat.add_mul] at c3; omega
                      obtain ⟨g1, g2, g3⟩ := hr.write (off := off + len * i.size) hl hg c1 hv hfit (by simpa using hone)
                      obtain ⟨C, e0, fr, hb, _, hrl, _, _, hrc, hrb, _, _, hfr0⟩ := hr.row hl hg
                      have hfr := hfr0.resolve_left (by rw [(hr.own id loc hl (by rw [hg]; simp) c1).1]; simp)
                      have hxl := hv.1
                      have hrun := run_append_room_src (P := P) w t tx ty e' i ht hi loc.blk (loc.base + off) len cap' x' n xs (hsrc w rfl) (by omega) (fun j hj => by
                        rw [cell_of_row w _ _ C _ fr hb, Array.getElem?_eq_getElem (by omega)]; rfl) (fun j hj => by
                        simp only [World.frozen?, hb]
                        have := hfr.1 (loc.base + off + len * i.size + j) (by omega)
                        simpa using this)
                      rw [show loc.base + off + len * i.size = loc.base + (off + len * i.size) by omega] at hrun
                      exact ⟨_, _, μ, hrun, .slice id off _ _ cap' loc hl (by omega) a2 a3 a4 a5 a6, g2, g3⟩
                    | slice0 => omega
                  · simp at hh
                · simp at hh
              · simp at hh
            · simp [e1] at hz
      · rename_i hle
        cases hz : i.zero with
        | none => rw [hz] at hh; simp at hh
        | some zr =>
        rw [hz] at hh
        simp only [Option.bind_some] at hh
        split at hh
        · simp at hh
        · rename_i hzc
          simp only [not_or, Decidable.not_not, Bool.not_eq_false] at hzc
          obtain ⟨hzs, hzp⟩ := hzc
          split at hh
          · split at hh
            · rename_i hc
              obtain ⟨rfl, rfl⟩ := hc
              cases hh
              cases hs
              obtain ⟨v', cap', O, loc, r1, r2, r3⟩ := fresh none 0 [] [] (by omega) (by omega) (VRs.nil μ) (by simp) rfl (fun w2 _ => rfl) zr hz hzs (by simpa using hzp)
              obtain ⟨μ', hm, p1, p2, _⟩ := hrd.alloc (O := O) (loc := loc) (o := .cells cs e true) (by exact r2) (fun μ' hle' hm' => (r3 μ' hle' hm').1)
              refine ⟨v', _, μ', r1, ?_, wrap p1, p2⟩
              have := (r3 μ' p1.le hm).2.1
              simpa using this
            · simp at hh
          · rename_i id off
            split at hh
            · rename_i c e' b hg
              split at hh
              · rename_i hc
                obtain ⟨rfl, hfit⟩ := hc
                have olall : ((c.drop off).take (len * i.size)).length = len * i.size := by simp; omega
                have allc : ∀ loc, μ id = some loc → ((c.drop off).take (len * i.size)).all (·.oneCell') = true := by
                  intro loc hl
                  obtain ⟨_, _, _, _, _, _, _, _, _, _, _, hall, _⟩ := hr.row hl hg
                  simp only [List.all_eq_true] at hall ⊢
                  intro y hy
                  exact hall y (List.mem_of_mem_drop (List.mem_of_mem_take hy))
                -- what is laid afresh
                have mk : ∀ (cap' : Nat), VR μ (.slice (some ⟨id, off, none⟩) len cap) s' → (∃ b', s' = .slice b' len cap') → cap' < len + n → len ≤ cap' →
                    ∃ v' O loc, (Builtin.append_ #[t, tx] ty #[s', x']).run P w = .ok v' (w.drew.alloc O) ∧ (loc.blk = w.heap.size ∧ loc.ro = false) ∧
                      ∀ μ', μ.le μ' → μ' h.next = some loc → OR P μ' loc (.cells ((c.drop off).take (len * i.size) ++ cs) e' true) O ∧ VR μ' (sliceTo h.next 0 (len + n) (len + n)) v' := by
                  intro cap' hsv hs' hlt hlec
                  obtain ⟨b', rfl⟩ := hs'
                  have hf : aFirst h i.size len (.slice (some ⟨id, off, none⟩) len cap) = some ((c.drop off).take (len * i.size)) := by
                    simp only [aFirst, hg]; rw [if_pos hfit]
                  obtain ⟨xs, f1, f2⟩ := aFirst_sound hr hf hsv (by intro a l c' e1; cases e1; exact Nat.le_refl _)
                  have hal : ((c.drop off).take (len * i.size)).all (·.oneCell') = true := by
                    cases hsv with
                    | slice _ _ _ _ _ loc hl => exact allc loc hl
                    | slice0 _ _ _ loc hl => exact allc loc hl
                  obtain ⟨v', cap2, O, loc, r1, r2, r3⟩ := fresh b' cap' _ xs hlt hlec f1 olall hal (fun w2 hw => f2 w2 hw) zr hz hzs (by simpa using hzp)
                  exact ⟨v', O, loc, r1, r2, fun μ' a b => ⟨(r3 μ' a b).1, (r3 μ' a b).2.1⟩⟩
                split at hh
                · rename_i ho
                  obtain ⟨rfl, hend⟩ := ho
                  split at hh
                  · rename_i hk
                    obtain ⟨hlow, rfl⟩ := hk
                    cases hh
                    -- where the world makes a new row
                    have newRow : ∀ cap' loc0, μ id = some loc0 → VR μ (.slice (some ⟨id, off, none⟩) len cap) s' → (∃ b', s' = .slice b' len cap') → cap' < len + n → len ≤ cap' →
                        ∃ v' w' μ', (Builtin.append_ #[t, tx] ty #[s', x']).run P w = .ok v' w' ∧ VR μ' (sliceTo h.next 0 (len + n) (len + n)) v' ∧
                          Post P B μ h w μ' ((h.put id none).alloc (.cells ((c.drop off).take (len * i.size) ++ cs) e' true)) w' ∧ Keeps h ((h.put id none).alloc (.cells ((c.drop off).take (len * i.size) ++ cs) e' true)) := by
                      intro cap' loc0 hl hsv hs' hlt hlec
                      obtain ⟨v', O, loc, r1, r2, r3⟩ := mk cap' hsv hs' hlt hlec
                      obtain ⟨k1, k2⟩ := hrd.kill hl hg hlow
                      obtain ⟨μ', hm, p1, p2, _⟩ := k1.hr.alloc (O := O) (loc := loc) (o := .cells ((c.drop off).take (len * i.size) ++ cs) e' true) (by exact r2) (fun μ' hle' hm' => (r3 μ' hle' hm').1)
                      exact ⟨v', _, μ', r1, (r3 μ' p1.le hm).2, wrap (Post.trans hrd k2 k1 p1), k2.trans p2⟩
                    cases hs with
                    | slice0 _ _ off' loc hl => exact newRow 0 loc hl (.slice0 _ _ _ loc hl) ⟨_, rfl⟩ (by omega) (Nat.le_refl _)
                    | slice _ _ _ _ cap' loc hl a1 a2 a3 a4 a5 a6 =>
                      by_cases hroomy : len + n ≤ cap'
                      · -- there is room behind: the same row
                        rcases hnews with ⟨_, _, xs, hv, hsrc⟩ | ⟨e1, _⟩
                        · obtain ⟨C, e0, fr, hb, het, hrl, hro, hre, hrc, hrb, hrv, hrone, hfr0⟩ := hr.row hl hg
                          have hro0 := (hr.own id loc hl (by rw [hg]; simp) hlow).1
                          have hfr := hfr0.resolve_left (by rw [hro0]; simp)
                          have hee : e0 = e' := het.resolve_left (by rw [hro0]; simp)
                          subst e0
                          have hes : loc.esize = i.size := by rw [hre, cellsOf_info hi]
                          have hxl := hv.1
                          have hk0 : (len + n) * i.size ≤ cap' * i.size := Nat.mul_le_mul_right _ hroomy
                          have hk1 : (len + n) * i.size = len * i.size + n * i.size := Nat.add_mul _ _ _
                          rw [hes] at a4 a5
                          have hrun := run_append_room_src (P := P) w t tx ty e' i ht hi loc.blk (loc.base + off) len cap' x' n xs (hsrc w rfl) hroomy (fun j hj => by
                            rw [cell_of_row w _ _ C _ fr hb, Array.getElem?_eq_getElem (by omega)]; rfl) (fun j hj => by
                            simp only [World.frozen?, hb]
                            have := hfr.1 (loc.base + off + len * i.size + j) (by omega)
                            simpa using this)
                          obtain ⟨C', d1, d2, d3, d4, d5⟩ := setCells_heap xs (loc.base + off + len * i.size) w C hb
                          obtain ⟨μ', hm, p1, p2⟩ := hr.adopt (loc' := ⟨loc.blk, loc.base + off, (len + n) * i.size, loc.csize, loc.esize, true, false⟩) (o := .cells ((c.drop off).take (len * i.size) ++ cs) e' true) hl hg hlow rfl rfl d4 d5 d1 (setCells_env _ _ _ w) (by
                            intro μ' hle' hm'
                            refine ⟨.inr rfl, by simp [hcl', hk1]; omega, rfl, hre, by rw [d3]; exact hrc, ⟨by simp only; omega, .inr (.inl rfl)⟩, ?_, ?_, by exact .inr ⟨fun i hi => hfr.1 i (by omega), hfr.2⟩⟩
                            · simp only
                              rw [d2, show loc.base + off + len * i.size = (loc.base + off) + len * i.size from rfl, setRow_drop, setRow_take, setRow_tail]
                              · refine VRs.mono hle' (VRs.append ?_ hv)
                                have q := (hrv.drop off).take (len * i.size)
                                rw [List.drop_take, List.drop_drop] at q
                                have e1 : ((C.toList.drop (loc.base + off)).take ((len + n) * i.size)).take (len * i.size) = ((C.toList.drop (loc.base + off)).take (loc.size - off)).take (len * i.size) := by
                                  rw [List.take_take, List.take_take]
                                  congr 1
                                  omega
                                rw [e1]; exact q
                              · simp; omega
                            · rw [List.all_append, allc loc hl, Bool.true_and]; simpa using hone)
                          refine ⟨_, _, μ', hrun, ?_, p1, p2⟩
                          have := VR.slice (μ := μ') h.next 0 (len + n) (len + n) cap' _ hm (Nat.le_refl _) hroomy (.inr ⟨rfl, by simp only [hes]; omega⟩) (by simp only [hes]; omega) (by simp only [hes]; omega) a6
                          simpa [sliceTo] using this
                        · simp at e1
                      · exact newRow cap' loc hl (.slice _ _ _ _ cap' loc hl a1 a2 a3 a4 a5 a6) ⟨_, rfl⟩ (by omega) (by omega)
                  · simp at hh
                · rename_i ho
                  cases hh
                  have newRow : ∀ cap', VR μ (.slice (some ⟨id, off, none⟩) len cap) s' → (∃ b', s' = .slice b' len cap') → cap' < len + n → len ≤ cap' →
                      ∃ v' w' μ', (Builtin.append_ #[t, tx] ty #[s', x']).run P w = .ok v' w' ∧ VR μ' (sliceTo h.next 0 (len + n) (len + n)) v' ∧
                        Post P B μ h w μ' (h.alloc (.cells ((c.drop off).take (len * i.size) ++ cs) e' true)) w' ∧ Keeps h (h.alloc (.cells ((c.drop off).take (len * i.size) ++ cs) e' true)) := by
                    intro cap' hsv hs' hlt hlec
                    obtain ⟨v', O, loc, r1, r2, r3⟩ := mk cap' hsv hs' hlt hlec
                    obtain ⟨μ', hm, p1, p2, _⟩ := hrd.alloc (O := O) (loc := loc) (o := .cells ((c.drop off).take (len * i.size) ++ cs) e' true) (by exact r2) (fun μ' hle' hm' => (r3 μ' hle' hm').1)
                    exact ⟨v', _, μ', r1, (r3 μ' p1.le hm).2, wrap p1, p2⟩
                  cases hs with
                  | slice0 _ _ off' loc hl => exact newRow 0 (.slice0 _ _ _ loc hl) ⟨_, rfl⟩ (by omega) (Nat.le_refl _)
                  | slice _ _ _ _ cap' loc hl a1 a2 a3 a4 a5 a6 =>
                    obtain ⟨C, e0, fr, hb, het, hrl, hro, hre, hrc, hrb, hrv, hrone, hfr⟩ := hr.row hl hg
                    have hes : loc.esize = i.size := by rw [hre, cellsOf_info hi]
                    have hcc : cap = cap' := by
                      rcases a3 with a3 | ⟨o1, o2⟩
                      · exact a3
                      · refine absurd ⟨by rw [← hro]; exact o1, ?_⟩ ho
                        rw [hes] at o2; omega
                    exact newRow cap' (.slice _ _ _ _ cap' loc hl a1 a2 a3 a4 a5 a6) ⟨_, rfl⟩ (by omega) (by omega)
              · simp at hh
            · simp at hh
          · simp at hh
  · simp at hh

end Go.AM
