/- slices.Insert at claims (two cells an element): the Go text is walked on its four roads; then what the machine asks of it. Conditions: those of InsSpec. -/
import Derived.Test.YtiigibhnjobcaaaAMInsertInt
import Derived.Test.YtiigibhnjobcaaaChecked
set_option linter.unusedSimpArgs false
set_option linter.unusedVariables false
namespace Go.AM
open Go.Proofs Go.RowKit Go.Lib


theorem claimInfo : (Try.prog.info? 45).map (fun i => (i.zero, i.size, i.bytes)) = some (some (.agg #[.int .i64 0, .int .u32 0]), 2, 16) := by kernel_rfl

set_option maxHeartbeats 4000000 in
set_option maxRecDepth 100000 in
theorem claim_end_room (b off n c vb voff m vc : Nat) (vs : List Value) (w : World) (hm : 0 < m) (hroom : n + m ≤ c)
    (hvl : vs.length = m * 2) (hsp : ∀ j, j < m * 2 → (w.cell? ⟨b, off + n * 2 + j, none⟩).isSome = true) (hfz : ∀ j, j < m * 2 → w.frozen? ⟨b, off + n * 2 + j, none⟩ = false)
    (hvs : ∀ j v, vs[j]? = some v → w.cell? ⟨vb, voff + j, none⟩ = some v) (h1v : ∀ v ∈ vs, v.oneCell' = true) :
    Calls Try.prog 53 #[.slice (some ⟨b, off, none⟩) n c, .int .i64 n, .slice (some ⟨vb, voff, none⟩) m vc] w fun e w' =>
      e = .returned (.slice (some ⟨b, off, none⟩) (n + m) c) ∧ w' = w.setCells b (off + n * 2) vs := by
  obtain ⟨i0, hi0, hz0, hzs, hzb⟩ := info_parts claimInfo
  have hz1 : ¬ ((m : Int) = 0) := by omega
  have hsrc : Src Try.prog i0.size 31 (.slice (some ⟨vb, voff, none⟩) m vc) m vs w := by
    rw [hzs]
    exact Src.ofSlice w Try.underlying31 ⟨vb, voff, none⟩ m vc vs (by omega) (fun j u hj => by rw [Addr.add_lit]; exact hvs j u hj) h1v
  have hrun : ∀ ty, (Builtin.append_ #[31, 31] ty #[.slice (some ⟨b, off, none⟩) n c, .slice (some ⟨vb, voff, none⟩) m vc]).run Try.prog w = .ok (.slice (some ⟨b, off, none⟩) (n + m) c) (w.setCells b (off + n * 2) vs) := fun ty => by
    have := run_append_room_src (P := Try.prog) w 31 31 ty 45 i0 Try.underlying31 hi0 b off n c _ m vs hsrc hroom (by rw [hvl, hzs]; exact hsp) (by rw [hvl, hzs]; exact hfz)
    rwa [hzs] at this
  go_enter Try.func53, Try.ntmps53
  go_wp2_with (at_builtin; refine Lib.wpList_append_run _ rfl _ _ _ _ rfl _ _ rfl rfl _ _ (hrun _) ?_)
  go_ret
  exact ⟨rfl, rfl⟩

theorem run_copy_any {P : Program} (w : World) (t tx ty e : TypeId) (i : TypeInfo) (ht : P.underlying t = some (.slice e)) (hi : P.info? e = some i) (b off n c : Nat) (src : Addr) (l cc : Nat) (vs : List Value)
    (hvl : vs.length = Nat.min l n * i.size) (hsrc : ∀ j v, vs[j]? = some v → w.cell? (src.add j) = some v) (hsp : ∀ j, j < vs.length → (w.cell? ⟨b, off + j, none⟩).isSome = true) (hfz : ∀ j, j < vs.length → w.frozen? ⟨b, off + j, none⟩ = false)
    (h1v : ∀ v ∈ vs, v.oneCell' = true) :
    (Builtin.copy_ #[t, tx] ty #[.slice (some ⟨b, off, none⟩) n c, .slice (some src) l cc]).run P w = .ok (goInt (Nat.min l n)) (w.setCells b off vs) := by
  have hf := run_firstCells_some (P := P) w i.size (Nat.min l n) src l cc vs hvl hsrc
  have hst := run_storeCells_cells (P := P) b off vs 0 w (by simpa using hsp) (by simpa using hfz) h1v
  simp only [Nat.add_zero] at hst
  have hlen : (Builtin.lenOf (.slice (some src) l cc)).run P w = .ok l w := by simp [Builtin.lenOf]
  have a0 : (#[t, tx] : Array TypeId)[0]? = some t := rfl
  have a1 : (#[Value.slice (some ⟨b, off, none⟩) n c, Value.slice (some src) l cc] : Array Value)[0]? = some (.slice (some ⟨b, off, none⟩) n c) := rfl
  have a2 : (#[Value.slice (some ⟨b, off, none⟩) n c, Value.slice (some src) l cc] : Array Value)[1]? = some (.slice (some src) l cc) := rfl
  simp only [Builtin.copy_, a0, a1, a2, Sem.run_bind, run_underlying ht, Result.andThen_ok, hlen, run_size hi, hf, hst, Sem.run_pure]

set_option maxHeartbeats 4000000 in
set_option maxRecDepth 100000 in
theorem claim_end_grow (base : Option Addr) (n c vb voff m vc : Nat) (cs vs : List Value) (w : World) (hm : 0 < m) (hnc : n ≤ c) (hroom : c < n + m) (hbig : (n + m) * 16 ≤ 140737488355328)
    (hcl : cs.length = n * 2) (hvl : vs.length = m * 2) (hnil : base = none → n = 0)
    (hcs : ∀ a, base = some a → ∀ j v, cs[j]? = some v → w.cell? (a.add j) = some v)
    (hvs : ∀ j v, vs[j]? = some v → w.cell? ⟨vb, voff + j, none⟩ = some v) (h1v : ∀ v ∈ vs, v.oneCell' = true) :
    Calls Try.prog 53 #[.slice base n c, .int .i64 n, .slice (some ⟨vb, voff, none⟩) m vc] w fun e w' =>
      e = .returned (.slice (some ⟨w.heap.size, 0, none⟩) (n + m) (grownCap w (n + m) c 45)) ∧
      w' = w.drew.alloc (.cells ((cs ++ vs).toArray ++ Builtin.zeroCells (Value.agg #[.int .i64 0, .int .u32 0]).cells (grownCap w (n + m) c 45 - (n + m))) 45) := by
  obtain ⟨i0, hi0, hz0, hzs, hzb⟩ := info_parts claimInfo
  have hz1 : ¬ ((m : Int) = 0) := by omega
  have hsrc : Src Try.prog i0.size 31 (.slice (some ⟨vb, voff, none⟩) m vc) m vs w := by
    rw [hzs]
    exact Src.ofSlice w Try.underlying31 ⟨vb, voff, none⟩ m vc vs (by omega) (fun j u hj => by rw [Addr.add_lit]; exact hvs j u hj) h1v
  have hold : (Builtin.firstCells i0.size n (.slice base n c)).run Try.prog w.drew = .ok cs.toArray w.drew := by
    rw [hzs]
    cases base with
    | none =>
      have h0 := hnil rfl
      subst h0
      have hnil0 : cs = [] := List.eq_nil_of_length_eq_zero (by simpa using hcl)
      rw [hnil0]
      exact run_firstCells_none w.drew 2 0 0 c
    | some a => exact run_firstCells_some w.drew 2 n a n c cs (by omega) (fun j v hj => hcs a rfl j v hj)
  have hrun : ∀ ty, (Builtin.append_ #[31, 31] ty #[.slice base n c, .slice (some ⟨vb, voff, none⟩) m vc]).run Try.prog w = _ := fun ty =>
    run_append_grow_src w 31 31 ty 45 i0 _ Try.underlying31 hi0 hz0 base n c cs hold _ m vs hsrc hroom (by omega) (by rw [hzb]; exact growslice_fits hroom hbig)
  cases base with
  | none =>
    have h0 := hnil rfl
    subst h0
    go_enter Try.func53, Try.ntmps53
    go_wp2_with (at_builtin; refine Lib.wpList_append_run _ rfl _ _ _ _ rfl _ _ rfl rfl _ _ (hrun _) ?_)
    go_ret
    exact ⟨rfl, rfl⟩
  | some a =>
    obtain ⟨ab, ao, asp⟩ := a
    go_enter Try.func53, Try.ntmps53
    go_wp2_with (at_builtin; refine Lib.wpList_append_run _ rfl _ _ _ _ rfl _ _ rfl rfl _ _ (hrun _) ?_)
    all_goals (go_ret; exact ⟨rfl, rfl⟩)

theorem setCells_cell {w : World} {b : Nat} {C : Array Value} {e : TypeId} {fr : Nat × Nat} (hb : w.heap[b]? = some (.cells C e fr)) (vs : List Value) (o : Nat) (k : Nat) (hk : k < C.size) : ((w.setCells b o vs).cell? ⟨b, k, none⟩).isSome = true := by
  obtain ⟨C', h1, _, h3, _⟩ := setCells_heap vs o w C hb
  rw [row_cell h1, Array.getElem?_eq_getElem (by omega)]; rfl
theorem setCells_frozen {w : World} {b : Nat} {C : Array Value} {e : TypeId} {fr : Nat × Nat} (hb : w.heap[b]? = some (.cells C e fr)) (hfr : ∀ k, ¬ (fr.1 ≤ k ∧ k < fr.2)) (vs : List Value) (o : Nat) (k : Nat) : (w.setCells b o vs).frozen? ⟨b, k, none⟩ = false := by
  obtain ⟨C', h1, _⟩ := setCells_heap vs o w C hb
  unfold World.frozen?; rw [h1]
  have := hfr k
  simp only [Bool.and_eq_false_iff, decide_eq_false_iff_not]
  by_cases h2 : fr.1 ≤ k
  · exact .inr (fun h3 => this ⟨h2, h3⟩)
  · exact .inl h2
theorem row_frozen {w : World} {b : Nat} {C : Array Value} {e : TypeId} {fr : Nat × Nat} (hb : w.heap[b]? = some (.cells C e fr)) (hfr : ∀ k, ¬ (fr.1 ≤ k ∧ k < fr.2)) (k : Nat) : w.frozen? ⟨b, k, none⟩ = false := setCells_frozen hb hfr [] 0 k

set_option maxHeartbeats 4000000 in
set_option maxRecDepth 100000 in
theorem claim_shift (b off n c i vb voff m vc : Nat) (cs vs : List Value) (w : World) (C : Array Value) (e0 : TypeId) (fr : Nat × Nat) (VC : Array Value) (ve : TypeId) (vfr : Nat × Nat) (hi : i < n) (hm : 0 < m) (hroom : n + m ≤ c) (hc63 : c ≤ 9223372036854775807) (hvb : vb ≠ b)
    (hcl : cs.length = n * 2) (hvl : vs.length = m * 2) (hb : w.heap[b]? = some (.cells C e0 fr)) (hfit : off + c * 2 ≤ C.size) (hfr : ∀ k, ¬ (fr.1 ≤ k ∧ k < fr.2)) (hv : w.heap[vb]? = some (.cells VC ve vfr)) (hvfr : ∀ k, ¬ (vfr.1 ≤ k ∧ k < vfr.2))
    (hcs : ∀ j v, cs[j]? = some v → w.cell? ⟨b, off + j, none⟩ = some v) (hvs : ∀ j v, vs[j]? = some v → w.cell? ⟨vb, voff + j, none⟩ = some v) (h1c : ∀ v ∈ cs, v.oneCell' = true) (h1v : ∀ v ∈ vs, v.oneCell' = true) :
    Calls Try.prog 53 #[.slice (some ⟨b, off, none⟩) n c, .int .i64 i, .slice (some ⟨vb, voff, none⟩) m vc] w fun e w' =>
      e = .returned (.slice (some ⟨b, off, none⟩) (n + m) c) ∧ w' = (w.drew.setCells b (off + (i + m) * 2) (cs.drop (i * 2))).setCells b (off + i * 2) vs := by
  obtain ⟨i0, hi0, hz0, hzs, hzb⟩ := info_parts claimInfo
  have hz1 : ¬ ((m : Int) = 0) := by omega
  have hz2 : ¬ ((i : Int) = (n : Int)) := by omega
  have hov : ∀ lb cb, (callFunc 77 #[.slice (some ⟨vb, voff, none⟩) m vc, .slice (some ⟨b, off + (i + m) * 2, none⟩) lb cb]).run Try.prog w = .ok (.value (.bool false)) w := fun lb cb => by
    rw [run_callFunc_extern Try.func77 (by kernel_rfl) (by kernel_rfl) (by kernel_rfl) (e := Extern.SlicesOverlaps.overlaps #[31, 31] #[4]) (by kernel_rfl),
      Lib.run_overlaps_apart w 31 4 45 Try.underlying31 2 Try.sizeOf45 ⟨vb, voff, none⟩ ⟨b, off + (i + m) * 2, none⟩ m vc lb cb hvb ve e0 VC.size C.size (by unfold World.shape?; rw [hv]) (by unfold World.shape?; rw [hb]) (by omega) (row_frozen hv hvfr _) (row_frozen hv hvfr _)]
    rfl
  have hdl : (cs.drop (i * 2)).length = (n - i) * 2 := by rw [List.length_drop, hcl]; omega
  have hw1 : IntKind.i64.wrap ((i : Int) + (m : Int)) = (i : Int) + (m : Int) := by rw [IntKind.wrap_i64]; omega
  have hb1 : (0 : Int) ≤ (i : Int) + (m : Int) := by omega
  have hin : i ≤ n := by omega
  have htn : ((i : Int) + (m : Int)).toNat = i + m := by omega
  have hb2 : ¬ (c = i + m) := by omega
  have hb3 : (i : Int) ≤ (n : Int) + (m : Int) := by omega
  have hb4 : ¬ (c = i) := by omega
  have hbd : w.drew.heap[b]? = some (.cells C e0 fr) := hb
  have hcp1 : ∀ ty dc sc, (Builtin.copy_ #[31, 31] ty #[.slice (some ⟨b, off + (i + m) * 2, none⟩) (n + m - (i + m)) dc, .slice (some ⟨b, off + i * 2, none⟩) (n + m - i) sc]).run Try.prog w.drew = .ok (goInt (Nat.min (n + m - i) (n + m - (i + m)))) (w.drew.setCells b (off + (i + m) * 2) (cs.drop (i * 2))) := fun ty dc sc =>
    run_copy_any w.drew 31 31 ty 45 i0 Try.underlying31 hi0 b (off + (i + m) * 2) (n + m - (i + m)) dc ⟨b, off + i * 2, none⟩ (n + m - i) sc (cs.drop (i * 2)) (by rw [hdl, hzs]; congr 1; simp only [Nat.min_def]; split <;> omega)
      (fun j v hj => by rw [Addr.add_lit, Nat.add_assoc]; exact hcs (i * 2 + j) v (by rwa [List.getElem?_drop] at hj))
      (fun j hj => setCells_cell hbd [] 0 _ (by omega)) (fun j hj => row_frozen hbd hfr _) (fun v hv => h1c v (List.mem_of_mem_drop hv))
  obtain ⟨W1, hW1⟩ : ∃ W1, W1 = w.drew.setCells b (off + (i + m) * 2) (cs.drop (i * 2)) := ⟨_, rfl⟩
  have hcp2 : ∀ (W : World), (∀ x, W.cell? x = W1.cell? x) → (∀ x, W.frozen? x = W1.frozen? x) → ∀ ty dc, (Builtin.copy_ #[31, 31] ty #[.slice (some ⟨b, off + i * 2, none⟩) (n + m - i) dc, .slice (some ⟨vb, voff, none⟩) m vc]).run Try.prog W = .ok (goInt (Nat.min m (n + m - i))) (W.setCells b (off + i * 2) vs) := fun W hWc hWf ty dc =>
    run_copy_any W 31 31 ty 45 i0 Try.underlying31 hi0 b (off + i * 2) (n + m - i) dc ⟨vb, voff, none⟩ m vc vs (by rw [hvl, hzs]; congr 1; simp only [Nat.min_def]; split <;> omega)
      (fun j v hj => by
        rw [Addr.add_lit, hWc, hW1, World.cell?_setCells_out b _ _ _ _ (fun h _ => absurd h hvb)]
        exact hvs j v hj)
      (fun j hj => by rw [hWc, hW1]; exact setCells_cell hbd _ _ _ (by omega)) (fun j hj => by rw [hWf, hW1]; exact setCells_frozen hbd hfr _ _ _) h1v
  rw [← hW1] at hcp1
  have mixed : Try.prog.follows Departure.mixedOrders = true := by kernel_rfl
  go_enter Try.func53, Try.ntmps53
  go_wp2_with (simp only [hov])
  go_region_law_o (refine step_copy_runI rfl _ _ 31 31 rfl _ _ (by simp [Act.eval, Act.put]) (by simp [Act.eval, Act.put]) (hcp1 _ _ _) ?_)
  go_wp2_with (at_builtin; refine wpList_copy_runI _ rfl _ _ 31 31 rfl _ _ rfl rfl (hcp2 _ (fun _ => rfl) (fun _ => rfl) _ _) ?_)
  go_ret
  first | exact ⟨rfl, rfl⟩ | exact ⟨rfl, by rw [hW1]⟩

set_option maxHeartbeats 4000000 in
set_option maxRecDepth 100000 in
theorem claim_grow (b off n c i vb voff m vc : Nat) (cs vs : List Value) (w : World) (hi : i < n) (hm : 0 < m) (hnc : n ≤ c) (hroom : c < n + m) (hbig : (n + m) * 16 ≤ 140737488355328)
    (hcl : cs.length = n * 2) (hvl : vs.length = m * 2)
    (hcs : ∀ j v, cs[j]? = some v → w.cell? ⟨b, off + j, none⟩ = some v) (hvs : ∀ j v, vs[j]? = some v → w.cell? ⟨vb, voff + j, none⟩ = some v) (h1c : ∀ v ∈ cs, v.oneCell' = true) (h1v : ∀ v ∈ vs, v.oneCell' = true) :
    Calls Try.prog 53 #[.slice (some ⟨b, off, none⟩) n c, .int .i64 i, .slice (some ⟨vb, voff, none⟩) m vc] w fun e w' =>
      e = .returned (.slice (some ⟨w.heap.size, 0, none⟩) (n + m) (grownCap w (n + m) c 45)) ∧
      w' = (((w.alloc (.cells ((cs.take (i * 2)).toArray ++ Builtin.zeroCells (Value.agg #[.int .i64 0, .int .u32 0]).cells (n + m - i) ++ Builtin.zeroCells (Value.agg #[.int .i64 0, .int .u32 0]).cells (grownCap w (n + m) c 45 - (n + m))) 45)).drew.setCells w.heap.size (i * 2) vs).drew).setCells w.heap.size ((i + m) * 2) (cs.drop (i * 2)) := by
  obtain ⟨i0, hi0, hz0, hzs, hzb⟩ := info_parts claimInfo
  have mixed : Try.prog.follows Departure.mixedOrders = true := by kernel_rfl
  have hz1 : ¬ ((m : Int) = 0) := by omega
  have hz2 : ¬ ((i : Int) = (n : Int)) := by omega
  have hz3 : (c : Int) < (n : Int) + (m : Int) := by omega
  have hbw : b < w.heap.size := block_lt_of_cell (hcs 0 _ (List.getElem?_eq_getElem (by omega)))
  have hvw : vb < w.heap.size := block_lt_of_cell (hvs 0 _ (List.getElem?_eq_getElem (by omega)))
  have hkk : (n : Int) + (m : Int) - (i : Int) = ((n + m - i : Nat) : Int) := by omega
  have hik : i + (n + m - i) = n + m := by omega
  have hold : (Builtin.firstCells i0.size i (.slice (some ⟨b, off, none⟩) i c)).run Try.prog w.drew = .ok (cs.take (i * 2)).toArray w.drew := by
    rw [hzs]
    exact run_firstCells_some w.drew 2 i ⟨b, off, none⟩ i c (cs.take (i * 2)) (by rw [List.length_take]; omega) (fun j v hj => by
      rw [Addr.add_lit]
      rw [List.getElem?_take] at hj
      split at hj
      · exact hcs j v hj
      · cases hj)
  have hrz : ∀ ty, (Builtin.append_ #[31, 3] ty #[.slice (some ⟨b, off, none⟩) i c, .int .i64 ((n : Int) + (m : Int) - (i : Int))]).run Try.prog w =
      .ok (.slice (some ⟨w.heap.size, 0, none⟩) (n + m) (grownCap w (n + m) c 45)) (w.drew.alloc (.cells ((cs.take (i * 2)).toArray ++ Builtin.zeroCells (Value.agg #[.int .i64 0, .int .u32 0]).cells (n + m - i) ++ Builtin.zeroCells (Value.agg #[.int .i64 0, .int .u32 0]).cells (grownCap w (n + m) c 45 - (n + m))) 45)) := fun ty => by
    have h := Lib.run_append_grow_zeros w 31 3 ty 45 i0 _ .i64 .i64 Try.underlying31 Try.underlying3 hi0 hz0 (some ⟨b, off, none⟩) i c (cs.take (i * 2)) hold (n + m - i) (by omega) (by omega) (by omega) (by omega) (by rw [hzb]; omega) (by rw [hzb, hik]; exact growslice_fits hroom hbig)
    rw [hik] at h
    rw [hkk]
    exact h
  obtain ⟨G, hG⟩ : ∃ G, G = grownCap w (n + m) c 45 := ⟨_, rfl⟩
  obtain ⟨ROW, hROW⟩ : ∃ ROW : Array Value, ROW = (cs.take (i * 2)).toArray ++ Builtin.zeroCells (Value.agg #[.int .i64 0, .int .u32 0]).cells (n + m - i) ++ Builtin.zeroCells (Value.agg #[.int .i64 0, .int .u32 0]).cells (G - (n + m)) := ⟨_, rfl⟩
  rw [← hG] at hrz ⊢
  rw [← hROW] at hrz ⊢
  have hRl : (n + m) * 2 ≤ ROW.size := by
    rw [hROW]
    simp [Builtin.zeroCells, Value.cells]
    omega
  have hb0 : (w.drew.alloc (.cells ROW 45)).heap[w.heap.size]? = some (.cells ROW 45 (0, 0)) := by
    show (w.heap.push _)[w.heap.size]? = _
    simp
  have hnf : ∀ k : Nat, ¬ ((0, 0) : Nat × Nat).1 ≤ k ∨ ¬ k < ((0, 0) : Nat × Nat).2 := fun k => .inr (Nat.not_lt_zero k)
  have hnf' : ∀ k : Nat, ¬ (((0, 0) : Nat × Nat).1 ≤ k ∧ k < ((0, 0) : Nat × Nat).2) := fun k h => Nat.not_lt_zero k h.2
  obtain ⟨W1, hW1⟩ : ∃ W1, W1 = w.drew.alloc (.cells ROW 45) := ⟨_, rfl⟩
  rw [← hW1] at hrz hb0
  have hOb : ∀ j v, w.cell? ⟨b, j, none⟩ = some v → W1.cell? ⟨b, j, none⟩ = some v := fun j v h => by rw [hW1, World.cell?_alloc_past (w := w.drew) _ b j hbw]; exact h
  have hOv : ∀ j v, w.cell? ⟨vb, j, none⟩ = some v → W1.cell? ⟨vb, j, none⟩ = some v := fun j v h => by rw [hW1, World.cell?_alloc_past (w := w.drew) _ vb j hvw]; exact h
  have hcpA : ∀ (W : World), (∀ x, W.cell? x = W1.cell? x) → (∀ x, W.frozen? x = W1.frozen? x) → ∀ ty dc, (Builtin.copy_ #[31, 31] ty #[.slice (some ⟨w.heap.size, i * 2, none⟩) (n + m - i) dc, .slice (some ⟨vb, voff, none⟩) m vc]).run Try.prog W = .ok (goInt (Nat.min m (n + m - i))) (W.setCells w.heap.size (i * 2) vs) := fun W hWc hWf ty dc =>
    run_copy_any W 31 31 ty 45 i0 Try.underlying31 hi0 w.heap.size (i * 2) (n + m - i) dc ⟨vb, voff, none⟩ m vc vs (by rw [hvl, hzs]; congr 1; simp only [Nat.min_def]; split <;> omega)
      (fun j v hj => by rw [Addr.add_lit, hWc]; exact hOv _ v (hvs j v hj))
      (fun j hj => by rw [hWc]; exact setCells_cell hb0 [] 0 _ (by omega)) (fun j hj => by rw [hWf]; exact row_frozen hb0 hnf' _) h1v
  have hGn : n + m ≤ G := by rw [hG]; exact grownCap_ge w _ _ _
  have hG63 : G ≤ 9223372036854775807 := by
    have := grownCap_le_maxLen w (n + m) c 45 (by unfold maxLen; omega)
    rw [← hG] at this
    unfold maxLen at this
    omega
  have hGi : ¬ (G = i) := by omega
  have hGim : ¬ (G = i + m) := by omega
  have hci : ¬ (c = i) := by omega
  have hbN : b ≠ w.heap.size := by omega
  have hdl : (cs.drop (i * 2)).length = (n - i) * 2 := by rw [List.length_drop, hcl]; omega
  have hcpB : ∀ (W : World), (∀ x, W.cell? x = (W1.setCells w.heap.size (i * 2) vs).cell? x) → (∀ x, W.frozen? x = (W1.setCells w.heap.size (i * 2) vs).frozen? x) → ∀ ty dc sc, (Builtin.copy_ #[31, 31] ty #[.slice (some ⟨w.heap.size, (i + m) * 2, none⟩) (n + m - (i + m)) dc, .slice (some ⟨b, off + i * 2, none⟩) (n - i) sc]).run Try.prog W = .ok (goInt (Nat.min (n - i) (n + m - (i + m)))) (W.setCells w.heap.size ((i + m) * 2) (cs.drop (i * 2))) := fun W hWc hWf ty dc sc =>
    run_copy_any W 31 31 ty 45 i0 Try.underlying31 hi0 w.heap.size ((i + m) * 2) (n + m - (i + m)) dc ⟨b, off + i * 2, none⟩ (n - i) sc (cs.drop (i * 2)) (by rw [hdl, hzs]; congr 1; simp only [Nat.min_def]; split <;> omega)
      (fun j v hj => by
        rw [Addr.add_lit, hWc, World.cell?_setCells_out _ _ _ _ _ (fun h _ => absurd h hbN), Nat.add_assoc]
        exact hOb _ v (hcs (i * 2 + j) v (by rwa [List.getElem?_drop] at hj)))
      (fun j hj => by rw [hWc]; exact setCells_cell hb0 _ _ _ (by omega))
      (fun j hj => by rw [hWf]; exact setCells_frozen hb0 hnf' _ _ _) (fun v hv => h1c v (List.mem_of_mem_drop hv))
  subst hW1
  have hE1 : ∀ x, ((w.alloc (.cells ROW 45)).drew).cell? x = (w.drew.alloc (.cells ROW 45)).cell? x := fun x => rfl
  have hE2 : ∀ x, ((w.alloc (.cells ROW 45)).drew).frozen? x = (w.drew.alloc (.cells ROW 45)).frozen? x := fun x => rfl
  have hF1 : ∀ x, (((w.alloc (.cells ROW 45)).drew.setCells w.heap.size (i * 2) vs).drew).cell? x = ((w.drew.alloc (.cells ROW 45)).setCells w.heap.size (i * 2) vs).cell? x := fun x => rfl
  have hF2 : ∀ x, (((w.alloc (.cells ROW 45)).drew.setCells w.heap.size (i * 2) vs).drew).frozen? x = ((w.drew.alloc (.cells ROW 45)).setCells w.heap.size (i * 2) vs).frozen? x := fun x => rfl
  have hw1 : IntKind.i64.wrap ((i : Int) + (m : Int)) = (i : Int) + (m : Int) := by rw [IntKind.wrap_i64]; omega
  have hb1 : (0 : Int) ≤ (i : Int) + (m : Int) := by omega
  have hin : i ≤ n := by omega
  have htn : ((i : Int) + (m : Int)).toNat = i + m := by omega
  have hb3 : (i : Int) ≤ (n : Int) := by omega
  clear hkk hik hold hROW hG hRl hb0 hnf hnf'
  go_enter Try.func53, Try.ntmps53
  go_wp2_with (first
    | (at_builtin; refine Lib.wpList_append_run _ rfl _ _ _ _ rfl _ _ rfl rfl _ _ (hrz _) ?_)
    | (at_builtin; refine wpList_copy_runI _ rfl _ _ 31 31 rfl _ _ rfl rfl (hcpA _ hE1 hE2 _ _) ?_)
    | (at_builtin; refine wpList_copy_runI _ rfl _ _ 31 31 rfl _ _ rfl rfl (hcpB _ (fun _ => rfl) (fun _ => rfl) _ _ _) ?_))
  go_region_law_o (refine step_copy_runI rfl _ _ 31 31 rfl (.slice (some ⟨w.heap.size, (i + m) * 2, none⟩) (n + m - (i + m)) (G - (i + m))) (.slice (some ⟨b, off + i * 2, none⟩) (n - i) (c - i)) (by simp [Act.eval, Act.put]) (by simp [Act.eval, Act.put]) (hcpB _ hF1 hF2 3 (G - (i + m)) (c - i)) ?_)
  go_wp2
  go_ret
  exact ⟨rfl, rfl⟩

set_option maxHeartbeats 1000000 in
theorem insSpec_claim : InsSpec Try.prog 53 45 2 16 := by
  intro base n c i vb voff m vc cs vs VC ve vfr w C fr hi hm hnc hbig hc63 hcl hvl hnil hsome hvb hvfit hvs hvfr h1c h1v
  have vcell : ∀ j v, vs[j]? = some v → w.cell? ⟨vb, voff + j, none⟩ = some v := by
    intro j v hv
    rw [row_cell hvb]
    rw [hvs, List.getElem?_take, List.getElem?_drop] at hv
    split at hv
    · simpa using hv
    · cases hv
  have vshape : w.shape? vb = some (ve, VC.length) := by unfold World.shape?; rw [hvb]; simp
  have vfrz : ∀ k, w.frozen? ⟨vb, k, none⟩ = false := by
    intro k
    unfold World.frozen?; rw [hvb]
    have := hvfr k
    simp only [Bool.and_eq_false_iff, decide_eq_false_iff_not]
    by_cases h1 : vfr.1 ≤ k
    · exact .inr (fun h2 => this ⟨h1, h2⟩)
    · exact .inl h1
  have gcap : ∀ c0, n + m ≤ grownCap w (n + m) c0 45 ∧ grownCap w (n + m) c0 45 ≤ 9223372036854775807 := fun c0 => ⟨grownCap_ge w _ _ _, grownCap_le_maxLen w _ _ _ (by unfold maxLen; omega)⟩
  cases base with
  | none =>
    obtain ⟨rfl, rfl⟩ := hnil rfl
    obtain rfl : i = 0 := by omega
    obtain rfl : cs = [] := List.eq_nil_of_length_eq_zero (by simpa using hcl)
    refine (claim_end_grow none 0 0 vb voff m vc [] vs w hm (Nat.le_refl _) (by omega) (by omega) rfl hvl (fun _ => rfl) (fun a h => by cases h) vcell h1v).mono ?_
    rintro x w' ⟨rfl, rfl⟩
    refine ⟨⟨rfl, rfl, rfl⟩, ?_⟩
    rw [if_neg (by omega)]
    refine ⟨_, (Builtin.zeroCells (Value.agg #[.int .i64 0, .int .u32 0]).cells (grownCap w (0 + m) 0 45 - (0 + m))).toList, (gcap 0).1, (gcap 0).2, rfl, by simp [Builtin.zeroCells, Value.cells], ?_⟩
    show w.heap.push _ = _
    congr 2
    apply Array.ext'; simp
  | some p =>
    obtain ⟨b, off⟩ := p
    obtain ⟨hb, hfit, hcs, hroomC⟩ := hsome b off rfl
    have ccell : ∀ j v, cs[j]? = some v → w.cell? ⟨b, off + j, none⟩ = some v := by
      intro j v hv
      rw [row_cell hb]
      rw [hcs, List.getElem?_take, List.getElem?_drop] at hv
      split at hv
      · simpa using hv
      · cases hv
    have cget : ∀ j, j < n * 2 → cs[j]? = C.toList[off + j]? := by
      intro j hj
      rw [hcs, List.getElem?_take, if_pos hj, List.getElem?_drop]
    simp only [Option.map_some]
    by_cases hroom : n + m ≤ c
    · obtain ⟨hne, hfr⟩ := hroomC hroom
      have bfrz : ∀ k, w.frozen? ⟨b, k, none⟩ = false := by
        intro k
        unfold World.frozen?; rw [hb]
        have := hfr k
        simp only [Bool.and_eq_false_iff, decide_eq_false_iff_not]
        by_cases h1 : fr.1 ≤ k
        · exact .inr (fun h2 => this ⟨h1, h2⟩)
        · exact .inl h1
      have some_ : ∀ k, k < C.size → (w.cell? ⟨b, k, none⟩).isSome = true := by
        intro k hk; rw [row_cell hb, Array.getElem?_eq_getElem hk]; rfl
      by_cases hin : i = n
      · subst hin
        refine (claim_end_room b off i c vb voff m vc vs w hm hroom hvl (fun j hj => some_ _ (by omega)) (fun j _ => bfrz _) vcell h1v).mono ?_
        rintro x w' ⟨rfl, rfl⟩
        obtain ⟨C', q1, q2, q3, q4, q5⟩ := setCells_heap vs (off + i * 2) w C hb
        refine ⟨setCells_env _ _ _ w, ?_⟩
        rw [if_pos hroom]
        refine ⟨b, off, rfl, rfl, q4, q5, C', q1, q3, ?_⟩
        rw [q2]
        apply List.ext_getElem?
        intro k
        have hCl : C.toList.length = C.size := Array.length_toList
        rw [setRow_getI _ _ _ _ (by omega), setRow_getI _ _ _ _ (by simp [hcl, hvl]; omega)]
        have hpl : (cs.take (i * 2) ++ vs ++ cs.drop (i * 2)).length = (i + m) * 2 := by simp [hcl, hvl]; omega
        rw [hpl]
        by_cases h1 : off ≤ k ∧ k < off + (i + m) * 2
        · rw [if_pos h1, getElem?_pieces _ _ _ _ (by omega)]
          by_cases h2 : k - off < i * 2
          · rw [if_pos h2, if_neg (by omega), cget _ h2]; congr 1; omega
          · rw [if_neg h2, if_pos (by omega), if_pos (by omega)]; congr 1; omega
        · rw [if_neg h1, if_neg (by omega)]
      · refine (claim_shift b off n c i vb voff m vc cs vs w C 45 fr VC.toArray ve vfr (by omega) hm hroom hc63 hne hcl hvl hb hfit hfr hvb hvfr ccell vcell h1c h1v).mono ?_
        rintro x w' ⟨rfl, rfl⟩
        have hbd : w.drew.heap[b]? = some (.cells C 45 fr) := hb
        obtain ⟨C1, q1, q2, q3, q4, q5⟩ := setCells_heap (cs.drop (i * 2)) (off + (i + m) * 2) w.drew C hbd
        obtain ⟨C', r1, r2, r3, r4, r5⟩ := setCells_heap vs (off + i * 2) (w.drew.setCells b (off + (i + m) * 2) (cs.drop (i * 2))) C1 q1
        refine ⟨SameEnv.trans (SameEnv.trans ⟨rfl, rfl, rfl⟩ (setCells_env (cs.drop (i * 2)) b (off + (i + m) * 2) w.drew)) (setCells_env vs b (off + i * 2) _), ?_⟩
        rw [if_pos hroom]
        refine ⟨b, off, rfl, rfl, by rw [r4, q4]; rfl, fun k hk => by rw [r5 k hk, q5 k hk]; rfl, C', r1, by rw [r3, q3], ?_⟩
        rw [r2, q2]
        apply List.ext_getElem?
        intro k
        have hCl : C.toList.length = C.size := Array.length_toList
        have hdl : (cs.drop (i * 2)).length = (n - i) * 2 := by simp [hcl]; omega
        rw [setRow_getI _ _ _ _ (by rw [setRow_length]; omega), setRow_getI _ _ _ _ (by omega), setRow_getI _ _ _ _ (by simp [hcl, hvl]; omega)]
        have hpl : (cs.take (i * 2) ++ vs ++ cs.drop (i * 2)).length = (n + m) * 2 := by simp [hcl, hvl]; omega
        rw [hpl, hdl, hvl, List.getElem?_drop]
        by_cases h1 : off ≤ k ∧ k < off + (n + m) * 2
        · rw [if_pos h1, getElem?_pieces _ _ _ _ (by omega)]
          by_cases h2 : k - off < i * 2
          · rw [if_pos h2, if_neg (by omega), if_neg (by omega), cget _ (by omega)]; congr 1; omega
          · rw [if_neg h2]
            by_cases h3 : k - off < i * 2 + vs.length
            · rw [if_pos h3, if_pos (by omega)]; congr 1; omega
            · rw [if_neg h3, if_neg (by omega), if_pos (by omega)]; congr 1; omega
        · rw [if_neg h1, if_neg (by omega), if_neg (by omega)]
    · by_cases hin : i = n
      · subst hin
        refine (claim_end_grow (some ⟨b, off, none⟩) i c vb voff m vc cs vs w hm hnc (by omega) hbig hcl hvl (fun h => by cases h) (fun a h j v hv => by cases h; rw [Go.WideShapes.add_plain]; exact ccell j v hv) vcell h1v).mono ?_
        rintro x w' ⟨rfl, rfl⟩
        refine ⟨⟨rfl, rfl, rfl⟩, ?_⟩
        rw [if_neg hroom]
        refine ⟨_, (Builtin.zeroCells (Value.agg #[.int .i64 0, .int .u32 0]).cells (grownCap w (i + m) c 45 - (i + m))).toList, (gcap c).1, (gcap c).2, rfl, by simp [Builtin.zeroCells, Value.cells], ?_⟩
        show w.heap.push _ = _
        congr 2
        apply Array.ext'
        rw [List.take_of_length_le (by omega), List.drop_of_length_le (by omega)]
        simp
      · refine (claim_grow b off n c i vb voff m vc cs vs w (by omega) hm hnc (by omega) hbig hcl hvl ccell vcell h1c h1v).mono ?_
        rintro x w' ⟨rfl, rfl⟩
        have z1 : ∀ k, (Builtin.zeroCells (Value.agg #[.int .i64 0, .int .u32 0]).cells k).toList.length = k * 2 := fun k => by simp [Builtin.zeroCells, Value.cells]
        have hb0 : ((w.alloc (.cells ((cs.take (i * 2)).toArray ++ Builtin.zeroCells (Value.agg #[.int .i64 0, .int .u32 0]).cells (n + m - i) ++ Builtin.zeroCells (Value.agg #[.int .i64 0, .int .u32 0]).cells (grownCap w (n + m) c 45 - (n + m))) 45)).drew).heap[w.heap.size]? = some (.cells ((cs.take (i * 2)).toArray ++ Builtin.zeroCells (Value.agg #[.int .i64 0, .int .u32 0]).cells (n + m - i) ++ Builtin.zeroCells (Value.agg #[.int .i64 0, .int .u32 0]).cells (grownCap w (n + m) c 45 - (n + m))) 45 (0, 0)) := by
          show (w.heap.push _)[w.heap.size]? = _
          simp
        obtain ⟨C1, q1, q2, q3, q4, q5⟩ := setCells_heap vs (i * 2) _ _ hb0
        obtain ⟨C', r1, r2, r3, r4, r5⟩ := setCells_heap (cs.drop (i * 2)) ((i + m) * 2) (((w.alloc (.cells ((cs.take (i * 2)).toArray ++ Builtin.zeroCells (Value.agg #[.int .i64 0, .int .u32 0]).cells (n + m - i) ++ Builtin.zeroCells (Value.agg #[.int .i64 0, .int .u32 0]).cells (grownCap w (n + m) c 45 - (n + m))) 45)).drew.setCells w.heap.size (i * 2) vs).drew) C1 q1
        refine ⟨SameEnv.trans (SameEnv.trans (b := ((w.alloc (.cells ((cs.take (i * 2)).toArray ++ Builtin.zeroCells (Value.agg #[.int .i64 0, .int .u32 0]).cells (n + m - i) ++ Builtin.zeroCells (Value.agg #[.int .i64 0, .int .u32 0]).cells (grownCap w (n + m) c 45 - (n + m))) 45)).drew.setCells w.heap.size (i * 2) vs)) (SameEnv.trans (b := (w.alloc (.cells ((cs.take (i * 2)).toArray ++ Builtin.zeroCells (Value.agg #[.int .i64 0, .int .u32 0]).cells (n + m - i) ++ Builtin.zeroCells (Value.agg #[.int .i64 0, .int .u32 0]).cells (grownCap w (n + m) c 45 - (n + m))) 45)).drew) ⟨rfl, rfl, rfl⟩ (setCells_env _ _ _ _)) ⟨rfl, rfl, rfl⟩) (setCells_env _ _ _ _), ?_⟩
        rw [if_neg hroom]
        refine ⟨_, (Builtin.zeroCells (Value.agg #[.int .i64 0, .int .u32 0]).cells (grownCap w (n + m) c 45 - (n + m))).toList, (gcap c).1, (gcap c).2, rfl, z1 _, ?_⟩
        apply Array.ext_getElem?
        intro k
        rw [Array.getElem?_push]
        by_cases hk : k = w.heap.size
        · subst hk
          rw [if_pos rfl, r1]
          congr 2
          apply Array.ext'
          rw [r2, q2]
          apply List.ext_getElem?
          intro k
          simp only [Array.toList_append]
          have zl := z1 (n + m - i)
          have zl2 := z1 (grownCap w (n + m) c 45 - (n + m))
          have tl : (cs.take (i * 2)).length = i * 2 := by simp [hcl]; omega
          have dl : (cs.drop (i * 2)).length = (n - i) * 2 := by simp [hcl]; omega
          rw [setRow_getI _ _ _ _ (by rw [setRow_length]; simp only [List.length_append, tl, zl, zl2, dl]; omega), setRow_getI _ _ _ _ (by simp only [List.length_append, tl, zl, zl2]; omega)]
          rw [dl, hvl]
          generalize (Builtin.zeroCells (Value.agg #[.int .i64 0, .int .u32 0]).cells (grownCap w (n + m) c 45 - (n + m))).toList = Z2 at *
          generalize (Builtin.zeroCells (Value.agg #[.int .i64 0, .int .u32 0]).cells (n + m - i)).toList = Z1 at *
          rw [List.getElem?_append (l₁ := cs.take (i * 2) ++ vs ++ cs.drop (i * 2)), List.getElem?_append (l₁ := cs.take (i * 2) ++ Z1)]
          have hpl : (cs.take (i * 2) ++ vs ++ cs.drop (i * 2)).length = (n + m) * 2 := by simp [hcl, hvl]; omega
          rw [hpl, getElem?_pieces _ _ _ _ (by omega)]
          have e1 : (cs.take (i * 2) ++ Z1).length = (n + m) * 2 := by simp only [List.length_append, tl, zl]; omega
          rw [e1, List.getElem?_append, tl, List.getElem?_take, List.getElem?_drop]
          by_cases h1 : k < i * 2
          · rw [if_neg (by omega), if_neg (by omega), if_pos (by omega), if_pos h1, if_pos h1, if_pos (by omega), if_pos h1]
          · by_cases h2 : k < (i + m) * 2
            · rw [if_neg (by omega), if_pos (by omega), if_pos (by omega), if_neg h1, if_pos (by omega)]
            · by_cases h3 : k < (n + m) * 2
              · rw [if_pos (by omega), if_pos h3, if_neg h1, if_neg (by omega)]; congr 1; omega
              · rw [if_neg (by omega), if_neg (by omega), if_neg h3, if_neg h3]
        · rw [if_neg hk, r5 k hk]
          show (((w.alloc _).drew).setCells w.heap.size (i * 2) vs).heap[k]? = _
          rw [q5 k hk]
          show (w.heap.push _)[k]? = _
          rw [Array.getElem?_push, if_neg hk]

end Go.AM
