/- Walks of this claim's functions, and plain laws. -/
import Derived.Test.YtnkbdbopiancmaaWa
import Derived.Test.YtnkbdbopiancmaaAMLift
import Derived.Test.YtnkbdbopiancmaaAMBfs2
import Derived.Test.YtnkbdbopiancmaaAMBfs3
set_option linter.unusedSimpArgs false
set_option linter.unusedVariables false
namespace Go.Proofs.Ytnkbdbopiancmaa
open Go.AM
set_option maxRecDepth 8000
theorem b13_GR7 : type_of% (And.intro (@List.map_toArray.{0,0}) (And.intro (@AM.alK_some) (And.intro (@al_26) (And.intro (@AM.boxK_agg) (And.intro (@AM.boxK_bool) (And.intro (@AM.boxK_func) (And.intro (@AM.boxK_int) (And.intro (@AM.boxK_map) (And.intro (@AM.boxK_pointer) (And.intro (@AM.boxK_slice) (And.intro (@AM.boxK_string) (And.intro (AM.bsW_int bs_26) (And.intro (AM.bsW_nil bs_26) (And.intro (AM.bsW_slice bs_26) (And.intro (AM.bsW_string bs_26) (And.intro (@AM.iaO_ok) (And.intro (AM.ia_slice el_26) (And.intro (@AM.ldO_agg) (And.intro (@AM.ldO_one) (And.intro (@AM.ld_ptr) (And.intro (@lk_24) (And.intro (@lk_26) (And.intro (@AM.op_alloc) (And.intro (@AM.op_box) (And.intro (@AM.op_buildSlice) (And.intro (@AM.op_call) (And.intro (@AM.op_indexAddr) (And.intro (@AM.op_load) (And.intro (@AM.op_makeFunc) (And.intro (@AM.op_store) (And.intro (@AM.op_unOp) (And.intro (@AM.stO_agg) (And.intro (@AM.stO_bool) (And.intro (@AM.stO_int) (And.intro (@AM.stO_map) (And.intro (@AM.stO_pointer) (And.intro (@AM.stO_slice) (And.intro (@AM.stO_string) (And.intro (@AM.st_ptr) (And.intro (@sz_26) (And.intro (@sz_3) (And.intro (@AM.un_neg) (@AM.un_not))))))))))))))))))))))))))))))))))))))))))) := And.intro (@List.map_toArray.{0,0}) (And.intro (@AM.alK_some) (And.intro (@al_26) (And.intro (@AM.boxK_agg) (And.intro (@AM.boxK_bool) (And.intro (@AM.boxK_func) (And.intro (@AM.boxK_int) (And.intro (@AM.boxK_map) (And.intro (@AM.boxK_pointer) (And.intro (@AM.boxK_slice) (And.intro (@AM.boxK_string) (And.intro (AM.bsW_int bs_26) (And.intro (AM.bsW_nil bs_26) (And.intro (AM.bsW_slice bs_26) (And.intro (AM.bsW_string bs_26) (And.intro (@AM.iaO_ok) (And.intro (AM.ia_slice el_26) (And.intro (@AM.ldO_agg) (And.intro (@AM.ldO_one) (And.intro (@AM.ld_ptr) (And.intro (@lk_24) (And.intro (@lk_26) (And.intro (@AM.op_alloc) (And.intro (@AM.op_box) (And.intro (@AM.op_buildSlice) (And.intro (@AM.op_call) (And.intro (@AM.op_indexAddr) (And.intro (@AM.op_load) (And.intro (@AM.op_makeFunc) (And.intro (@AM.op_store) (And.intro (@AM.op_unOp) (And.intro (@AM.stO_agg) (And.intro (@AM.stO_bool) (And.intro (@AM.stO_int) (And.intro (@AM.stO_map) (And.intro (@AM.stO_pointer) (And.intro (@AM.stO_slice) (And.intro (@AM.stO_string) (And.intro (@AM.st_ptr) (And.intro (@sz_26) (And.intro (@sz_3) (And.intro (@AM.un_neg) (@AM.un_not))))))))))))))))))))))))))))))))))))))))))
theorem b12_GR7 : type_of% (And.intro (@AM.bin_add) (And.intro (@AM.bin_geq) (And.intro (@AM.bin_lss) (And.intro (AM.bsW_int bs_26) (And.intro (AM.bsW_nil bs_26) (And.intro (AM.bsW_slice bs_26) (And.intro (AM.bsW_string bs_26) (And.intro (@AM.iaO_ok) (And.intro (AM.ia_slice el_26) (And.intro (@AM.ldO_agg) (And.intro (@AM.ldO_one) (And.intro (@AM.ld_ptr) (And.intro (AM.len_slice ul_26) (And.intro (@lk_3) (And.intro (@AM.op_append) (And.intro (@AM.op_binOp) (And.intro (@AM.op_buildSlice) (And.intro (@AM.op_call) (And.intro (@AM.op_indexAddr) (And.intro (@AM.op_len) (@AM.op_load))))))))))))))))))))) := And.intro (@AM.bin_add) (And.intro (@AM.bin_geq) (And.intro (@AM.bin_lss) (And.intro (AM.bsW_int bs_26) (And.intro (AM.bsW_nil bs_26) (And.intro (AM.bsW_slice bs_26) (And.intro (AM.bsW_string bs_26) (And.intro (@AM.iaO_ok) (And.intro (AM.ia_slice el_26) (And.intro (@AM.ldO_agg) (And.intro (@AM.ldO_one) (And.intro (@AM.ld_ptr) (And.intro (AM.len_slice ul_26) (And.intro (@lk_3) (And.intro (@AM.op_append) (And.intro (@AM.op_binOp) (And.intro (@AM.op_buildSlice) (And.intro (@AM.op_call) (And.intro (@AM.op_indexAddr) (And.intro (@AM.op_len) (@AM.op_load))))))))))))))))))))


theorem outsI_dom {n : Nat} {E : Nat → Nat → Bool} : ∀ b : Int, 0 ≤ b ∧ b < n → ∀ c ∈ outsI n E b, 0 ≤ c ∧ c < n := by
  intro b hb c hc
  rw [mem_outsI] at hc
  unfold eI at hc
  simp only [Bool.and_eq_true, decide_eq_true_eq] at hc
  exact hc.1.2
theorem mem_innI {n : Nat} {E : Nat → Nat → Bool} {a b : Int} : b ∈ innI n E a ↔ eI n E b a = true := by
  unfold innI eI
  by_cases ha : 0 ≤ a ∧ a < n
  · rw [if_pos ha, mem_outs]
    simp only [Bool.and_eq_true, decide_eq_true_eq]
    exact ⟨fun q => ⟨⟨q.1, ha⟩, q.2⟩, fun q => ⟨q.1.1, q.2⟩⟩
  · rw [if_neg ha, decide_eq_false (fun q => ha q.2), Bool.false_and]
    simp
theorem innI_dom {n : Nat} {E : Nat → Nat → Bool} : ∀ b : Int, 0 ≤ b ∧ b < n → ∀ c ∈ innI n E b, 0 ≤ c ∧ c < n := by
  intro b hb c hc
  rw [mem_innI] at hc
  unfold eI at hc
  simp only [Bool.and_eq_true, decide_eq_true_eq] at hc
  exact hc.1.1
/-- The distances from a node. -/
def dI (n : Nat) (E : Nat → Nat → Bool) (a : Int) : List Int := if 0 ≤ a ∧ a < n then distL n (bfs (outsI n E) n a) else []

set_option maxHeartbeats 4000000 in
theorem grDist_w {h : AHeap} {p n : Nat} {E : Nat → Nat → Bool} {S : Nat → Prop} (x : Gt h p n E S) (hn : n ≤ 1024) (hl : h.low ≤ h.next) (a : Int) {Q : VQ}
    (hq : ∀ v h', Ow h' 3 1 v (dI n E a).length ((dI n E a).map (.int .i64)) → Fr none' h h' → (∀ id, idOf v id → h.next ≤ id) → Q v h') : W 13 [pv p, .int .i64 a] h Q := by
  unfold dI at hq
  refine AM.enter hp (fn := Try.f13) (rs := [.tmp 4]) (nt := 28) (by kernel_rfl) Try.func13 rfl rfl rfl (by kernel_rfl) ?_
  (first | (simp (maxSteps := 1000000) (disch := first | omega | (simp only [AM.DB, List.length_set, List.length_map]; first | done | omega)) only [AM.RB, Nat.reduceAdd, Nat.reduceMul, Nat.reduceEqDiff, reduceCtorEq, b13_GR7]) | skip)
  generalize hE_ : AHeap.alloc h _ = h1; obtain ⟨g1, fr1, n1, l1⟩ := AM.new_get hE_; clear hE_
  (first | (simp (maxSteps := 1000000) (disch := first | omega | (simp only [AM.DB, List.length_set, List.length_map]; first | done | omega)) only [AM.RB, Nat.reduceAdd, Nat.reduceMul, Nat.reduceEqDiff, reduceCtorEq, b13_GR7, g1]) | skip)
  have x1 := x.fr0 fr1
  refine grNode_w x1 a ?_
  by_cases ha : 0 ≤ a ∧ a < n
  case neg =>
    have d0 : decide (0 ≤ a ∧ a < n) = false := decide_eq_false ha
    rw [if_neg ha] at hq
    (first | (simp (maxSteps := 1000000) (disch := first | omega | (simp only [AM.DB, List.length_set, List.length_map]; first | done | omega)) only [AM.RB, Nat.reduceAdd, Nat.reduceMul, Nat.reduceEqDiff, reduceCtorEq, b13_GR7, d0]) | skip)
    exact hq _ _ (Ow.nil _ _ _) fr1 (fun _ q => q.elim)
  have d0 : decide (0 ≤ a ∧ a < n) = true := decide_eq_true ha
  rw [if_pos ha, distL_len] at hq
  (first | (simp (maxSteps := 1000000) (disch := first | omega | (simp only [AM.DB, List.length_set, List.length_map]; first | done | omega)) only [AM.RB, Nat.reduceAdd, Nat.reduceMul, Nat.reduceEqDiff, reduceCtorEq, b13_GR7, d0, g1]) | skip)
  generalize hE_ : AHeap.alloc h1 _ = h2; obtain ⟨g2, fr2, n2, l2⟩ := AM.new_get hE_; clear hE_
  have g12 := g1.fr0 fr2
  have x2 := x1.fr0 fr2
  have hl2 : h2.low ≤ h2.next := by omega
  refine grLen_w x2 ?_
  (first | (simp (maxSteps := 1000000) (disch := first | omega | (simp only [AM.DB, List.length_set, List.length_map]; first | done | omega)) only [AM.RB, Nat.reduceAdd, Nat.reduceMul, Nat.reduceEqDiff, reduceCtorEq, b13_GR7]) | skip)
  refine grRep_w (AM.Rd.whole (n := 1) g2 rfl) (by omega) hl2 fun v3 h3 o3 fr3 hid3 => ?_
  obtain ⟨va, vc, rfl⟩ := o3.form
  have x3 := x2.fr0 fr3
  have g13 := g12.fr0 fr3
  have n3 := fr3.next
  have w3 := fr3.low
  (first | (simp (maxSteps := 1000000) (disch := first | omega | (simp only [AM.DB, List.length_set, List.length_map]; first | done | omega)) only [AM.RB, Nat.reduceAdd, Nat.reduceMul, Nat.reduceEqDiff, reduceCtorEq, b13_GR7, g13]) | skip)
  generalize hE_ : AHeap.put (AHeap.alloc h3 _) _ _ = h4; obtain ⟨g4, fr4, n4, l4⟩ := AM.box_get hE_ (by omega); clear hE_
  have x4 := x3.fr0 fr4
  have g14 := g13.fr0 fr4
  have o4 := o3.fr0 fr4
  have hl4 : h4.low ≤ h4.next := by omega
  refine grLen_w x4 ?_
  (first | (simp (maxSteps := 1000000) (disch := first | omega | (simp only [AM.DB, List.length_set, List.length_map]; first | done | omega)) only [AM.RB, Nat.reduceAdd, Nat.reduceMul, Nat.reduceEqDiff, reduceCtorEq, b13_GR7]) | skip)
  refine grWalk_w fun h5 k1 k2 ⟨e3, k3⟩ fr5 n5 l5 => ?_
  have x5 := x4.fr0 fr5
  have g15 := g14.fr0 fr5
  have o5 := o4.fr0 fr5
  have g45 := g4.fr0 fr5
  have hl5 : h5.low ≤ h5.next := by omega
  (first | (simp (maxSteps := 1000000) (disch := first | omega | (simp only [AM.DB, List.length_set, List.length_map]; first | done | omega)) only [AM.RB, Nat.reduceAdd, Nat.reduceMul, Nat.reduceEqDiff, reduceCtorEq, b13_GR7]) | skip)
  have fr05 : Fr none' h h5 := (((fr1.trans fr2).trans fr3).trans fr4).trans fr5
  have vlt : ∀ id, idOf (.slice va n vc) id → h2.next ≤ id ∧ id < h3.next := fun id q => ⟨hid3 id q, o3.lt q⟩
  have bsp := bfs_spec (N := outsI n E) outsI_dom ha.1 ha.2
  let core : Nat → AHeap → Prop := fun k h' => Fr none' h h' ∧ h'.get h3.next = some (.cells [.slice va n vc] 26 false) ∧ Ow h' 3 1 (.slice va n vc) n ((distL n ((bfs (outsI n E) n a).take k)).map (.int .i64))
  have hRlt : ∀ id, (id = h.next ∨ S id) → id < h5.next := fun id q => by
    rcases q with rfl | q
    · exact AM.get_some_lt g15
    · exact x5.lt q
  refine AM.range_iter hp (R := fun id => id = h4.next ∨ id = h4.next + 1 ∨ id = h4.next + 2 ∨ (id = h.next ∨ S id)) (xs := (bfs (outsI n E) n a).map encQ) (AM.entersV_of Try.func44 rfl) (by kernel_rfl) (by kernel_rfl) ?_ ?_ hl5 ?_
    (fun k => AM.Core h5.next (core k)) (fun _ _ _ => False) ?_ (fun _ => AM.Stab.no) (fun env x => (((env.set 21 (x.getD 0 undef)).set 22 (x.getD 1 undef)).set 6 (x.getD 0 undef)).set 7 (x.getD 1 undef)) ?_ ?_ ?_ ?_ ?_
  · intro y hy; obtain ⟨q, _, rfl⟩ := List.mem_map.1 hy; rfl
  · rintro id (rfl | rfl | rfl | q)
    · omega
    · omega
    · omega
    · exact hRlt id q
  · exact walk1_w k1 k2 k3 ha hn outsI_dom (fun b _ => by have := outsI_len n E b; omega) hRlt (nextOut x5 g15) hl5
  · intro k
    refine AM.Core.stab ?_
    rintro b c hb ⟨c1, c2, c3⟩ fr
    refine ⟨c1.then fr fun id h1 h2 => ?_, fr.get c2 (by omega), c3.fr fr fun id h1 h2 => ?_⟩
    · have := fr05.next; omega
    · have := vlt id h1; omega
  · intro y hy h6
    obtain ⟨q, _, rfl⟩ := List.mem_map.1 hy
    simp (maxSteps := 1000000) (disch := first | omega | (simp only [AM.DB, List.length_set, List.length_map]; first | done | omega)) only [AM.RB, Nat.reduceAdd, Nat.reduceMul, Nat.reduceEqDiff, reduceCtorEq, b13_GR7]
  · intro o
    have fr6 : Fr none' h5 (h5.alloc o) := (Fr.refl _ _).alloc _
    refine ⟨⟨Nat.le_succ _, fun id e => by omega⟩, fr05.trans fr6, g45.fr0 fr6, ?_⟩
    have := o5.fr0 fr6
    simpa [distL] using this
  · rintro k y A h6 hy ⟨⟨c0, c0'⟩, c1, c2, c3⟩ hA hL6 hlow6 hR6
    rw [List.getElem?_map] at hy
    obtain ⟨q, hq', rfl⟩ := Option.map_eq_some_iff.1 hy
    have hqd := bsp.2.1 q (List.mem_of_getElem? hq')
    (first | (simp (maxSteps := 1000000) (disch := first | omega | (simp only [AM.DB, List.length_set, List.length_map]; first | done | omega)) only [AM.RB, Nat.reduceAdd, Nat.reduceMul, Nat.reduceEqDiff, reduceCtorEq, b13_GR7, c2, c3.ia el_26]) | skip)
    refine c3.st sz_3 (j := q.1.toNat) (by omega) rfl rfl fun h7 c7 fr7 n7 => ?_
    rw [← List.map_set] at c7
    have htk : (bfs (outsI n E) n a).take (k + 1) = (bfs (outsI n E) n a).take k ++ [q] := by rw [List.take_add_one, hq']; rfl
    (first | (simp (maxSteps := 1000000) (disch := first | omega | (simp only [AM.DB, List.length_set, List.length_map]; first | done | omega)) only [AM.RB, Nat.reduceAdd, Nat.reduceMul, Nat.reduceEqDiff, reduceCtorEq, b13_GR7]) | skip)
    have n1' := fr1.next
    refine ⟨by omega, fr7.low, fun id i1 i2 => fr7.old id i1 fun i3 => ?_, ⟨by omega, c0'⟩, c1.then fr7 fun id i1 i2 => ?_, fr7.get c2 fun i3 => ?_, ?_⟩
    · have i4 := vlt id i3
      rcases i2 with i2 | rfl | rfl | rfl | rfl | i2
      · have := c0' id i2; omega
      · omega
      · omega
      · omega
      · omega
      · have := x.lt i2; omega
    · have := vlt id i2; omega
    · have := vlt _ i3; omega
    · rw [htk, distL_snoc]; exact c7
  · rintro A h' ⟨_, c1, c2, c3⟩ hA hnx hlw'
    rw [List.length_map, List.take_length] at c3
    (first | (simp (maxSteps := 1000000) (disch := first | omega | (simp only [AM.DB, List.length_set, List.length_map]; first | done | omega)) only [AM.RB, Nat.reduceAdd, Nat.reduceMul, Nat.reduceEqDiff, reduceCtorEq, b13_GR7, c2]) | skip)
    exact hq _ _ c3 c1 fun id q => by have := vlt id q; omega
  · intro _ _ _ q; exact q.elim

theorem dI_len (n : Nat) (E : Nat → Nat → Bool) (a : Int) : (dI n E a).length ≤ n := by unfold dI; split; rw [distL_len]; exact Nat.le_refl _; simp
/-- Those that are reached. -/
def reachP (l : List Int) (k : Nat) : List Int := ((List.range k).map Int.ofNat).filter fun b => decide (0 ≤ l.getD b.toNat 0)
theorem reachP_succ (l : List Int) (k : Nat) : reachP l (k + 1) = reachP l k ++ if 0 ≤ l.getD k 0 then [(k : Int)] else [] := by
  unfold reachP
  rw [List.range_succ, List.map_append, List.filter_append]
  by_cases h : 0 ≤ l.getD k 0
  · rw [if_pos h]; simp only [List.map_cons, List.map_nil]; rw [List.filter_cons_of_pos (by simpa using h)]; rfl
  · rw [if_neg h]; simp only [List.map_cons, List.map_nil]; rw [List.filter_cons_of_neg (by simpa using h)]; rfl
theorem reachP_len (l : List Int) (k : Nat) : (reachP l k).length ≤ k := by
  have := List.length_filter_le (fun b : Int => decide (0 ≤ l.getD b.toNat 0)) ((List.range k).map Int.ofNat)
  simpa [reachP] using this
theorem grReach_w {h : AHeap} {p n : Nat} {E : Nat → Nat → Bool} {S : Nat → Prop} (x : Gt h p n E S) (hn : n ≤ 1024) (hl : h.low ≤ h.next) (a : Int) {Q : VQ}
    (hq : ∀ v h', Ow h' 3 1 v (reachP (dI n E a) (dI n E a).length).length ((reachP (dI n E a) (dI n E a).length).map (.int .i64)) → Fr none' h h' → (∀ id, idOf v id → h.next ≤ id) → Q v h') : W 12 [pv p, .int .i64 a] h Q := by
  refine AM.enter hp (fn := Try.f12) (rs := [.tmp 4]) (nt := 25) (by kernel_rfl) Try.func12 rfl rfl rfl (by kernel_rfl) ?_
  (first | (simp (maxSteps := 1000000) (disch := first | omega | (simp only [AM.DB, List.length_set, List.length_map]; first | done | omega)) only [AM.RB, Nat.reduceAdd, Nat.reduceMul, Nat.reduceEqDiff, reduceCtorEq, b12_GR7]) | skip)
  refine grDist_w x hn hl a fun v1 h1 o1 fr1 hid1 => ?_
  have hdl := dI_len n E a
  generalize dI n E a = D at *
  obtain ⟨va, vc, rfl⟩ := o1.form
  have hl1 := fr1.hl hl
  (first | (simp (maxSteps := 1000000) (disch := first | omega | (simp only [AM.DB, List.length_set, List.length_map]; first | done | omega)) only [AM.RB, Nat.reduceAdd, Nat.reduceMul, Nat.reduceEqDiff, reduceCtorEq, b12_GR7]) | skip)
  refine AM.loop_w hp 25 (fun q : Nat × Value => [(5, q.2), (10, .slice va D.length vc), (11, .int .i64 D.length), (12, .int .i64 q.1)])
    (fun q h' => q.1 ≤ D.length ∧ Ow h' 3 1 q.2 (reachP D q.1).length ((reachP D q.1).map (.int .i64)) ∧ Fr none' h1 h' ∧ ∀ id, idOf q.2 id → h1.next ≤ id) (fun q => D.length - q.1) (by kernel_rfl) (0, .slice none 0 0) ?_ ?_ ?_
  · simp (maxSteps := 1000000) (disch := first | omega | (simp only [AM.DB, List.length_set, List.length_map]; first | done | omega)) only [AM.RB, Nat.reduceAdd, Nat.reduceMul, Nat.reduceEqDiff, reduceCtorEq, b12_GR7]
    first | rfl | skip
  · exact ⟨Nat.zero_le _, Ow.nil _ _ _, Fr.refl _ _, fun _ q => q.elim⟩
  rintro ⟨i, v⟩ h2 ρ ⟨hi, o2, fr2, hid2⟩
  simp only at hi o2 hid2
  obtain ⟨wa, wc, rfl⟩ := o2.form
  have rs := reachP_succ D i
  have rl := reachP_len D i
  have hl2 := fr2.hl hl1
  have o12 := (o1.fr0 fr2).rd
  (first | (simp (maxSteps := 1000000) (disch := first | omega | (simp only [AM.DB, List.length_set, List.length_map]; first | done | omega)) only [AM.RB, Nat.reduceAdd, Nat.reduceMul, Nat.reduceEqDiff, reduceCtorEq, b12_GR7]) | skip)
  refine AM.condV_split (fun hlt => ?_) (fun hlt => ?_)
  · by_cases hd : 0 ≤ D.getD i 0
    · have dd : decide (0 ≤ D.getD i 0) = true := decide_eq_true hd
      rw [if_pos hd] at rs
      (first | (simp (maxSteps := 1000000) (disch := first | omega | (simp only [AM.DB, List.length_set, List.length_map]; first | done | omega)) only [AM.RB, Nat.reduceAdd, Nat.reduceMul, Nat.reduceEqDiff, reduceCtorEq, b12_GR7, o12.ia el_26, o12.ldi lk_3, Int.toNat_natCast, dd]) | skip)
      generalize hE_ : AHeap.alloc h2 _ = h3; obtain ⟨g3, fr3, n3, l3⟩ := AM.new_get hE_; clear hE_
      refine AM.appends_w ap_26 ap_26 (o2.fr0 fr3) (AM.Rd.whole (n := 1) (c := [.int .i64 (i : Int)]) g3 rfl) rfl (by omega) (AM.fits (by omega) (by omega)) (AM.fits' (by omega)) fun v4 h4 o4 fr4 hid4 => ?_
      have n2 := fr2.next
      (first | (simp (maxSteps := 1000000) (disch := first | omega | (simp only [AM.DB, List.length_set, List.length_map]; first | done | omega)) only [AM.RB, Nat.reduceAdd, Nat.reduceMul, Nat.reduceEqDiff, reduceCtorEq, b12_GR7, AM.wrap_i64]) | skip)
      refine ⟨(i + 1, v4), by simp only; omega, ?_, by simp only; omega, ?_, (fr2.trans fr3).fresh fr4 (fun id q => hid2 id q), fun id q => (hid4 id q).elim (hid2 id) (fun q => by omega)⟩
      · simp (maxSteps := 1000000) (disch := first | omega | (simp only [AM.DB, List.length_set, List.length_map]; first | done | omega)) only [AM.RB, Nat.reduceAdd, Nat.reduceMul, Nat.reduceEqDiff, reduceCtorEq, b12_GR7]
        first | rfl | skip
      · simp only
        rw [rs]
        simpa using o4
    · have dd : decide (0 ≤ D.getD i 0) = false := decide_eq_false hd
      rw [if_neg hd, List.append_nil] at rs
      (first | (simp (maxSteps := 1000000) (disch := first | omega | (simp only [AM.DB, List.length_set, List.length_map]; first | done | omega)) only [AM.RB, Nat.reduceAdd, Nat.reduceMul, Nat.reduceEqDiff, reduceCtorEq, b12_GR7, o12.ia el_26, o12.ldi lk_3, Int.toNat_natCast, dd, AM.wrap_i64]) | skip)
      refine ⟨(i + 1, _), by simp only; omega, ?_, by simp only; omega, ?_, fr2, hid2⟩
      · simp (maxSteps := 1000000) (disch := first | omega | (simp only [AM.DB, List.length_set, List.length_map]; first | done | omega)) only [AM.RB, Nat.reduceAdd, Nat.reduceMul, Nat.reduceEqDiff, reduceCtorEq, b12_GR7]
        first | rfl | skip
      · simp only
        rw [rs]; exact o2
  · obtain rfl : i = D.length := by omega
    (first | (simp (maxSteps := 1000000) (disch := first | omega | (simp only [AM.DB, List.length_set, List.length_map]; first | done | omega)) only [AM.RB, Nat.reduceAdd, Nat.reduceMul, Nat.reduceEqDiff, reduceCtorEq, b12_GR7]) | skip)
    exact hq _ _ o2 (fr1.trans fr2) fun id q => by have := hid2 id q; have := fr1.next; omega
end Go.Proofs.Ytnkbdbopiancmaa

namespace Go.Proofs.Ytnkbdbopiancmaa
open Go.AM
set_option maxRecDepth 8000
theorem b16_GR8 : type_of% (And.intro (@List.map_toArray.{0,0}) (And.intro (@AM.alK_some) (And.intro (@al_26) (And.intro (@al_3) (And.intro (@AM.bin_add) (And.intro (@AM.bin_geq) (And.intro (@AM.bin_lss) (And.intro (@AM.boxK_agg) (And.intro (@AM.boxK_bool) (And.intro (@AM.boxK_func) (And.intro (@AM.boxK_int) (And.intro (@AM.boxK_map) (And.intro (@AM.boxK_pointer) (And.intro (@AM.boxK_slice) (And.intro (@AM.boxK_string) (And.intro (AM.bsW_int bs_26) (And.intro (AM.bsW_nil bs_26) (And.intro (AM.bsW_slice bs_26) (And.intro (AM.bsW_string bs_26) (And.intro (@AM.iaO_ok) (And.intro (AM.ia_slice el_26) (And.intro (@AM.ldO_agg) (And.intro (@AM.ldO_one) (And.intro (@AM.ld_ptr) (And.intro (AM.len_slice ul_26) (And.intro (@lk_24) (And.intro (@lk_26) (And.intro (@lk_3) (And.intro (@AM.op_alloc) (And.intro (@AM.op_binOp) (And.intro (@AM.op_box) (And.intro (@AM.op_buildSlice) (And.intro (@AM.op_call) (And.intro (@AM.op_indexAddr) (And.intro (@AM.op_len) (And.intro (@AM.op_load) (And.intro (@AM.op_makeFunc) (And.intro (@AM.op_store) (And.intro (@AM.stO_agg) (And.intro (@AM.stO_bool) (And.intro (@AM.stO_int) (And.intro (@AM.stO_map) (And.intro (@AM.stO_pointer) (And.intro (@AM.stO_slice) (And.intro (@AM.stO_string) (And.intro (@AM.st_ptr) (And.intro (@sz_26) (@sz_3)))))))))))))))))))))))))))))))))))))))))))))))) := And.intro (@List.map_toArray.{0,0}) (And.intro (@AM.alK_some) (And.intro (@al_26) (And.intro (@al_3) (And.intro (@AM.bin_add) (And.intro (@AM.bin_geq) (And.intro (@AM.bin_lss) (And.intro (@AM.boxK_agg) (And.intro (@AM.boxK_bool) (And.intro (@AM.boxK_func) (And.intro (@AM.boxK_int) (And.intro (@AM.boxK_map) (And.intro (@AM.boxK_pointer) (And.intro (@AM.boxK_slice) (And.intro (@AM.boxK_string) (And.intro (AM.bsW_int bs_26) (And.intro (AM.bsW_nil bs_26) (And.intro (AM.bsW_slice bs_26) (And.intro (AM.bsW_string bs_26) (And.intro (@AM.iaO_ok) (And.intro (AM.ia_slice el_26) (And.intro (@AM.ldO_agg) (And.intro (@AM.ldO_one) (And.intro (@AM.ld_ptr) (And.intro (AM.len_slice ul_26) (And.intro (@lk_24) (And.intro (@lk_26) (And.intro (@lk_3) (And.intro (@AM.op_alloc) (And.intro (@AM.op_binOp) (And.intro (@AM.op_box) (And.intro (@AM.op_buildSlice) (And.intro (@AM.op_call) (And.intro (@AM.op_indexAddr) (And.intro (@AM.op_len) (And.intro (@AM.op_load) (And.intro (@AM.op_makeFunc) (And.intro (@AM.op_store) (And.intro (@AM.stO_agg) (And.intro (@AM.stO_bool) (And.intro (@AM.stO_int) (And.intro (@AM.stO_map) (And.intro (@AM.stO_pointer) (And.intro (@AM.stO_slice) (And.intro (@AM.stO_string) (And.intro (@AM.st_ptr) (And.intro (@sz_26) (@sz_3)))))))))))))))))))))))))))))))))))))))))))))))


def mark1 (there : List Int) (part : Int) (o : List Int) (q : Int × Int) : List Int := if 0 ≤ there.getD q.1.toNat 0 then o.set q.1.toNat part else o
def markL (there : List Int) (part : Int) (xs : List (Int × Int)) (out : List Int) : List Int := xs.foldl (mark1 there part) out
theorem mark1_len (there : List Int) (part : Int) (o : List Int) (q : Int × Int) : (mark1 there part o q).length = o.length := by unfold mark1; split <;> simp
theorem markL_len (there : List Int) (part : Int) : ∀ (xs : List (Int × Int)) (o : List Int), (markL there part xs o).length = o.length
  | [], _ => rfl
  | q :: xs, o => by
    show (markL there part xs (mark1 there part o q)).length = _
    rw [markL_len there part xs, mark1_len]
theorem markL_snoc (there : List Int) (part : Int) (xs : List (Int × Int)) (q : Int × Int) (o : List Int) : markL there part (xs ++ [q]) o = mark1 there part (markL there part xs o) q := by unfold markL; rw [List.foldl_append]; rfl
def strongS (n : Nat) (E : Nat → Nat → Bool) : Nat → List Int × Int
  | 0 => (List.replicate n (-1), 0)
  | a + 1 => if 0 ≤ (strongS n E a).1.getD a 0 then strongS n E a else (markL (dI n E a) (strongS n E a).2 (bfs (innI n E) n a) (strongS n E a).1, (strongS n E a).2 + 1)
theorem strongS_len (n : Nat) (E : Nat → Nat → Bool) : ∀ a, (strongS n E a).1.length = n ∧ 0 ≤ (strongS n E a).2 ∧ (strongS n E a).2 ≤ a
  | 0 => ⟨by simp [strongS], by simp [strongS], by simp [strongS]⟩
  | a + 1 => by
    obtain ⟨h1, h2, h3⟩ := strongS_len n E a
    unfold strongS
    split
    · exact ⟨h1, h2, by omega⟩
    · exact ⟨by simp only; rw [markL_len]; exact h1, by simp only; omega, by simp only; omega⟩
abbrev strongL (n : Nat) (E : Nat → Nat → Bool) : List Int := (strongS n E n).1

set_option maxHeartbeats 4000000 in
theorem grStrong_w {h : AHeap} {p n : Nat} {E : Nat → Nat → Bool} {S : Nat → Prop} (x : Gt h p n E S) (hn : n ≤ 1024) (hl : h.low ≤ h.next) {Q : VQ}
    (hq : ∀ v h', Ow h' 3 1 v n ((strongL n E).map (.int .i64)) → Fr none' h h' → (∀ id, idOf v id → h.next ≤ id) → Q v h') : W 16 [pv p] h Q := by
  refine AM.enter hp (fn := Try.f16) (rs := [.tmp 2]) (nt := 47) (by kernel_rfl) Try.func16 rfl rfl rfl (by kernel_rfl) ?_
  (first | (simp (maxSteps := 1000000) (disch := first | omega | (simp only [AM.DB, List.length_set, List.length_map]; first | done | omega)) only [AM.RB, Nat.reduceAdd, Nat.reduceMul, Nat.reduceEqDiff, reduceCtorEq, b16_GR8]) | skip)
  generalize hE_ : AHeap.alloc (AHeap.alloc h _) _ = h2
  have g1 : h2.get h.next = some (.cells [pv p] 24 false) := by rw [← hE_, AM.get_alloc_ne (by simp), AM.get_alloc_self rfl]
  have g2 : h2.get (h.next + 1) = some (.cells [.int .i64 (-1)] 3 false) := by rw [← hE_, AM.get_alloc_self (by simp)]
  have fr2 : Fr none' h h2 := by rw [← hE_]; exact ((Fr.refl _ _).alloc _).alloc _
  have n2 : h2.next = h.next + 2 := by rw [← hE_]; rfl
  have l2 : h2.low = h.low := by rw [← hE_]; rfl
  clear hE_
  have x2 := x.fr0 fr2
  have hl2 : h2.low ≤ h2.next := by omega
  refine grLen_w x2 ?_
  (first | (simp (maxSteps := 1000000) (disch := first | omega | (simp only [AM.DB, List.length_set, List.length_map]; first | done | omega)) only [AM.RB, Nat.reduceAdd, Nat.reduceMul, Nat.reduceEqDiff, reduceCtorEq, b16_GR8]) | skip)
  refine grRep_w (AM.Rd.whole (n := 1) g2 rfl) (by omega) hl2 fun v3 h3 o3 fr3 hid3 => ?_
  obtain ⟨va, vc, rfl⟩ := o3.form
  have x3 := x2.fr0 fr3
  have g13 := g1.fr0 fr3
  have n3 := fr3.next
  have w3 := fr3.low
  (first | (simp (maxSteps := 1000000) (disch := first | omega | (simp only [AM.DB, List.length_set, List.length_map]; first | done | omega)) only [AM.RB, Nat.reduceAdd, Nat.reduceMul, Nat.reduceEqDiff, reduceCtorEq, b16_GR8, g13]) | skip)
  generalize hE_ : AHeap.put (AHeap.alloc (AHeap.put (AHeap.alloc h3 _) _ _) _) _ _ = h4
  have g4 : h4.get h3.next = some (.cells [.slice va n vc] 26 false) := by
    rw [← hE_, AM.get_put_ne (by simp), AM.get_alloc_ne (by simp), AM.get_put_self rfl (by simp)]
  have g5 : h4.get (h3.next + 1) = some (.cells [.int .i64 0] 3 false) := by
    rw [← hE_, AM.get_put_self rfl (by simp)]
  have fr4 : Fr none' h3 h4 := by
    rw [← hE_]
    exact ((((Fr.refl _ _).alloc _).put _ (.inl (Nat.le_refl _))).alloc _).put _ (.inl (Nat.le_succ _))
  have n4 : h4.next = h3.next + 2 := by rw [← hE_]; rfl
  have l4 : h4.low = h3.low := by rw [← hE_]; rfl
  clear hE_
  have vlt : ∀ id, idOf (.slice va n vc) id → h2.next ≤ id ∧ id < h3.next := fun id q => ⟨hid3 id q, o3.lt q⟩
  have fr04 := (fr2.trans fr3).trans fr4
  refine AM.loop_w hp 47 (fun i : Nat => [(1, pv h.next), (3, pv h3.next), (4, .func (.func 39) #[] #[pv h.next]), (5, pv (h3.next + 1)), (15, .int .i64 n), (16, .int .i64 i)])
    (fun i h' => i ≤ n ∧ Fr none' h h' ∧ h'.get h.next = some (.cells [pv p] 24 false) ∧ h'.get h3.next = some (.cells [.slice va n vc] 26 false) ∧ h'.get (h3.next + 1) = some (.cells [.int .i64 (strongS n E i).2] 3 false) ∧
      Ow h' 3 1 (.slice va n vc) n ((strongS n E i).1.map (.int .i64))) (fun i => n - i) (by kernel_rfl) 0 ?_ ?_ ?_
  · simp (maxSteps := 1000000) (disch := first | omega | (simp only [AM.DB, List.length_set, List.length_map]; first | done | omega)) only [AM.RB, Nat.reduceAdd, Nat.reduceMul, Nat.reduceEqDiff, reduceCtorEq, b16_GR8]
    first | rfl | skip
  · exact ⟨Nat.zero_le _, fr04, (g13.fr0 fr4), g4, g5, (o3.fr0 fr4)⟩
  rintro i h1 ρ ⟨hi, fr1, k1, k3, k5, o1⟩
  obtain ⟨sl, s0, sp⟩ := strongS_len n E i
  have lt1 := AM.get_some_lt k5
  have hl1 := fr1.hl hl
  have x1 := x.fr0 fr1
  have w1 := fr1.low
  have hfin : i = n → strongL n E = (strongS n E i).1 := fun e => by rw [e]
  have hst : strongS n E (i + 1) = if 0 ≤ (strongS n E i).1.getD i 0 then strongS n E i else (markL (dI n E i) (strongS n E i).2 (bfs (innI n E) n i) (strongS n E i).1, (strongS n E i).2 + 1) := rfl
  generalize strongS n E i = st at *
  obtain ⟨out, part⟩ := st
  simp only at k5 o1 sl s0 sp hst
  have r1 := o1.rd
  (first | (simp (maxSteps := 1000000) (disch := first | omega | (simp only [AM.DB, List.length_set, List.length_map]; first | done | omega)) only [AM.RB, Nat.reduceAdd, Nat.reduceMul, Nat.reduceEqDiff, reduceCtorEq, b16_GR8]) | skip)
  refine AM.condV_split (fun hlt => ?_) (fun hlt => ?_)
  case' refine_2 =>
    obtain rfl : i = n := by omega
    (first | (simp (maxSteps := 1000000) (disch := first | omega | (simp only [AM.DB, List.length_set, List.length_map]; first | done | omega)) only [AM.RB, Nat.reduceAdd, Nat.reduceMul, Nat.reduceEqDiff, reduceCtorEq, b16_GR8, k3]) | skip)
    have e := hfin rfl
    simp only at e
    rw [e] at hq
    exact hq _ _ o1 fr1 fun id q => by have := vlt id q; omega
  by_cases hd : 0 ≤ out.getD i 0
  · have dd : decide (0 ≤ out.getD i 0) = true := decide_eq_true hd
    rw [if_pos hd] at hst
    (first | (simp (maxSteps := 1000000) (disch := first | omega | (simp only [AM.DB, List.length_set, List.length_map]; first | done | omega)) only [AM.RB, Nat.reduceAdd, Nat.reduceMul, Nat.reduceEqDiff, reduceCtorEq, b16_GR8, k3, r1.ia el_26, r1.ldi lk_3, Int.toNat_natCast, dd, AM.wrap_i64]) | skip)
    refine ⟨i + 1, by omega, ?_, by omega, fr1, k1, by rw [hst]; exact k5, by rw [hst]; exact o1⟩
    simp (maxSteps := 1000000) (disch := first | omega | (simp only [AM.DB, List.length_set, List.length_map]; first | done | omega)) only [AM.RB, Nat.reduceAdd, Nat.reduceMul, Nat.reduceEqDiff, reduceCtorEq, b16_GR8]
    first | rfl | skip
  have dd : decide (0 ≤ out.getD i 0) = false := decide_eq_false hd
  rw [if_neg hd] at hst
  (first | (simp (maxSteps := 1000000) (disch := first | omega | (simp only [AM.DB, List.length_set, List.length_map]; first | done | omega)) only [AM.RB, Nat.reduceAdd, Nat.reduceMul, Nat.reduceEqDiff, reduceCtorEq, b16_GR8, k3, r1.ia el_26, r1.ldi lk_3, Int.toNat_natCast, dd, k1]) | skip)
  refine grDist_w x1 hn hl1 i fun v5 h5 o5 fr5 hid5 => ?_
  have dl : (dI n E i).length = n := by unfold dI; rw [if_pos (by omega), distL_len]
  rw [dl] at o5
  obtain ⟨wa, wc, rfl⟩ := o5.form
  have n5 := fr5.next
  have w5 := fr5.low
  have k15 := k1.fr0 fr5
  (first | (simp (maxSteps := 1000000) (disch := first | omega | (simp only [AM.DB, List.length_set, List.length_map]; first | done | omega)) only [AM.RB, Nat.reduceAdd, Nat.reduceMul, Nat.reduceEqDiff, reduceCtorEq, b16_GR8, k15]) | skip)
  generalize hE_ : AHeap.put (AHeap.alloc h5 _) _ _ = h6; obtain ⟨g6, fr6, n6, l6⟩ := AM.box_get hE_ (by omega); clear hE_
  have k16 := k15.fr0 fr6
  have x6 := (x1.fr0 fr5).fr0 fr6
  have hl6 : h6.low ≤ h6.next := by omega
  refine grLen_w x6 ?_
  (first | (simp (maxSteps := 1000000) (disch := first | omega | (simp only [AM.DB, List.length_set, List.length_map]; first | done | omega)) only [AM.RB, Nat.reduceAdd, Nat.reduceMul, Nat.reduceEqDiff, reduceCtorEq, b16_GR8]) | skip)
  refine grWalk_w fun h7 c1 c2 ⟨e3, c3⟩ fr7 n7 l7 => ?_
  have fr17 := (fr5.trans fr6).trans fr7
  have hl7 := fr17.hl hl1
  have x7 := x6.fr0 fr7
  have k17 := k16.fr0 fr7
  (first | (simp (maxSteps := 1000000) (disch := first | omega | (simp only [AM.DB, List.length_set, List.length_map]; first | done | omega)) only [AM.RB, Nat.reduceAdd, Nat.reduceMul, Nat.reduceEqDiff, reduceCtorEq, b16_GR8]) | skip)
  have hai : 0 ≤ (i : Int) ∧ (i : Int) < n := by omega
  have bsp := bfs_spec (N := innI n E) innI_dom hai.1 hai.2
  have dlt : ∀ id, idOf (.slice wa n wc) id → h1.next ≤ id ∧ id < h5.next := fun id q => ⟨hid5 id q, o5.lt q⟩
  let core : Nat → AHeap → Prop := fun k h' => Fr none' h h' ∧ h'.get h.next = some (.cells [pv p] 24 false) ∧ h'.get h3.next = some (.cells [.slice va n vc] 26 false) ∧ h'.get (h3.next + 1) = some (.cells [.int .i64 part] 3 false) ∧ h'.get h5.next = some (.cells [.slice wa n wc] 26 false) ∧
    Rd h' 3 1 (.slice wa n wc) n ((dI n E i).map (.int .i64)) ∧ Ow h' 3 1 (.slice va n vc) n ((markL (dI n E i) part ((bfs (innI n E) n i).take k) out).map (.int .i64))
  have hRlt : ∀ id, (id = h.next ∨ S id) → id < h7.next := fun id q => by
    rcases q with rfl | q
    · exact AM.get_some_lt k17
    · exact x7.lt q
  refine AM.range_iter hp (R := fun id => id = h6.next ∨ id = h6.next + 1 ∨ id = h6.next + 2 ∨ (id = h.next ∨ S id)) (xs := (bfs (innI n E) n i).map encQ) (AM.entersV_of Try.func44 rfl) (by kernel_rfl) (by kernel_rfl) ?_ ?_ hl7 ?_
    (fun k => AM.Core h7.next (core k)) (fun _ _ _ => False) ?_ (fun _ => AM.Stab.no) (fun env x => (((env.set 32 (x.getD 0 undef)).set 33 (x.getD 1 undef)).set 8 (x.getD 0 undef))) ?_ ?_ ?_ ?_ ?_
  · intro y hy; obtain ⟨q, _, rfl⟩ := List.mem_map.1 hy; rfl
  · rintro id (rfl | rfl | rfl | q)
    · omega
    · omega
    · omega
    · exact hRlt id q
  · exact walk1_w c1 c2 c3 hai hn innI_dom (fun b _ => by have := innI_len n E b; omega) hRlt (nextIn x7 k17) hl7
  · intro k
    refine AM.Core.stab ?_
    rintro b c hb ⟨c1, c2, c3, c4, c5, c6, c7⟩ fr
    refine ⟨c1.then fr fun id h1 h2 => ?_, fr.get c2 (by omega), fr.get c3 (by omega), fr.get c4 (by omega), fr.get c5 (by omega), c6.fr fr fun id h1 h2 => ?_, c7.fr fr fun id h1 h2 => ?_⟩
    · have := (fr1.trans fr17).next; omega
    · have := dlt id h1; omega
    · have := vlt id h1; omega
  · intro y hy h8
    obtain ⟨q, _, rfl⟩ := List.mem_map.1 hy
    simp (maxSteps := 1000000) (disch := first | omega | (simp only [AM.DB, List.length_set, List.length_map]; first | done | omega)) only [AM.RB, Nat.reduceAdd, Nat.reduceMul, Nat.reduceEqDiff, reduceCtorEq, b16_GR8]
  · intro o
    have fr8 : Fr none' h7 (h7.alloc o) := (Fr.refl _ _).alloc _
    refine ⟨⟨Nat.le_succ _, fun id e => by omega⟩, (fr1.trans fr17).trans fr8, k17.fr0 fr8, (k3.fr0 fr17).fr0 fr8, (k5.fr0 fr17).fr0 fr8, (g6.fr0 fr7).fr0 fr8, (((o5.fr0 fr6).fr0 fr7).fr0 fr8).rd, ?_⟩
    simpa [markL] using (o1.fr0 fr17).fr0 fr8
  · rintro k y A h8 hy ⟨⟨c0, c0'⟩, c1, c2, c3, c4, c5, c6, c7⟩ hA hL8 hlow8 hR8
    rw [List.getElem?_map] at hy
    obtain ⟨q, hq', rfl⟩ := Option.map_eq_some_iff.1 hy
    have hqd := bsp.2.1 q (List.mem_of_getElem? hq')
    have htk : (bfs (innI n E) n i).take (k + 1) = (bfs (innI n E) n i).take k ++ [q] := by rw [List.take_add_one, hq']; rfl
    have hmk : markL (dI n E i) part ((bfs (innI n E) n i).take (k + 1)) out = mark1 (dI n E i) part (markL (dI n E i) part ((bfs (innI n E) n i).take k) out) q := by rw [htk, markL_snoc]
    unfold mark1 at hmk
    have n1' := fr1.next
    by_cases ht : 0 ≤ (dI n E i).getD q.1.toNat 0
    · have dt : decide (0 ≤ (dI n E i).getD q.1.toNat 0) = true := decide_eq_true ht
      rw [if_pos ht] at hmk
      (first | (simp (maxSteps := 1000000) (disch := first | omega | (simp only [AM.DB, List.length_set, List.length_map]; first | done | omega)) only [AM.RB, Nat.reduceAdd, Nat.reduceMul, Nat.reduceEqDiff, reduceCtorEq, b16_GR8, c5, c3, c4, c6.ia el_26, c6.ldi lk_3, c7.ia el_26, dt]) | skip)
      refine c7.st sz_3 (j := q.1.toNat) (by omega) rfl rfl fun h9 c9 fr9 n9 => ?_
      rw [← List.map_set] at c9
      (first | (simp (maxSteps := 1000000) (disch := first | omega | (simp only [AM.DB, List.length_set, List.length_map]; first | done | omega)) only [AM.RB, Nat.reduceAdd, Nat.reduceMul, Nat.reduceEqDiff, reduceCtorEq, b16_GR8]) | skip)
      refine ⟨by omega, fr9.low, fun id i1 i2 => fr9.old id i1 fun i3 => ?_, ⟨by omega, c0'⟩, c1.then fr9 fun id i1 i2 => ?_, fr9.get c2 fun i3 => ?_, fr9.get c3 fun i3 => ?_, fr9.get c4 fun i3 => ?_, fr9.get c5 fun i3 => ?_, c6.fr fr9 fun id i1 i2 => ?_, ?_⟩
      · have i4 := vlt id i3
        rcases i2 with i2 | rfl | rfl | rfl | rfl | i2
        · have := c0' id i2; omega
        · omega
        · omega
        · omega
        · omega
        · have := x.lt i2; omega
      · have := vlt id i2; omega
      · have := vlt _ i3; omega
      · have := vlt _ i3; omega
      · have := vlt _ i3; omega
      · have := vlt _ i3; omega
      · have := vlt id i2; have := dlt id i1; omega
      · rw [hmk]; exact c9
    · have dt : decide (0 ≤ (dI n E i).getD q.1.toNat 0) = false := decide_eq_false ht
      rw [if_neg ht] at hmk
      (first | (simp (maxSteps := 1000000) (disch := first | omega | (simp only [AM.DB, List.length_set, List.length_map]; first | done | omega)) only [AM.RB, Nat.reduceAdd, Nat.reduceMul, Nat.reduceEqDiff, reduceCtorEq, b16_GR8, c5, c3, c4, c6.ia el_26, c6.ldi lk_3, dt]) | skip)
      exact ⟨Nat.le_refl _, fun _ _ _ => trivial, ⟨c0, c0'⟩, c1, c2, c3, c4, c5, c6, by rw [hmk]; exact c7⟩
  · rintro A hZ ⟨_, c1, c2, c3, c4, c5, c6, c7⟩ hA hnx hlw'
    rw [List.length_map, List.take_length] at c7
    have ltq := AM.get_some_lt c4
    have lwq := c1.low
    (first | (simp (maxSteps := 1000000) (disch := first | omega | (simp only [AM.DB, List.length_set, List.length_map]; first | done | omega)) only [AM.RB, Nat.reduceAdd, Nat.reduceMul, Nat.reduceEqDiff, reduceCtorEq, b16_GR8, c4, AM.wrap_i64]) | skip)
    generalize hE_ : AHeap.put hZ _ _ = h9; obtain ⟨g9, fr9, n9, l9⟩ := AM.put_get hE_ (by omega); clear hE_
    refine ⟨i + 1, by omega, congrArg _ (by omega), by omega, c1.then fr9 fun id i1 i2 => ?_, c2, c3, by rw [hst], ?_⟩
    · omega
    · rw [hst]; exact c7.fr fr9 fun id i1 i2 => by have := vlt id i1; omega
  · intro _ _ _ q; exact q.elim
end Go.Proofs.Ytnkbdbopiancmaa

namespace Go.AM
variable {P : Program}
/-- 'append(nil, make(n)...)'. -/
theorem appz_w {h : AHeap} {t t' e : TypeId} {b : Nat} {z : List Value} {q k : IntKind} {n : Nat} {K : VQ} (hm : mkI P t = some (e, b, z)) (hz1 : z.all (·.oneCell') = true) (hu : P.underlying t' = some (.int q)) (h0 : 0 < n) (h1 : n ≤ 4000000) (h2 : b ≤ 256)
    (hq : K (.slice (some ⟨h.next, 0, none⟩) n n) (h.alloc (.cells (repeated z n) e true))) : optR ((aNews P h #[t, t'] (.int k n)).bind fun r => aAppend P h t (.slice none 0 0) r.1 r.2.1 r.2.2) K := by
  unfold mkI at hm
  split at hm
  · rename_i e' ht
    obtain ⟨i, hi, hm⟩ := Option.bind_eq_some_iff.1 hm
    obtain ⟨zz, hz, hm⟩ := Option.bind_eq_some_iff.1 hm
    split at hm
    · rename_i hc
      cases hm
      have hf : n * (i.bytes + 1) ≤ roomy := fits (show n ≤ 4000000000 by omega) h2
      have hf' : n ≤ roomy := fits' (show n ≤ 4000000000 by omega)
      have e1 : aNews P h #[t, t'] (.int k n) = some (repeated zz.cells.toList n, n, true) := by
        unfold aNews
        simp only [List.getElem?_toArray, List.getElem?_cons_zero, List.getElem?_cons_succ, Option.bind_some, ht, hi, hu, hz, Int.toNat_natCast]
        rw [if_pos ⟨by omega, by omega, hf, by omega⟩, if_pos ⟨hc.2.1, hc.2.2⟩]
      rw [e1]
      simp only [Option.bind_some]
      have hlen : ∀ m, (repeated zz.cells.toList m).length = m * i.size := fun m => by
        induction m with
        | zero => simp [repeated]
        | succ m ih => unfold repeated; rw [List.length_append, ih, Array.length_toList, hc.2.1, Nat.add_mul]; omega
      have hall : ∀ m, (repeated zz.cells.toList m).all (·.oneCell') = true := fun m => by
        induction m with
        | zero => rfl
        | succ m ih => unfold repeated; rw [List.all_append, ih, hz1]; rfl
      unfold aAppend
      simp only [ht, hi, Option.bind_some]
      rw [if_neg (by simp only [not_or]; exact ⟨by omega, by simp [hlen], by simpa using hf, by simpa using hf', by simp [hall]⟩), if_neg (by omega)]
      simp only [hz, Option.bind_some]
      rw [if_neg (fun q => q.elim (fun q => q hc.2.1) (fun q => by rw [hc.2.2] at q; cases q)), if_pos ⟨trivial, trivial⟩, optR_some]
      exact hq
    · cases hm
  · cases hm
theorem cap_nil {t e : TypeId} (hu : P.underlying t = some (.slice e)) (h : AHeap) (l n : Nat) : aCap P h t (.slice none l n) = some (.int .i64 n) := by unfold aCap; rw [hu]
theorem slc_nil {h : AHeap} {t e : TypeId} {sz : Nat} (he : elI P t = some (e, sz)) (lo hi : Option Value) (p : Nat × Nat × Nat) (hb : aSliceBounds 0 0 lo hi none = some p) (hp : p.2.2 = 0) : aSliceH P h t (.slice none 0 0) lo hi none = some (.slice none 0 0) := by
  unfold elI at he
  cases hu : P.underlying t with
  | none => rw [hu] at he; cases he
  | some u =>
    rw [hu] at he
    cases u with
    | slice e0 =>
      simp only at he
      cases hi' : P.info? e0 with
      | none => rw [hi'] at he; cases he
      | some i =>
        unfold aSliceH aSlice
        simp only [hu, hi', Option.bind_some, hb]
        obtain ⟨a, b, c⟩ := p
        simp only at hp
        subst hp
        rfl
    | _ => cases he
end Go.AM
namespace Go.Proofs.Ytnkbdbopiancmaa
open Go.AM
set_option maxRecDepth 8000
theorem b55_GR9 : type_of% (And.intro (@AM.bin_gtr) (And.intro (@AM.bin_lss) (And.intro (@AM.bin_sub) (And.intro (AM.len_slice ul_26) (And.intro (@AM.op_append) (And.intro (@AM.op_binOp) (And.intro (@AM.op_cap) (And.intro (@AM.op_len) (And.intro (@AM.op_makeInterface) (@AM.op_slice)))))))))) := And.intro (@AM.bin_gtr) (And.intro (@AM.bin_lss) (And.intro (@AM.bin_sub) (And.intro (AM.len_slice ul_26) (And.intro (@AM.op_append) (And.intro (@AM.op_binOp) (And.intro (@AM.op_cap) (And.intro (@AM.op_len) (And.intro (@AM.op_makeInterface) (@AM.op_slice)))))))))
theorem b45_GR9 : type_of% (And.intro (@AM.bin_add) (And.intro (@AM.bin_lss) (And.intro (@AM.iaO_ok) (And.intro (AM.ia_slice el_51) (And.intro (@AM.ldO_agg) (And.intro (@AM.ldO_one) (And.intro (@AM.ld_ptr) (And.intro (AM.len_slice ul_26) (And.intro (AM.len_slice ul_51) (And.intro (@lk_26) (And.intro (@AM.op_append) (And.intro (@AM.op_binOp) (And.intro (@AM.op_call) (And.intro (@AM.op_indexAddr) (And.intro (@AM.op_len) (And.intro (@AM.op_load) (@AM.op_makeInterface))))))))))))))))) := And.intro (@AM.bin_add) (And.intro (@AM.bin_lss) (And.intro (@AM.iaO_ok) (And.intro (AM.ia_slice el_51) (And.intro (@AM.ldO_agg) (And.intro (@AM.ldO_one) (And.intro (@AM.ld_ptr) (And.intro (AM.len_slice ul_26) (And.intro (AM.len_slice ul_51) (And.intro (@lk_26) (And.intro (@AM.op_append) (And.intro (@AM.op_binOp) (And.intro (@AM.op_call) (And.intro (@AM.op_indexAddr) (And.intro (@AM.op_len) (And.intro (@AM.op_load) (@AM.op_makeInterface))))))))))))))))


theorem grGrow_w {h : AHeap} {n : Nat} (hn : n ≤ 4000000) (hl : h.low ≤ h.next) {Q : VQ} (hq : ∀ b c h', Ow h' 3 1 (.slice b 0 c) 0 [] → Fr none' h h' → (∀ id, idOf (.slice b 0 c) id → h.next ≤ id) → Q (.slice b 0 c) h') : W 55 [.slice none 0 0, .int .i64 n] h Q := by
  have d0 : decide ((n : Int) < 0) = false := decide_eq_false (by omega)
  have wz : IntKind.i64.wrap ((0 : Int) - 0) = 0 := rfl
  have wn : IntKind.i64.wrap ((n : Int) - 0) = n := by rw [Int.sub_zero, AM.wrap_i64 (by omega) (by omega)]
  refine AM.enter hp (fn := Try.f55) (rs := [.tmp 4]) (nt := 27) (by kernel_rfl) Try.func55 rfl rfl rfl (by kernel_rfl) ?_
  by_cases hz : n = 0
  · have d1 : decide ((0 : Int) < n) = false := decide_eq_false (by omega)
    (first | (simp (maxSteps := 1000000) (disch := first | omega | (simp only [AM.DB, List.length_set, List.length_map]; first | done | omega)) only [AM.RB, Nat.reduceAdd, Nat.reduceMul, Nat.reduceEqDiff, reduceCtorEq, b55_GR9, d0, AM.cap_nil ul_26, wz, wn, d1]) | skip)
    exact hq _ _ _ (Ow.nil _ _ _) (Fr.refl _ _) (fun _ q => q.elim)
  · have d1 : decide ((0 : Int) < n) = true := decide_eq_true (by omega)
    have sb : AM.aSliceBounds 0 0 none (some (.int .i64 0)) none = some (0, 0, 0) := rfl
    (first | (simp (maxSteps := 1000000) (disch := first | omega | (simp only [AM.DB, List.length_set, List.length_map]; first | done | omega)) only [AM.RB, Nat.reduceAdd, Nat.reduceMul, Nat.reduceEqDiff, reduceCtorEq, b55_GR9, d0, AM.cap_nil ul_26, wz, wn, d1, AM.slc_nil el_26 _ _ _ sb rfl]) | skip)
    refine AM.appz_w mk_26 rfl ul_3 (by omega) hn (by omega) ?_
    rw [AM.repeated_one]
    have g := AM.get_alloc_self (h := h) (o := .cells (List.replicate n (.int .i64 0)) 3 true) rfl
    have t0 : (0 : Int).toNat = 0 := rfl
    (first | (simp (maxSteps := 1000000) (disch := first | omega | (simp only [AM.DB, List.length_set, List.length_map]; first | done | omega)) only [AM.RB, Nat.reduceAdd, Nat.reduceMul, Nat.reduceEqDiff, reduceCtorEq, b55_GR9, AM.slc el_26 g, AM.slbs_hi_i, t0, Nat.sub_zero, Nat.zero_mul, Nat.add_zero]) | skip)
    exact hq _ _ _ (.inr ⟨_, 0, n, _, true, rfl, Nat.zero_le _, g, by simp, by simp, hl⟩) ((Fr.refl _ _).alloc _) (fun id q => by have q : id = h.next := q; omega)

def accL (la lb : List Int) (k : Nat) : List Int := (if 0 < k then la else []) ++ (if 1 < k then lb else [])
theorem grConcat_w {h : AHeap} {s sa sb : Value} {la lb : List Int} (hs : Rd h 26 1 s 2 [sa, sb]) (ha : Rd h 3 1 sa la.length (la.map (.int .i64))) (hb : Rd h 3 1 sb lb.length (lb.map (.int .i64))) (hl : h.low ≤ h.next) (hla : la.length ≤ 1000000) (hlb : lb.length ≤ 1000000) {Q : VQ}
    (hq : ∀ v h', Ow h' 3 1 v (la ++ lb).length ((la ++ lb).map (.int .i64)) → Fr none' h h' → (∀ id, idOf v id → h.next ≤ id) → Q v h') : W 45 [s] h Q := by
  obtain ⟨a, cap, rfl⟩ := hs.form
  obtain ⟨pa, ca, rfl⟩ := ha.form
  obtain ⟨pb, cb, rfl⟩ := hb.form
  have el : ∀ k, k < 2 → ∃ p c l, [Value.slice pa la.length ca, .slice pb lb.length cb][k]? = some (.slice p l.length c) ∧ Rd h 3 1 (.slice p l.length c) l.length (l.map (.int .i64)) ∧ accL la lb (k + 1) = accL la lb k ++ l ∧ l.length ≤ 1000000 := by
    intro k hk
    have hk3 : k = 0 ∨ k = 1 := by omega
    rcases hk3 with rfl | rfl
    · exact ⟨pa, ca, la, rfl, ha, by simp [accL], hla⟩
    · exact ⟨pb, cb, lb, rfl, hb, by simp [accL], hlb⟩
  have lf : ∀ (b : Bool) (l : List Int), (if b = true then l else []).length ≤ l.length := fun b l => by cases b <;> simp
  have al : ∀ k, (accL la lb k).length ≤ 2000000 := fun k => by
    unfold accL; rw [List.length_append]
    have h1 := lf (decide (0 < k)) la
    have h2 := lf (decide (1 < k)) lb
    simp only [decide_eq_true_eq] at h1 h2
    omega
  have a2 : accL la lb 2 = la ++ lb := by simp [accL]
  have e0 : ((accL la lb 0).length : Int) = 0 := by simp [accL]
  refine AM.enter hp (fn := Try.f45) (rs := [.tmp 2]) (nt := 36) (by kernel_rfl) Try.func45 rfl rfl rfl (by kernel_rfl) ?_
  (first | (simp (maxSteps := 1000000) (disch := first | omega | (simp only [AM.DB, List.length_set, List.length_map]; first | done | omega)) only [AM.RB, Nat.reduceAdd, Nat.reduceMul, Nat.reduceEqDiff, reduceCtorEq, b45_GR9]) | skip)
  refine AM.loop_w hp 36 (fun k : Nat => [(0, .slice a 2 cap), (3, .int .i64 (accL la lb k).length), (9, .slice a 2 cap), (10, .int .i64 2), (11, .int .i64 k)])
    (fun k h' => h' = h ∧ k ≤ 2) (fun k => 2 - k) (by kernel_rfl) 0 ?_ ?_ ?_
  · simp (maxSteps := 1000000) (disch := first | omega | (simp only [AM.DB, List.length_set, List.length_map]; first | done | omega)) only [AM.RB, Nat.reduceAdd, Nat.reduceMul, Nat.reduceEqDiff, reduceCtorEq, b45_GR9, e0]
    first | rfl | skip
  · exact ⟨rfl, by omega⟩
  rintro k hh ρ ⟨rfl, hk⟩
  (first | (simp (maxSteps := 1000000) (disch := first | omega | (simp only [AM.DB, List.length_set, List.length_map]; first | done | omega)) only [AM.RB, Nat.reduceAdd, Nat.reduceMul, Nat.reduceEqDiff, reduceCtorEq, b45_GR9]) | skip)
  refine AM.condV_split (fun hlt => ?_) (fun hlt => ?_)
  · obtain ⟨p, c, l, e1, r1, e2, hll⟩ := el k (by omega)
    have hal := al k
    have wk : IntKind.i64.wrap (((accL la lb k).length : Int) + l.length) = (accL la lb (k + 1)).length := by rw [e2, List.length_append, AM.wrap_i64 (by omega) (by omega)]; omega
    have dk : decide (((accL la lb (k + 1)).length : Int) < 0) = false := decide_eq_false (by omega)
    (first | (simp (maxSteps := 1000000) (disch := first | omega | (simp only [AM.DB, List.length_set, List.length_map]; first | done | omega)) only [AM.RB, Nat.reduceAdd, Nat.reduceMul, Nat.reduceEqDiff, reduceCtorEq, b45_GR9, hs.ia el_51, hs.ld lk_26, Int.toNat_natCast, e1, wk, dk, AM.wrap_i64]) | skip)
    refine ⟨k + 1, by omega, ?_, by omega⟩
    simp (maxSteps := 1000000) (disch := first | omega | (simp only [AM.DB, List.length_set, List.length_map]; first | done | omega)) only [AM.RB, Nat.reduceAdd, Nat.reduceMul, Nat.reduceEqDiff, reduceCtorEq, b45_GR9]
    first | rfl | skip
  · obtain rfl : k = 2 := by omega
    rw [a2]
    have hll : (la ++ lb).length ≤ 2000000 := by rw [← a2]; exact al 2
    (first | (simp (maxSteps := 1000000) (disch := first | omega | (simp only [AM.DB, List.length_set, List.length_map]; first | done | omega)) only [AM.RB, Nat.reduceAdd, Nat.reduceMul, Nat.reduceEqDiff, reduceCtorEq, b45_GR9]) | skip)
    refine grGrow_w (by omega) hl fun b0 c0 h0 o0 fr0 hid0 => ?_
    have hl0 := fr0.hl hl
    have l0 : accL la lb 0 = [] := by simp [accL]
    (first | (simp (maxSteps := 1000000) (disch := first | omega | (simp only [AM.DB, List.length_set, List.length_map]; first | done | omega)) only [AM.RB, Nat.reduceAdd, Nat.reduceMul, Nat.reduceEqDiff, reduceCtorEq, b45_GR9]) | skip)
    refine AM.loop_w hp 36 (fun q : Nat × Value => [(6, q.2), (25, .slice a 2 cap), (26, .int .i64 2), (27, .int .i64 q.1)])
      (fun q h' => q.1 ≤ 2 ∧ Ow h' 3 1 q.2 (accL la lb q.1).length ((accL la lb q.1).map (.int .i64)) ∧ Fr none' hh h' ∧ ∀ id, idOf q.2 id → hh.next ≤ id) (fun q => 2 - q.1) (by kernel_rfl) (0, .slice b0 0 c0) ?_ ?_ ?_
    · simp (maxSteps := 1000000) (disch := first | omega | (simp only [AM.DB, List.length_set, List.length_map]; first | done | omega)) only [AM.RB, Nat.reduceAdd, Nat.reduceMul, Nat.reduceEqDiff, reduceCtorEq, b45_GR9]
      first | rfl | skip
    · exact ⟨Nat.zero_le _, by rw [l0]; exact o0, fr0, hid0⟩
    rintro ⟨k, v⟩ h1 ρ1 ⟨hk, o1, fr1, hid1⟩
    simp only at hk o1 hid1
    obtain ⟨vb, vc, rfl⟩ := o1.form
    have hl1 := fr1.hl hl
    have hs1 := hs.fr0 fr1
    (first | (simp (maxSteps := 1000000) (disch := first | omega | (simp only [AM.DB, List.length_set, List.length_map]; first | done | omega)) only [AM.RB, Nat.reduceAdd, Nat.reduceMul, Nat.reduceEqDiff, reduceCtorEq, b45_GR9]) | skip)
    refine AM.condV_split (fun hlt => ?_) (fun hlt => ?_)
    · obtain ⟨p, c, l, e1, r1, e2, hll⟩ := el k (by omega)
      have hal := al k
      (first | (simp (maxSteps := 1000000) (disch := first | omega | (simp only [AM.DB, List.length_set, List.length_map]; first | done | omega)) only [AM.RB, Nat.reduceAdd, Nat.reduceMul, Nat.reduceEqDiff, reduceCtorEq, b45_GR9, hs1.ia el_51, hs1.ld lk_26, Int.toNat_natCast, e1]) | skip)
      refine AM.appends_w ap_26 ap_26 o1 (r1.fr0 fr1) (AM.ints_one _ _) hl1 (AM.fits (by omega) (by omega)) (AM.fits' (by omega)) fun v2 h2 o2 fr2 hid2 => ?_
      have n1 := fr1.next
      (first | (simp (maxSteps := 1000000) (disch := first | omega | (simp only [AM.DB, List.length_set, List.length_map]; first | done | omega)) only [AM.RB, Nat.reduceAdd, Nat.reduceMul, Nat.reduceEqDiff, reduceCtorEq, b45_GR9, AM.wrap_i64]) | skip)
      refine ⟨(k + 1, v2), by simp only; omega, ?_, by simp only; omega, ?_, fr1.fresh fr2 (fun id q => hid1 id q), fun id q => (hid2 id q).elim (hid1 id) (fun q => by omega)⟩
      · simp (maxSteps := 1000000) (disch := first | omega | (simp only [AM.DB, List.length_set, List.length_map]; first | done | omega)) only [AM.RB, Nat.reduceAdd, Nat.reduceMul, Nat.reduceEqDiff, reduceCtorEq, b45_GR9]
        first | rfl | skip
      · simp only
        rw [e2]
        simpa using o2
    · obtain rfl : k = 2 := by omega
      (first | (simp (maxSteps := 1000000) (disch := first | omega | (simp only [AM.DB, List.length_set, List.length_map]; first | done | omega)) only [AM.RB, Nat.reduceAdd, Nat.reduceMul, Nat.reduceEqDiff, reduceCtorEq, b45_GR9]) | skip)
      rw [a2] at o1 hid1 ⊢
      exact hq _ _ o1 fr1 hid1
end Go.Proofs.Ytnkbdbopiancmaa

namespace Go.AM
theorem bsW_sl2 {P : Program} {ty e : TypeId} (hb : bsI P ty = some (e, 1)) (h : AHeap) (K : VQ) (a b : Option Addr) (n m n' m' : Nat) : bsW P ty 2 [(0, .slice a n m), (1, .slice b n' m')] h K = K (.slice (some ⟨h.next, 0, none⟩) 2 2) (h.alloc (.cells [.slice a n m, .slice b n' m'] e false)) := bsW_of hb rfl (by omega) rfl rfl
end Go.AM
namespace Go.Proofs.Ytnkbdbopiancmaa
open Go.AM
set_option maxRecDepth 8000
theorem b48_GR10 : type_of% (And.intro (@AM.bin_add) (And.intro (@AM.bin_lss) (And.intro (@AM.iaO_ok) (And.intro (AM.ia_slice el_26) (And.intro (@AM.ldO_agg) (And.intro (@AM.ldO_one) (And.intro (@AM.ld_ptr) (And.intro (AM.len_slice ul_26) (And.intro (@lk_3) (And.intro (@AM.op_binOp) (And.intro (@AM.op_call) (And.intro (@AM.op_indexAddr) (And.intro (@AM.op_len) (@AM.op_load)))))))))))))) := And.intro (@AM.bin_add) (And.intro (@AM.bin_lss) (And.intro (@AM.iaO_ok) (And.intro (AM.ia_slice el_26) (And.intro (@AM.ldO_agg) (And.intro (@AM.ldO_one) (And.intro (@AM.ld_ptr) (And.intro (AM.len_slice ul_26) (And.intro (@lk_3) (And.intro (@AM.op_binOp) (And.intro (@AM.op_call) (And.intro (@AM.op_indexAddr) (And.intro (@AM.op_len) (@AM.op_load)))))))))))))
theorem b37_GR10 : type_of% (And.intro (@AM.bin_geq) (And.intro (@AM.op_binOp) (@AM.op_call))) := And.intro (@AM.bin_geq) (And.intro (@AM.op_binOp) (@AM.op_call))
theorem b46_GR10 : type_of% (And.intro (@AM.bin_add) (And.intro (@AM.bin_eql) (And.intro (@AM.bin_lss) (And.intro (@AM.iaO_ok) (And.intro (AM.ia_slice el_26) (And.intro (@AM.ldO_agg) (And.intro (@AM.ldO_one) (And.intro (@AM.ld_ptr) (And.intro (AM.len_slice ul_26) (And.intro (@lk_3) (And.intro (@AM.op_binOp) (And.intro (@AM.op_call) (And.intro (@AM.op_clear) (And.intro (@AM.op_indexAddr) (And.intro (@AM.op_len) (And.intro (@AM.op_load) (And.intro (@AM.op_slice) (And.intro (@AM.op_store) (And.intro (@AM.op_unOp) (And.intro (@AM.stO_agg) (And.intro (@AM.stO_bool) (And.intro (@AM.stO_int) (And.intro (@AM.stO_map) (And.intro (@AM.stO_pointer) (And.intro (@AM.stO_slice) (And.intro (@AM.stO_string) (And.intro (@AM.st_ptr) (And.intro (@sz_3) (And.intro (@AM.un_neg) (@AM.un_not)))))))))))))))))))))))))))))) := And.intro (@AM.bin_add) (And.intro (@AM.bin_eql) (And.intro (@AM.bin_lss) (And.intro (@AM.iaO_ok) (And.intro (AM.ia_slice el_26) (And.intro (@AM.ldO_agg) (And.intro (@AM.ldO_one) (And.intro (@AM.ld_ptr) (And.intro (AM.len_slice ul_26) (And.intro (@lk_3) (And.intro (@AM.op_binOp) (And.intro (@AM.op_call) (And.intro (@AM.op_clear) (And.intro (@AM.op_indexAddr) (And.intro (@AM.op_len) (And.intro (@AM.op_load) (And.intro (@AM.op_slice) (And.intro (@AM.op_store) (And.intro (@AM.op_unOp) (And.intro (@AM.stO_agg) (And.intro (@AM.stO_bool) (And.intro (@AM.stO_int) (And.intro (@AM.stO_map) (And.intro (@AM.stO_pointer) (And.intro (@AM.stO_slice) (And.intro (@AM.stO_string) (And.intro (@AM.st_ptr) (And.intro (@sz_3) (And.intro (@AM.un_neg) (@AM.un_not)))))))))))))))))))))))))))))
theorem b47_GR10 : type_of% (And.intro (@AM.bin_eql) (And.intro (@AM.ldO_agg) (And.intro (@AM.ldO_one) (And.intro (@AM.ld_ptr) (And.intro (@lk_3) (And.intro (@AM.op_binOp) (@AM.op_load))))))) := And.intro (@AM.bin_eql) (And.intro (@AM.ldO_agg) (And.intro (@AM.ldO_one) (And.intro (@AM.ld_ptr) (And.intro (@lk_3) (And.intro (@AM.op_binOp) (@AM.op_load))))))
theorem b35_GR10 : type_of% (And.intro (@List.map_toArray.{0,0}) (And.intro (@AM.boxK_agg) (And.intro (@AM.boxK_bool) (And.intro (@AM.boxK_func) (And.intro (@AM.boxK_int) (And.intro (@AM.boxK_map) (And.intro (@AM.boxK_pointer) (And.intro (@AM.boxK_slice) (And.intro (@AM.boxK_string) (And.intro (AM.bsW_int bs_51) (And.intro (AM.bsW_int2 bs_51) (And.intro (AM.bsW_nil bs_51) (And.intro (AM.bsW_slice bs_51) (And.intro (AM.bsW_string bs_51) (And.intro (@AM.fa_ptr) (And.intro (@fd_53_0) (And.intro (@fd_53_1) (And.intro (@AM.iaO_ok) (And.intro (AM.ia_slice el_51) (And.intro (@AM.ldO_agg) (And.intro (@AM.ldO_one) (And.intro (@AM.ld_ptr) (And.intro (@lk_26) (And.intro (@lk_51) (And.intro (@AM.op_box) (And.intro (@AM.op_buildSlice) (And.intro (@AM.op_call) (And.intro (@AM.op_fieldAddr) (And.intro (@AM.op_indexAddr) (And.intro (@AM.op_load) (And.intro (@AM.op_makeFunc) (@AM.op_nilCheck)))))))))))))))))))))))))))))))) := And.intro (@List.map_toArray.{0,0}) (And.intro (@AM.boxK_agg) (And.intro (@AM.boxK_bool) (And.intro (@AM.boxK_func) (And.intro (@AM.boxK_int) (And.intro (@AM.boxK_map) (And.intro (@AM.boxK_pointer) (And.intro (@AM.boxK_slice) (And.intro (@AM.boxK_string) (And.intro (AM.bsW_int bs_51) (And.intro (AM.bsW_int2 bs_51) (And.intro (AM.bsW_nil bs_51) (And.intro (AM.bsW_slice bs_51) (And.intro (AM.bsW_string bs_51) (And.intro (@AM.fa_ptr) (And.intro (@fd_53_0) (And.intro (@fd_53_1) (And.intro (@AM.iaO_ok) (And.intro (AM.ia_slice el_51) (And.intro (@AM.ldO_agg) (And.intro (@AM.ldO_one) (And.intro (@AM.ld_ptr) (And.intro (@lk_26) (And.intro (@lk_51) (And.intro (@AM.op_box) (And.intro (@AM.op_buildSlice) (And.intro (@AM.op_call) (And.intro (@AM.op_fieldAddr) (And.intro (@AM.op_indexAddr) (And.intro (@AM.op_load) (And.intro (@AM.op_makeFunc) (@AM.op_nilCheck)))))))))))))))))))))))))))))))
theorem b36_GR10 : type_of% (And.intro (@AM.ldO_agg) (And.intro (@AM.ldO_one) (And.intro (@AM.ld_ptr) (And.intro (@lk_24) (And.intro (@lk_3) (And.intro (@AM.op_call) (@AM.op_load))))))) := And.intro (@AM.ldO_agg) (And.intro (@AM.ldO_one) (And.intro (@AM.ld_ptr) (And.intro (@lk_24) (And.intro (@lk_3) (And.intro (@AM.op_call) (@AM.op_load))))))


/-- A word on numbers, told in all heaps of which I holds; it changes nothing. -/
def PredI (f : Value) (p : Int → Bool) (I : AHeap → Prop) : Prop := ∀ (x : Int) (h : AHeap) (Q : VQ), I h → Q (.bool (p x)) h → CallW Try.prog prims f [.int .i64 x] h Q
def idxP (p : Int → Bool) : List Int → Option Nat
  | [] => none
  | x :: l => if p x = true then some 0 else (idxP p l).map (· + 1)
theorem idxP_none {p : Int → Bool} : ∀ {l : List Int}, (∀ j, j < l.length → p (l.getD j 0) = false) → idxP p l = none
  | [], _ => rfl
  | x :: l, h => by
    unfold idxP
    have h0 : p x = false := h 0 (by simp)
    rw [h0]
    simp only [Bool.false_eq_true, if_false]
    rw [idxP_none (l := l) fun j hj => by simpa using h (j + 1) (by simpa using hj)]; rfl
theorem idxP_some {p : Int → Bool} : ∀ {l : List Int} {i : Nat}, i < l.length → p (l.getD i 0) = true → (∀ j, j < i → p (l.getD j 0) = false) → idxP p l = some i
  | x :: l, 0, _, h, _ => by
    unfold idxP
    have : p x = true := h
    rw [if_pos this]
  | x :: l, i + 1, hi, h, hb => by
    unfold idxP
    have h0 : p x = false := hb 0 (by omega)
    rw [h0]
    simp only [Bool.false_eq_true, if_false]
    rw [idxP_some (l := l) (i := i) (by simpa using hi) (by simpa using h) fun j hj => by simpa using hb (j + 1) (by omega)]; rfl
theorem any_idx {p : Int → Bool} : ∀ (l : List Int), l.any p = (idxP p l).isSome
  | [] => rfl
  | x :: l => by
    unfold idxP
    rw [List.any_cons, any_idx l]
    cases p x <;> simp
theorem grIndexFunc_w {f : Value} {p : Int → Bool} {I : AHeap → Prop} {s : Value} {n : Nat} {l : List Int} {h : AHeap} (hf : PredI f p I) (hI : I h) (hs : Rd h 3 1 s n (l.map (.int .i64))) (hn : n ≤ 4000000) {Q : VQ}
    (h0 : (∀ j, j < n → p (l.getD j 0) = false) → Q (.int .i64 (-1)) h) (h1 : ∀ i, i < n → p (l.getD i 0) = true → (∀ j, j < i → p (l.getD j 0) = false) → Q (.int .i64 i) h) : W 48 [s, f] h Q := by
  obtain ⟨a, cap, rfl⟩ := hs.form
  have hlen : l.length = n := by have := hs.length; rw [List.length_map] at this; omega
  refine AM.enter hp (fn := Try.f48) (rs := [.tmp 4]) (nt := 19) (by kernel_rfl) Try.func48 rfl rfl rfl (by kernel_rfl) ?_
  (first | (simp (maxSteps := 1000000) (disch := first | omega | (simp only [AM.DB, List.length_set, List.length_map]; first | done | omega)) only [AM.RB, Nat.reduceAdd, Nat.reduceMul, Nat.reduceEqDiff, reduceCtorEq, b48_GR10]) | skip)
  refine AM.loop_w hp 19 (fun i : Nat => [(0, .slice a n cap), (1, f), (7, .int .i64 n), (8, .int .i64 i)])
    (fun i h' => h' = h ∧ i ≤ n ∧ ∀ j, j < i → p (l.getD j 0) = false) (fun i => n - i) (by kernel_rfl) 0 ?_ ?_ ?_
  · simp (maxSteps := 1000000) (disch := first | omega | (simp only [AM.DB, List.length_set, List.length_map]; first | done | omega)) only [AM.RB, Nat.reduceAdd, Nat.reduceMul, Nat.reduceEqDiff, reduceCtorEq, b48_GR10]
    first | rfl | skip
  · exact ⟨rfl, Nat.zero_le _, fun j hj => by omega⟩
  rintro i hh ρ ⟨rfl, hi, hall⟩
  (first | (simp (maxSteps := 1000000) (disch := first | omega | (simp only [AM.DB, List.length_set, List.length_map]; first | done | omega)) only [AM.RB, Nat.reduceAdd, Nat.reduceMul, Nat.reduceEqDiff, reduceCtorEq, b48_GR10]) | skip)
  refine AM.condV_split (fun hlt => ?_) (fun hlt => ?_)
  · have hin : i < n := by omega
    (first | (simp (maxSteps := 1000000) (disch := first | omega | (simp only [AM.DB, List.length_set, List.length_map]; first | done | omega)) only [AM.RB, Nat.reduceAdd, Nat.reduceMul, Nat.reduceEqDiff, reduceCtorEq, b48_GR10, hs.ia el_26, hs.ldi lk_3, Int.toNat_natCast]) | skip)
    refine hf _ _ _ hI ?_
    cases hp1 : p (l.getD i 0) with
    | true =>
      (first | (simp (maxSteps := 1000000) (disch := first | omega | (simp only [AM.DB, List.length_set, List.length_map]; first | done | omega)) only [AM.RB, Nat.reduceAdd, Nat.reduceMul, Nat.reduceEqDiff, reduceCtorEq, b48_GR10]) | skip)
      exact h1 i hin hp1 hall
    | false =>
      (first | (simp (maxSteps := 1000000) (disch := first | omega | (simp only [AM.DB, List.length_set, List.length_map]; first | done | omega)) only [AM.RB, Nat.reduceAdd, Nat.reduceMul, Nat.reduceEqDiff, reduceCtorEq, b48_GR10, AM.wrap_i64]) | skip)
      refine ⟨i + 1, by omega, ?_, by omega, fun j hj => ?_⟩
      · simp (maxSteps := 1000000) (disch := first | omega | (simp only [AM.DB, List.length_set, List.length_map]; first | done | omega)) only [AM.RB, Nat.reduceAdd, Nat.reduceMul, Nat.reduceEqDiff, reduceCtorEq, b48_GR10]
        first | rfl | skip
      · by_cases e : j = i
        · subst e; exact hp1
        · exact hall j (by omega)
  · obtain rfl : i = n := by omega
    (first | (simp (maxSteps := 1000000) (disch := first | omega | (simp only [AM.DB, List.length_set, List.length_map]; first | done | omega)) only [AM.RB, Nat.reduceAdd, Nat.reduceMul, Nat.reduceEqDiff, reduceCtorEq, b48_GR10]) | skip)
    exact h0 hall
theorem grContains_w {f : Value} {p : Int → Bool} {I : AHeap → Prop} {s : Value} {n : Nat} {l : List Int} {h : AHeap} (hf : PredI f p I) (hI : I h) (hs : Rd h 3 1 s n (l.map (.int .i64))) (hn : n ≤ 4000000) {Q : VQ}
    (hq : Q (.bool (l.any p)) h) : W 37 [s, f] h Q := by
  have hlen : l.length = n := by have := hs.length; rw [List.length_map] at this; omega
  refine AM.enter hp (fn := Try.f37) (rs := [.tmp 4]) (nt := 9) (by kernel_rfl) Try.func37 rfl rfl rfl (by kernel_rfl) ?_
  (first | (simp (maxSteps := 1000000) (disch := first | omega | (simp only [AM.DB, List.length_set, List.length_map]; first | done | omega)) only [AM.RB, Nat.reduceAdd, Nat.reduceMul, Nat.reduceEqDiff, reduceCtorEq, b37_GR10]) | skip)
  refine grIndexFunc_w hf hI hs hn (fun hall => ?_) (fun i hi hp1 hall => ?_)
  · rw [any_idx, idxP_none (fun j hj => hall j (by omega))] at hq
    (first | (simp (maxSteps := 1000000) (disch := first | omega | (simp only [AM.DB, List.length_set, List.length_map]; first | done | omega)) only [AM.RB, Nat.reduceAdd, Nat.reduceMul, Nat.reduceEqDiff, reduceCtorEq, b37_GR10, show decide ((0 : Int) ≤ -1) = false from rfl]) | skip)
    exact hq
  · rw [any_idx, idxP_some (by omega) hp1 hall] at hq
    (first | (simp (maxSteps := 1000000) (disch := first | omega | (simp only [AM.DB, List.length_set, List.length_map]; first | done | omega)) only [AM.RB, Nat.reduceAdd, Nat.reduceMul, Nat.reduceEqDiff, reduceCtorEq, b37_GR10, show decide ((0 : Int) ≤ (i : Int)) = true from decide_eq_true (by omega)]) | skip)
    exact hq

theorem filt_take {p : Int → Bool} {l : List Int} {j : Nat} (hj : j < l.length) : (l.take (j + 1)).filter p = (l.take j).filter p ++ if p (l.getD j 0) = true then [l.getD j 0] else [] := by
  rw [List.take_add_one, List.getElem?_eq_getElem hj, List.filter_append]
  have e : l.getD j 0 = l[j] := by simp [List.getD, hj]
  rw [e]
  by_cases h : p l[j] = true
  · simp [h]
  · simp [h]
theorem filt_none {p : Int → Bool} {l : List Int} {i : Nat} (hi : i ≤ l.length) (h : ∀ j, j < i → p (l.getD j 0) = false) : (l.take i).filter (fun x => !p x) = l.take i := by
  rw [List.filter_eq_self]
  intro x hx
  obtain ⟨j, hj, e⟩ := List.mem_take_iff_getElem.1 hx
  have := h j (by omega)
  have e2 : l.getD j 0 = l[j]'(by omega) := by simp [List.getD, show j < l.length by omega]
  rw [e2, e] at this
  simp [this]

set_option maxHeartbeats 4000000 in
theorem grDelete_w {f : Value} {p : Int → Bool} {I : AHeap → Prop} {s : Value} {n : Nat} {l : List Int} {h : AHeap} (hf : PredI f p I) (hI : ∀ h', Fr (idOf s) h h' → I h') (hs : Ow h 3 1 s n (l.map (.int .i64))) (hn : n ≤ 4000000) {Q : VQ}
    (hq : ∀ v h', Ow h' 3 1 v (l.filter fun x => !p x).length ((l.filter fun x => !p x).map (.int .i64)) → Fr (idOf s) h h' → (∀ id, idOf v id → idOf s id) → Q v h') : W 46 [s, f] h Q := by
  have hlen : l.length = n := by have := hs.length; rw [List.length_map] at this; omega
  refine AM.enter hp (fn := Try.f46) (rs := [.tmp 4]) (nt := 42) (by kernel_rfl) Try.func46 rfl rfl rfl (by kernel_rfl) ?_
  (first | (simp (maxSteps := 1000000) (disch := first | omega | (simp only [AM.DB, List.length_set, List.length_map]; first | done | omega)) only [AM.RB, Nat.reduceAdd, Nat.reduceMul, Nat.reduceEqDiff, reduceCtorEq, b46_GR10]) | skip)
  refine grIndexFunc_w hf (hI h (Fr.refl _ _)) hs.rd hn (fun hall => ?_) (fun i hi hp1 hall => ?_)
  · have e : (l.filter fun x => !p x) = l := by
      have := filt_none (p := p) (l := l) (i := l.length) (Nat.le_refl _) (fun j hj => hall j (by omega))
      rwa [List.take_length] at this
    rw [e, hlen] at hq
    (first | (simp (maxSteps := 1000000) (disch := first | omega | (simp only [AM.DB, List.length_set, List.length_map]; first | done | omega)) only [AM.RB, Nat.reduceAdd, Nat.reduceMul, Nat.reduceEqDiff, reduceCtorEq, b46_GR10]) | skip)
    exact hq s h hs (Fr.refl _ _) (fun _ q => q)
  have hs' := hs
  rcases hs with ⟨_, z, _⟩ | ⟨id, off, cap, c, o, rfl, hnc, hg, hfit, hd, hlo⟩
  · omega
  have dm : decide ((i : Int) = -1) = false := decide_eq_false (by omega)
  have hfn := filt_none (p := p) (l := l) (i := i) (by omega) hall
  (first | (simp (maxSteps := 1000000) (disch := first | omega | (simp only [AM.DB, List.length_set, List.length_map]; first | done | omega)) only [AM.RB, Nat.reduceAdd, Nat.reduceMul, Nat.reduceEqDiff, reduceCtorEq, b46_GR10, dm, AM.wrap_i64]) | skip)
  refine AM.loop_w hp 42 (fun q : Nat × Nat × List Int => [(0, .slice (some ⟨id, off, none⟩) n cap), (1, f), (5, .int .i64 q.1), (6, .int .i64 q.2.1)])
    (fun q h' => q.1 < q.2.1 ∧ q.2.1 ≤ n ∧ Ow h' 3 1 (.slice (some ⟨id, off, none⟩) n cap) n (q.2.2.map (.int .i64)) ∧ Fr (idOf (.slice (some ⟨id, off, none⟩) n cap)) h h' ∧ q.2.2.take q.1 = (l.take q.2.1).filter (fun x => !p x) ∧ q.2.2.drop q.2.1 = l.drop q.2.1) (fun q => n - q.2.1) (by kernel_rfl) (i, i + 1, l) ?_ ?_ ?_
  · simp (maxSteps := 1000000) (disch := first | omega | (simp only [AM.DB, List.length_set, List.length_map]; first | done | omega)) only [AM.RB, Nat.reduceAdd, Nat.reduceMul, Nat.reduceEqDiff, reduceCtorEq, b46_GR10]
    first | rfl | skip
  · refine ⟨Nat.lt_succ_self _, by simp only; omega, hs', Fr.refl _ _, ?_, rfl⟩
    simp only
    rw [filt_take (by omega), hfn, hp1]
    simp
  rintro ⟨a, b, cl⟩ h1 ρ ⟨hab, hbn, o1, fr1, htk, hdr⟩
  simp only at hab hbn o1 htk hdr
  have hcl : cl.length = n := by have := o1.length; rw [List.length_map] at this; omega
  have lw1 := fr1.low
  (first | (simp (maxSteps := 1000000) (disch := first | omega | (simp only [AM.DB, List.length_set, List.length_map]; first | done | omega)) only [AM.RB, Nat.reduceAdd, Nat.reduceMul, Nat.reduceEqDiff, reduceCtorEq, b46_GR10]) | skip)
  refine AM.condV_split (fun hlt => ?_) (fun hlt => ?_)
  · have hb : b < n := by omega
    have hel : cl.getD b 0 = l.getD b 0 := by
      have := congrArg (fun l => l[0]?) hdr
      simp only [List.getElem?_drop, Nat.add_zero] at this
      simp [List.getD, this]
    have hdr2 : cl.drop (b + 1) = l.drop (b + 1) := by rw [← List.drop_drop, hdr, List.drop_drop]
    have hft := filt_take (p := fun x => !p x) (l := l) (j := b) (by omega)
    have r1 := o1.rd
    (first | (simp (maxSteps := 1000000) (disch := first | omega | (simp only [AM.DB, List.length_set, List.length_map]; first | done | omega)) only [AM.RB, Nat.reduceAdd, Nat.reduceMul, Nat.reduceEqDiff, reduceCtorEq, b46_GR10, r1.ia el_26, r1.ldi lk_3, Int.toNat_natCast, hel]) | skip)
    refine hf _ _ _ (hI h1 fr1) ?_
    cases hpb : p (l.getD b 0) with
    | true =>
      rw [hpb] at hft
      (first | (simp (maxSteps := 1000000) (disch := first | omega | (simp only [AM.DB, List.length_set, List.length_map]; first | done | omega)) only [AM.RB, Nat.reduceAdd, Nat.reduceMul, Nat.reduceEqDiff, reduceCtorEq, b46_GR10, AM.wrap_i64]) | skip)
      refine ⟨(a, b + 1, cl), by simp only; omega, ?_, by simp only; omega, by simp only; omega, o1, fr1, by simp only; rw [hft, htk]; simp, hdr2⟩
      simp (maxSteps := 1000000) (disch := first | omega | (simp only [AM.DB, List.length_set, List.length_map]; first | done | omega)) only [AM.RB, Nat.reduceAdd, Nat.reduceMul, Nat.reduceEqDiff, reduceCtorEq, b46_GR10]
      first | rfl | skip
    | false =>
      rw [hpb] at hft
      (first | (simp (maxSteps := 1000000) (disch := first | omega | (simp only [AM.DB, List.length_set, List.length_map]; first | done | omega)) only [AM.RB, Nat.reduceAdd, Nat.reduceMul, Nat.reduceEqDiff, reduceCtorEq, b46_GR10, r1.ia el_26, Int.toNat_natCast]) | skip)
      refine o1.st sz_3 (j := a) (by omega) rfl rfl fun h2 o2 fr2 n2 => ?_
      rw [← List.map_set] at o2
      (first | (simp (maxSteps := 1000000) (disch := first | omega | (simp only [AM.DB, List.length_set, List.length_map]; first | done | omega)) only [AM.RB, Nat.reduceAdd, Nat.reduceMul, Nat.reduceEqDiff, reduceCtorEq, b46_GR10, AM.wrap_i64]) | skip)
      refine ⟨(a + 1, b + 1, cl.set a (l.getD b 0)), by simp only; omega, ?_, by simp only; omega, by simp only; omega, o2, fr1.trans fr2, ?_, ?_⟩
      · simp (maxSteps := 1000000) (disch := first | omega | (simp only [AM.DB, List.length_set, List.length_map]; first | done | omega)) only [AM.RB, Nat.reduceAdd, Nat.reduceMul, Nat.reduceEqDiff, reduceCtorEq, b46_GR10]
        first | rfl | skip
      · simp only
        rw [hft, ← htk]
        simp only [Bool.not_false, if_true]
        rw [List.take_add_one, List.getElem?_set_self (by omega), List.take_set_of_le (Nat.le_refl _)]
        rfl
      · simp only
        rw [List.drop_set_of_lt (by omega), hdr2]
  · obtain rfl : b = n := by omega
    rw [← hlen, List.take_length] at htk
    have ef : (l.filter fun x => !p x).length = a := by rw [← htk, List.length_take]; omega
    rcases o1 with ⟨_, z, _⟩ | ⟨id', off', cap', c1, o', e', hnc1, hg1, hfit1, hd1, hlo1⟩
    · omega
    cases e'
    have hlt1 := AM.get_some_lt hg1
    rw [ef] at hq
    (first | (simp (maxSteps := 1000000) (disch := first | omega | (simp only [AM.DB, List.length_set, List.length_map]; first | done | omega)) only [AM.RB, Nat.reduceAdd, Nat.reduceMul, Nat.reduceEqDiff, reduceCtorEq, b46_GR10, AM.slc el_26 hg1, AM.slbs_lo_i, AM.slbs_hi_i, Int.toNat_natCast, Nat.sub_zero, Nat.zero_mul, Nat.add_zero]) | skip)
    refine AM.clear_in ap_26 hg1 (by omega) (by omega) fun h3 c3 hg3 hcl3 hk3 fr3 nx3 => ?_
    have hlo3 := fr3.low
    (first | (simp (maxSteps := 1000000) (disch := first | omega | (simp only [AM.DB, List.length_set, List.length_map]; first | done | omega)) only [AM.RB, Nat.reduceAdd, Nat.reduceMul, Nat.reduceEqDiff, reduceCtorEq, b46_GR10, AM.slc el_26 hg3, AM.slbs_lo_i, AM.slbs_hi_i, Int.toNat_natCast, Nat.sub_zero, Nat.zero_mul, Nat.add_zero]) | skip)
    refine hq _ _ (.inr ⟨id, off, cap, c3, _, rfl, by omega, hg3, by omega, ?_, by omega⟩) ((fr1.trans fr3).mono fun k _ q => q) (fun _ q => q)
    rw [← htk, List.map_take, ← hd1]
    apply List.ext_getElem?
    intro j
    rw [List.getElem?_take, List.getElem?_take, List.getElem?_take]
    by_cases hj : j < a * 1
    · rw [if_pos hj, if_pos (by omega), if_pos (by omega), List.getElem?_drop, List.getElem?_drop]
      exact hk3 _ (by omega)
    · rw [if_neg hj, if_neg (by omega)]

/-- A graph that is read alone. -/
def GtR (h : AHeap) (p n : Nat) (E : Nat → Nat → Bool) (R : Nat → Prop) : Prop := ∃ (nid bid : Nat) (X : Nat → Value), h.get p = some (.cells [slT nid n, slT bid n] 53 false) ∧ h.get nid = some (.cells ((List.range n).map X) 26 false) ∧ h.get bid = some (.cells ((List.range n).map fun j => X (n + j)) 26 false) ∧
  (∀ j, j < 2 * n → Rd h 3 1 (X j) (rowsE n E j).length ((rowsE n E j).map (.int .i64))) ∧ (R p ∧ R nid ∧ R bid) ∧ ∀ j, j < 2 * n → ∀ id, idOf (X j) id → R id
theorem Gt.rd {h : AHeap} {p n : Nat} {E : Nat → Nat → Bool} {S R : Nat → Prop} (x : Gt h p n E S) (hR : ∀ id, S id → R id) : GtR h p n E R := by
  obtain ⟨nid, bid, X, x⟩ := x
  exact ⟨nid, bid, X, x.g, x.bk.g1, x.bk.g2, fun j hj => (x.bk.ow j hj).rd, ⟨hR _ x.sp.1, hR _ x.sp.2.1, hR _ x.sp.2.2⟩, fun j hj id q => hR _ (x.sx j hj id q)⟩
theorem GtR.same {h h' : AHeap} {p n : Nat} {E : Nat → Nat → Bool} {R : Nat → Prop} (x : GtR h p n E R) (hh : ∀ id, R id → h'.get id = h.get id) : GtR h' p n E R := by
  obtain ⟨nid, bid, X, g, gn, gb, r, q, z⟩ := x
  exact ⟨nid, bid, X, by rw [hh _ q.1]; exact g, by rw [hh _ q.2.1]; exact gn, by rw [hh _ q.2.2]; exact gb, fun j hj => (r j hj).same (fun id i => hh id (z j hj id i)), q, z⟩
theorem GtR.fr0 {h h' : AHeap} {p n : Nat} {E : Nat → Nat → Bool} {R : Nat → Prop} (x : GtR h p n E R) (fr : Fr none' h h') : GtR h' p n E R := by
  obtain ⟨nid, bid, X, g, gn, gb, r, q, z⟩ := x
  exact ⟨nid, bid, X, g.fr0 fr, gn.fr0 fr, gb.fr0 fr, fun j hj => (r j hj).fr0 fr, q, z⟩
def besL (n : Nat) (E : Nat → Nat → Bool) (a w : Int) : List Int := (outsI n E a ++ innI n E a).filter fun x => !decide (x = w)
theorem besL_len (n : Nat) (E : Nat → Nat → Bool) (a w : Int) : (besL n E a w).length ≤ 2 * n := by
  unfold besL
  have h1 := List.length_filter_le (fun x => !decide (x = w)) (outsI n E a ++ innI n E a)
  have h2 := outsI_len n E a
  have h3 := innI_len n E a
  rw [List.length_append] at h1
  omega
theorem beside1 {bx : Nat} {w : Int} : PredI (.func (.func 47) #[] #[pv bx]) (fun x => decide (x = w)) (fun h => h.get bx = some (.cells [.int .i64 w] 3 false)) := by
  intro x h Q g hq
  refine AM.enter hp (fn := Try.f47) (rs := [.tmp 3]) (nt := 7) (by kernel_rfl) Try.func47 rfl rfl rfl (by kernel_rfl) ?_
  (first | (simp (maxSteps := 1000000) (disch := first | omega | (simp only [AM.DB, List.length_set, List.length_map]; first | done | omega)) only [AM.RB, Nat.reduceAdd, Nat.reduceMul, Nat.reduceEqDiff, reduceCtorEq, b47_GR10, g]) | skip)
  exact hq
theorem grBeside_w {h : AHeap} {p n : Nat} {E : Nat → Nat → Bool} {R : Nat → Prop} (x : GtR h p n E R) (hn : n ≤ 1024) (hl : h.low ≤ h.next) (a w : Int) (ha : 0 ≤ a ∧ a < n) {Q : VQ}
    (hq : ∀ v h', Ow h' 3 1 v (besL n E a w).length ((besL n E a w).map (.int .i64)) → Fr none' h h' → (∀ id, idOf v id → h.next ≤ id) → Q v h') : W 35 [pv p, .int .i64 a, .int .i64 w] h Q := by
  obtain ⟨k, rfl⟩ := Int.eq_ofNat_of_zero_le ha.1
  have hk : k < n := by omega
  refine AM.enter hp (fn := Try.f35) (rs := [.tmp 6]) (nt := 27) (by kernel_rfl) Try.func35 rfl rfl rfl (by kernel_rfl) ?_
  (repeat' (first | (simp (maxSteps := 1000000) (disch := first | omega | (simp only [AM.DB, List.length_set, List.length_map]; first | done | omega)) only [AM.RB, Nat.reduceAdd, Nat.reduceMul, Nat.reduceEqDiff, reduceCtorEq, b35_GR10]) | refine AM.drawW_fine hp (by kernel_rfl) (by kernel_rfl) (by kernel_rfl) ?_ | refine AM.opW_tied (by kernel_rfl) ?_ | refine AM.opW_untied (by kernel_rfl) ?_))
  generalize hE_ : AHeap.alloc h _ = h1; obtain ⟨g1, fr1, n1, l1⟩ := AM.new_get hE_; clear hE_
  have hl1 := fr1.hl hl
  obtain ⟨nid, bid, X, g, gn, gb, rr, _, _⟩ := x.fr0 fr1
  have hxa : ((List.range n).map X)[k]? = some (X k) := by rw [List.getElem?_map, List.getElem?_range hk]; rfl
  have hxb : ((List.range n).map fun j => X (n + j))[k]? = some (X (n + k)) := by rw [List.getElem?_map, List.getElem?_range hk]; rfl
  have ra := rr k (by omega)
  have rb := rr (n + k) (by omega)
  have ea : rowsE n E k = outsI n E k := by unfold rowsE outsI; rw [if_pos hk, if_pos ha, Int.toNat_natCast]
  have eb : rowsE n E (n + k) = innI n E k := by unfold rowsE innI; rw [if_neg (by omega), if_pos ha, Int.toNat_natCast, Nat.add_sub_cancel_left]
  rw [ea] at ra
  rw [eb] at rb
  have la := outsI_len n E k
  have lb := innI_len n E k
  (repeat' (first | (simp (maxSteps := 1000000) (disch := first | omega | (simp only [AM.DB, List.length_set, List.length_map]; first | done | omega)) only [AM.RB, Nat.reduceAdd, Nat.reduceMul, Nat.reduceEqDiff, reduceCtorEq, b35_GR10, g, gn, gb, hxa, hxb, Nat.mul_one, Nat.zero_add, Int.toNat_natCast]) | refine AM.drawW_fine hp (by kernel_rfl) (by kernel_rfl) (by kernel_rfl) ?_ | refine AM.opW_tied (by kernel_rfl) ?_ | refine AM.opW_untied (by kernel_rfl) ?_))
  obtain ⟨pa, ca, exa⟩ := ra.form
  obtain ⟨pb, cb, exb⟩ := rb.form
  rw [exa] at ra ⊢
  rw [exb] at rb ⊢
  rw [AM.bsW_sl2 bs_51]
  generalize hE_ : AHeap.alloc h1 _ = h2; obtain ⟨g2, fr2, n2, l2⟩ := AM.new_get hE_; clear hE_
  have hl2 : h2.low ≤ h2.next := by omega
  (repeat' (first | (simp (maxSteps := 1000000) (disch := first | omega | (simp only [AM.DB, List.length_set, List.length_map]; first | done | omega)) only [AM.RB, Nat.reduceAdd, Nat.reduceMul, Nat.reduceEqDiff, reduceCtorEq, b35_GR10]) | refine AM.drawW_fine hp (by kernel_rfl) (by kernel_rfl) (by kernel_rfl) ?_ | refine AM.opW_tied (by kernel_rfl) ?_ | refine AM.opW_untied (by kernel_rfl) ?_))
  refine grConcat_w (AM.Rd.whole (n := 2) g2 rfl) (ra.fr0 fr2) (rb.fr0 fr2) hl2 (by omega) (by omega) fun v3 h3 o3 fr3 hid3 => ?_
  have gw := (g1.fr0 fr2).fr0 fr3
  have n1' := n1
  (repeat' (first | (simp (maxSteps := 1000000) (disch := first | omega | (simp only [AM.DB, List.length_set, List.length_map]; first | done | omega)) only [AM.RB, Nat.reduceAdd, Nat.reduceMul, Nat.reduceEqDiff, reduceCtorEq, b35_GR10]) | refine AM.drawW_fine hp (by kernel_rfl) (by kernel_rfl) (by kernel_rfl) ?_ | refine AM.opW_tied (by kernel_rfl) ?_ | refine AM.opW_untied (by kernel_rfl) ?_))
  refine grDelete_w beside1 (fun h' fr => fr.get gw (fun q => by have := hid3 _ q; omega)) o3 (by rw [List.length_append]; omega) fun v4 h4 o4 fr4 hid4 => ?_
  (repeat' (first | (simp (maxSteps := 1000000) (disch := first | omega | (simp only [AM.DB, List.length_set, List.length_map]; first | done | omega)) only [AM.RB, Nat.reduceAdd, Nat.reduceMul, Nat.reduceEqDiff, reduceCtorEq, b35_GR10]) | refine AM.drawW_fine hp (by kernel_rfl) (by kernel_rfl) (by kernel_rfl) ?_ | refine AM.opW_tied (by kernel_rfl) ?_ | refine AM.opW_untied (by kernel_rfl) ?_))
  refine hq v4 h4 o4 (((fr1.trans fr2).trans fr3).fresh fr4 fun id q => by have := hid3 id q; omega) (fun id q => by have := hid3 id (hid4 id q); omega)

theorem besL_dom {n : Nat} {E : Nat → Nat → Bool} {w : Int} : ∀ b : Int, 0 ≤ b ∧ b < n → ∀ c ∈ besL n E b w, 0 ≤ c ∧ c < n := by
  intro b hb c hc
  rcases List.mem_append.1 (List.mem_filter.1 hc).1 with h | h
  · exact outsI_dom b hb c h
  · exact innI_dom b hb c h
theorem nextBes {h : AHeap} {bx by' p n : Nat} {E : Nat → Nat → Bool} {S : Nat → Prop} {w : Int} {e e' : TypeId} {o o' : Bool} (x : Gt h p n E S) (hn : n ≤ 1024) (gx : h.get bx = some (.cells [pv p] e o)) (gy : h.get by' = some (.cells [.int .i64 w] e' o')) :
    NextF (.func (.func 36) #[] #[pv bx, pv by']) n (fun a => besL n E a w) (fun id => id = bx ∨ id = by' ∨ S id) h := by
  intro h' hnx hl hk a a0 a1 Q hq
  have gx' : h'.get bx = some (.cells [pv p] e o) := by rw [hk bx (.inl rfl)]; exact gx
  have gy' : h'.get by' = some (.cells [.int .i64 w] e' o') := by rw [hk by' (.inr (.inl rfl))]; exact gy
  have x' := (x.rd (R := fun id => id = bx ∨ id = by' ∨ S id) (fun id q => .inr (.inr q))).same hk
  refine AM.enter hp (fn := Try.f36) (rs := [.tmp 4]) (nt := 9) (by kernel_rfl) Try.func36 rfl rfl rfl (by kernel_rfl) ?_
  (first | (simp (maxSteps := 1000000) (disch := first | omega | (simp only [AM.DB, List.length_set, List.length_map]; first | done | omega)) only [AM.RB, Nat.reduceAdd, Nat.reduceMul, Nat.reduceEqDiff, reduceCtorEq, b36_GR10, gx', gy']) | skip)
  refine grBeside_w x' hn hl a w ⟨a0, a1⟩ fun v h2 o2 fr2 hid2 => ?_
  (first | (simp (maxSteps := 1000000) (disch := first | omega | (simp only [AM.DB, List.length_set, List.length_map]; first | done | omega)) only [AM.RB, Nat.reduceAdd, Nat.reduceMul, Nat.reduceEqDiff, reduceCtorEq, b36_GR10]) | skip)
  exact hq _ _ o2.rd fr2 fun id q => .inr (hid2 id q)
end Go.Proofs.Ytnkbdbopiancmaa

namespace Go.Proofs.Ytnkbdbopiancmaa
open Go.AM
set_option maxRecDepth 8000
theorem b38_GR11 : type_of% (And.intro (@AM.bin_eql) (And.intro (@AM.ldO_agg) (And.intro (@AM.ldO_one) (And.intro (@AM.ld_ptr) (And.intro (@lk_59) (And.intro (@AM.op_binOp) (And.intro (@AM.op_load) (@AM.op_lookup)))))))) := And.intro (@AM.bin_eql) (And.intro (@AM.ldO_agg) (And.intro (@AM.ldO_one) (And.intro (@AM.ld_ptr) (And.intro (@lk_59) (And.intro (@AM.op_binOp) (And.intro (@AM.op_load) (@AM.op_lookup)))))))
theorem b14_GR11 : type_of% (And.intro (@List.map_toArray.{0,0}) (And.intro (@AM.alK_some) (And.intro (@al_3) (And.intro (@al_59) (And.intro (@AM.bin_add) (And.intro (@AM.bin_eql) (And.intro (@AM.bin_lss) (And.intro (@AM.boxK_agg) (And.intro (@AM.boxK_bool) (And.intro (@AM.boxK_func) (And.intro (@AM.boxK_int) (And.intro (@AM.boxK_map) (And.intro (@AM.boxK_pointer) (And.intro (@AM.boxK_slice) (And.intro (@AM.boxK_string) (And.intro (AM.bsW_int bs_26) (And.intro (AM.bsW_nil bs_26) (And.intro (AM.bsW_slice bs_26) (And.intro (AM.bsW_string bs_26) (And.intro (@AM.iaO_ok) (And.intro (AM.ia_slice el_26) (And.intro (@AM.ldO_agg) (And.intro (@AM.ldO_one) (And.intro (@AM.ld_ptr) (And.intro (AM.len_slice ul_26) (And.intro (@lk_24) (And.intro (@lk_3) (And.intro (@lk_59) (And.intro (@AM.op_alloc) (And.intro (@AM.op_append) (And.intro (@AM.op_binOp) (And.intro (@AM.op_box) (And.intro (@AM.op_buildSlice) (And.intro (@AM.op_call) (And.intro (@AM.op_indexAddr) (And.intro (@AM.op_len) (And.intro (@AM.op_load) (And.intro (@AM.op_makeFunc) (And.intro (@AM.op_makeMap0) (And.intro (@AM.op_mapUpdate) (And.intro (@AM.op_store) (And.intro (@AM.stO_agg) (And.intro (@AM.stO_bool) (And.intro (@AM.stO_int) (And.intro (@AM.stO_map) (And.intro (@AM.stO_pointer) (And.intro (@AM.stO_slice) (And.intro (@AM.stO_string) (And.intro (@AM.st_ptr) (And.intro (@sz_3) (@sz_59))))))))))))))))))))))))))))))))))))))))))))))))))) := And.intro (@List.map_toArray.{0,0}) (And.intro (@AM.alK_some) (And.intro (@al_3) (And.intro (@al_59) (And.intro (@AM.bin_add) (And.intro (@AM.bin_eql) (And.intro (@AM.bin_lss) (And.intro (@AM.boxK_agg) (And.intro (@AM.boxK_bool) (And.intro (@AM.boxK_func) (And.intro (@AM.boxK_int) (And.intro (@AM.boxK_map) (And.intro (@AM.boxK_pointer) (And.intro (@AM.boxK_slice) (And.intro (@AM.boxK_string) (And.intro (AM.bsW_int bs_26) (And.intro (AM.bsW_nil bs_26) (And.intro (AM.bsW_slice bs_26) (And.intro (AM.bsW_string bs_26) (And.intro (@AM.iaO_ok) (And.intro (AM.ia_slice el_26) (And.intro (@AM.ldO_agg) (And.intro (@AM.ldO_one) (And.intro (@AM.ld_ptr) (And.intro (AM.len_slice ul_26) (And.intro (@lk_24) (And.intro (@lk_3) (And.intro (@lk_59) (And.intro (@AM.op_alloc) (And.intro (@AM.op_append) (And.intro (@AM.op_binOp) (And.intro (@AM.op_box) (And.intro (@AM.op_buildSlice) (And.intro (@AM.op_call) (And.intro (@AM.op_indexAddr) (And.intro (@AM.op_len) (And.intro (@AM.op_load) (And.intro (@AM.op_makeFunc) (And.intro (@AM.op_makeMap0) (And.intro (@AM.op_mapUpdate) (And.intro (@AM.op_store) (And.intro (@AM.stO_agg) (And.intro (@AM.stO_bool) (And.intro (@AM.stO_int) (And.intro (@AM.stO_map) (And.intro (@AM.stO_pointer) (And.intro (@AM.stO_slice) (And.intro (@AM.stO_string) (And.intro (@AM.st_ptr) (And.intro (@sz_3) (@sz_59))))))))))))))))))))))))))))))))))))))))))))))))))


abbrev keysB (xs : List (Int × Int)) : List Int := xs.map (·.1)
/-- Is it a joint, as the program tells it? -/
def jointP (n : Nat) (E : Nat → Nat → Bool) (a : Int) : Bool := match besL n E a a with
  | [] => false
  | b :: l => (b :: l).any fun c => !decide (c ∈ keysB (bfs (fun x => besL n E x a) n b))
def jointsL (n : Nat) (E : Nat → Nat → Bool) (k : Nat) : List Int := ((List.range k).map Int.ofNat).filter fun a => jointP n E a
theorem jointsL_succ (n : Nat) (E : Nat → Nat → Bool) (k : Nat) : jointsL n E (k + 1) = jointsL n E k ++ if jointP n E k = true then [(k : Int)] else [] := by
  unfold jointsL
  rw [List.range_succ, List.map_append, List.filter_append]
  by_cases h : jointP n E k = true
  · simp [h]
  · simp [h]
theorem jointsL_len (n : Nat) (E : Nat → Nat → Bool) (k : Nat) : (jointsL n E k).length ≤ k := by
  have := List.length_filter_le (fun a : Int => jointP n E a) ((List.range k).map Int.ofNat)
  simpa [jointsL] using this
theorem joints2 {bm mid : Nat} {ml : List (Int × Value)} {K : List Int} (hml : ∀ x, mgetL ml x = if x ∈ K then some (.int .i64 1) else none) :
    PredI (.func (.func 38) #[] #[pv bm]) (fun c => !decide (c ∈ K)) (fun h => (∃ e, h.get bm = some (.cells [.map (some mid)] e false)) ∧ h.get mid = some (.map (encM ml))) := by
  rintro x h Q ⟨⟨e, g⟩, gm⟩ hq
  have hx := hml x
  refine AM.enter hp (fn := Try.f38) (rs := [.tmp 3]) (nt := 8) (by kernel_rfl) Try.func38 rfl rfl rfl (by kernel_rfl) ?_
  by_cases h1 : x ∈ K
  · rw [if_pos h1] at hx
    simp only [decide_eq_true h1] at hq
    (first | (simp (maxSteps := 1000000) (disch := first | omega | (simp only [AM.DB, List.length_set, List.length_map]; first | done | omega)) only [AM.RB, Nat.reduceAdd, Nat.reduceMul, Nat.reduceEqDiff, reduceCtorEq, b38_GR11, g, AM.lookup_enc mp_59 gm, hx, show decide ((1 : Int) = 0) = false from rfl]) | skip)
    exact hq
  · rw [if_neg h1] at hx
    simp only [decide_eq_false h1] at hq
    (first | (simp (maxSteps := 1000000) (disch := first | omega | (simp only [AM.DB, List.length_set, List.length_map]; first | done | omega)) only [AM.RB, Nat.reduceAdd, Nat.reduceMul, Nat.reduceEqDiff, reduceCtorEq, b38_GR11, g, AM.lookup_enc mp_59 gm, hx, show decide ((0 : Int) = 0) = true from rfl]) | skip)
    exact hq

set_option maxHeartbeats 4000000 in
theorem grJoints_w {h : AHeap} {p n : Nat} {E : Nat → Nat → Bool} {S : Nat → Prop} (x : Gt h p n E S) (hn : n ≤ 1024) (hl : h.low ≤ h.next) {Q : VQ}
    (hq : ∀ v h', Ow h' 3 1 v (jointsL n E n).length ((jointsL n E n).map (.int .i64)) → Fr none' h h' → (∀ id, idOf v id → h.next ≤ id) → Q v h') : W 14 [pv p] h Q := by
  refine AM.enter hp (fn := Try.f14) (rs := [.tmp 2]) (nt := 41) (by kernel_rfl) Try.func14 rfl rfl rfl (by kernel_rfl) ?_
  (repeat' (first | (simp (maxSteps := 1000000) (disch := first | omega | (simp only [AM.DB, List.length_set, List.length_map]; first | done | omega)) only [AM.RB, Nat.reduceAdd, Nat.reduceMul, Nat.reduceEqDiff, reduceCtorEq, b14_GR11]) | refine AM.drawW_loose (id := 8) hp (by kernel_rfl) (by kernel_rfl) ?_ | refine AM.opW_tied (by kernel_rfl) ?_ | refine AM.opW_untied (by kernel_rfl) ?_))
  generalize hE_ : AHeap.alloc h _ = h1; obtain ⟨g1, fr1, n1, l1⟩ := AM.new_get hE_; clear hE_
  have x1 := x.fr0 fr1
  (repeat' (first | (simp (maxSteps := 1000000) (disch := first | omega | (simp only [AM.DB, List.length_set, List.length_map]; first | done | omega)) only [AM.RB, Nat.reduceAdd, Nat.reduceMul, Nat.reduceEqDiff, reduceCtorEq, b14_GR11, g1]) | refine AM.drawW_loose (id := 8) hp (by kernel_rfl) (by kernel_rfl) ?_ | refine AM.opW_tied (by kernel_rfl) ?_ | refine AM.opW_untied (by kernel_rfl) ?_))
  refine grLen_w x1 ?_
  (repeat' (first | (simp (maxSteps := 1000000) (disch := first | omega | (simp only [AM.DB, List.length_set, List.length_map]; first | done | omega)) only [AM.RB, Nat.reduceAdd, Nat.reduceMul, Nat.reduceEqDiff, reduceCtorEq, b14_GR11]) | refine AM.drawW_loose (id := 8) hp (by kernel_rfl) (by kernel_rfl) ?_ | refine AM.opW_tied (by kernel_rfl) ?_ | refine AM.opW_untied (by kernel_rfl) ?_))
  refine AM.loop_w hp 41 (fun q : Nat × Value => [(1, pv h.next), (3, q.2), (9, .int .i64 n), (10, .int .i64 q.1)])
    (fun q h' => q.1 ≤ n ∧ Fr none' h h' ∧ h'.get h.next = some (.cells [pv p] 24 false) ∧ Ow h' 3 1 q.2 (jointsL n E q.1).length ((jointsL n E q.1).map (.int .i64)) ∧ ∀ id, idOf q.2 id → h.next < id) (fun q => n - q.1) (by kernel_rfl) (0, .slice none 0 0) ?_ ?_ ?_
  · simp (maxSteps := 1000000) (disch := first | omega | (simp only [AM.DB, List.length_set, List.length_map]; first | done | omega)) only [AM.RB, Nat.reduceAdd, Nat.reduceMul, Nat.reduceEqDiff, reduceCtorEq, b14_GR11]
    first | rfl | skip
  · exact ⟨Nat.zero_le _, fr1, g1, Ow.nil _ _ _, fun _ q => q.elim⟩
  rintro ⟨i, v⟩ h2 ρ ⟨hi, fr2, k1, o2, hid2⟩
  simp only at hi o2 hid2
  obtain ⟨va, vc, rfl⟩ := o2.form
  have hl2 := fr2.hl hl
  have x2 := x.fr0 fr2
  have lt2 := AM.get_some_lt k1
  have rs := jointsL_succ n E i
  have rl := jointsL_len n E i
  have w2 := fr2.low
  (repeat' (first | (simp (maxSteps := 1000000) (disch := first | omega | (simp only [AM.DB, List.length_set, List.length_map]; first | done | omega)) only [AM.RB, Nat.reduceAdd, Nat.reduceMul, Nat.reduceEqDiff, reduceCtorEq, b14_GR11]) | refine AM.drawW_loose (id := 8) hp (by kernel_rfl) (by kernel_rfl) ?_ | refine AM.opW_tied (by kernel_rfl) ?_ | refine AM.opW_untied (by kernel_rfl) ?_))
  refine AM.condV_split (fun hlt => ?_) (fun hlt => ?_)
  case' refine_2 =>
    obtain rfl : i = n := by omega
    (repeat' (first | (simp (maxSteps := 1000000) (disch := first | omega | (simp only [AM.DB, List.length_set, List.length_map]; first | done | omega)) only [AM.RB, Nat.reduceAdd, Nat.reduceMul, Nat.reduceEqDiff, reduceCtorEq, b14_GR11]) | refine AM.drawW_loose (id := 8) hp (by kernel_rfl) (by kernel_rfl) ?_ | refine AM.opW_tied (by kernel_rfl) ?_ | refine AM.opW_untied (by kernel_rfl) ?_))
    exact hq _ _ o2 fr2 fun id q => by have := hid2 id q; omega
  have hin : i < n := by omega
  have hai : 0 ≤ (i : Int) ∧ (i : Int) < n := by omega
  (repeat' (first | (simp (maxSteps := 1000000) (disch := first | omega | (simp only [AM.DB, List.length_set, List.length_map]; first | done | omega)) only [AM.RB, Nat.reduceAdd, Nat.reduceMul, Nat.reduceEqDiff, reduceCtorEq, b14_GR11, k1]) | refine AM.drawW_loose (id := 8) hp (by kernel_rfl) (by kernel_rfl) ?_ | refine AM.opW_tied (by kernel_rfl) ?_ | refine AM.opW_untied (by kernel_rfl) ?_))
  generalize hE_ : AHeap.put (AHeap.alloc h2 _) _ _ = h3; obtain ⟨g3, fr3, n3, l3⟩ := AM.box_get hE_ (by omega); clear hE_
  have k13 := k1.fr0 fr3
  have hl3 := fr3.hl hl2
  refine grBeside_w ((x2.fr0 fr3).rd (R := S) (fun _ q => q)) hn hl3 i i hai fun v4 h4 o4 fr4 hid4 => ?_
  have bl := besL_len n E i i
  have jp : jointP n E i = match besL n E i i with
    | [] => false
    | b :: l => (b :: l).any fun c => !decide (c ∈ keysB (bfs (fun x => besL n E x i) n b)) := rfl
  have bd := besL_dom (n := n) (E := E) (w := i) i hai
  obtain ⟨wa, wc, rfl⟩ := o4.form
  cases hb : besL n E i i with
  | nil =>
    rw [hb] at jp o4
    rw [jp] at rs
    simp only [Bool.false_eq_true, if_false, List.append_nil] at rs
    (repeat' (first | (simp (maxSteps := 1000000) (disch := first | omega | (simp only [AM.DB, List.length_set, List.length_map]; first | done | omega)) only [AM.RB, Nat.reduceAdd, Nat.reduceMul, Nat.reduceEqDiff, reduceCtorEq, b14_GR11, AM.wrap_i64, List.length_nil]) | refine AM.drawW_loose (id := 8) hp (by kernel_rfl) (by kernel_rfl) ?_ | refine AM.opW_tied (by kernel_rfl) ?_ | refine AM.opW_untied (by kernel_rfl) ?_))
    refine ⟨(i + 1, _), by simp only; omega, ?_, by simp only; omega, (fr2.trans fr3).trans fr4, (k13.fr0 fr4), by simp only; rw [rs]; exact (o2.fr0 fr3).fr0 fr4, hid2⟩
    simp (maxSteps := 1000000) (disch := first | omega | (simp only [AM.DB, List.length_set, List.length_map]; first | done | omega)) only [AM.RB, Nat.reduceAdd, Nat.reduceMul, Nat.reduceEqDiff, reduceCtorEq, b14_GR11]
    first | rfl | skip
  | cons b l =>
    rw [hb] at jp o4 bl bd hid4
    have hbd := bd b (by simp)
    have hlen : (b :: l).length = l.length + 1 := rfl
    have jp2 : jointP n E i = (b :: l).any fun c => !decide (c ∈ keysB (bfs (fun x => besL n E x i) n b)) := jp
    clear jp
    have hb0 : (b :: l).getD 0 0 = b := rfl
    clear hlen
    have hlen : 0 < (b :: l).length := by simp
    generalize b :: l = bl' at *
    have dl : decide ((bl'.length : Int) = 0) = false := decide_eq_false (by omega)
    have n4' := fr4.next
    have w4' := fr4.low
    have k14 := k13.fr0 fr4
    (repeat' (first | (simp (maxSteps := 1000000) (disch := first | omega | (simp only [AM.DB, List.length_set, List.length_map]; first | done | omega)) only [AM.RB, Nat.reduceAdd, Nat.reduceMul, Nat.reduceEqDiff, reduceCtorEq, b14_GR11, dl, k14]) | refine AM.drawW_loose (id := 8) hp (by kernel_rfl) (by kernel_rfl) ?_ | refine AM.opW_tied (by kernel_rfl) ?_ | refine AM.opW_untied (by kernel_rfl) ?_))
    generalize hE_ : AHeap.put (AHeap.alloc (AHeap.alloc h4 _) _) _ _ = h5
    have gm : h5.get h4.next = some (.map (encM [])) := by rw [← hE_, AM.get_put_ne (by simp), AM.get_alloc_ne (by simp), AM.get_alloc_self rfl]; rfl
    have gb : h5.get (h4.next + 1) = some (.cells [.map (some h4.next)] 59 false) := by rw [← hE_, AM.get_put_self rfl (by simp)]
    have fr5 : Fr none' h4 h5 := by rw [← hE_]; exact ((((Fr.refl _ _).alloc _).alloc _).put _ (.inl (Nat.le_succ _)))
    have n5 : h5.next = h4.next + 2 := by rw [← hE_]; rfl
    have l5 : h5.low = h4.low := by rw [← hE_]; rfl
    clear hE_
    have k15 := k14.fr0 fr5
    have g35 := (g3.fr0 fr4).fr0 fr5
    have o45 := o4.fr0 fr5
    have x5 := ((x2.fr0 fr3).fr0 fr4).fr0 fr5
    have hl5 : h5.low ≤ h5.next := by omega
    refine grLen_w x5 ?_
    have r45 := o45.rd
    have t0 : (0 : Int).toNat = 0 := rfl
    (repeat' (first | (simp (maxSteps := 1000000) (disch := first | omega | (simp only [AM.DB, List.length_set, List.length_map]; first | done | omega)) only [AM.RB, Nat.reduceAdd, Nat.reduceMul, Nat.reduceEqDiff, reduceCtorEq, b14_GR11, r45.ia el_26, r45.ldi lk_3, t0, hb0]) | refine AM.drawW_loose (id := 8) hp (by kernel_rfl) (by kernel_rfl) ?_ | refine AM.opW_tied (by kernel_rfl) ?_ | refine AM.opW_untied (by kernel_rfl) ?_))
    refine grWalk_w fun h6 c1 c2 ⟨e3, c3⟩ fr6 n6 l6 => ?_
    have k16 := k15.fr0 fr6
    have o46 := o45.fr0 fr6
    have r46 := o46.rd
    have x6 := x5.fr0 fr6
    have g36 := g35.fr0 fr6
    have hl6 : h6.low ≤ h6.next := by omega
    have lt6 := AM.get_some_lt k16
    (repeat' (first | (simp (maxSteps := 1000000) (disch := first | omega | (simp only [AM.DB, List.length_set, List.length_map]; first | done | omega)) only [AM.RB, Nat.reduceAdd, Nat.reduceMul, Nat.reduceEqDiff, reduceCtorEq, b14_GR11]) | refine AM.drawW_loose (id := 8) hp (by kernel_rfl) (by kernel_rfl) ?_ | refine AM.opW_tied (by kernel_rfl) ?_ | refine AM.opW_untied (by kernel_rfl) ?_))
    refine ⟨AM.looseOk_by [(4, [0, 2])] (by kernel_rfl) ?_, ?_⟩
    · simp (maxSteps := 1000000) (disch := first | omega | (simp only [AM.DB, List.length_set, List.length_map]; first | done | omega)) only [AM.RB, Nat.reduceAdd, Nat.reduceMul, Nat.reduceEqDiff, reduceCtorEq, b14_GR11]
      (repeat' apply And.intro) <;> (first | (refine AM.stable_len _ _ _ _ _ _ (fun _ => ?_); (simp (maxSteps := 1000000) (disch := first | omega | (simp only [AM.DB, List.length_set, List.length_map]; first | done | omega)) only [AM.RB, Nat.reduceAdd, Nat.reduceMul, Nat.reduceEqDiff, reduceCtorEq, b14_GR11, k15, k16, r45.ia el_26, r45.ldi lk_3, r46.ia el_26, r46.ldi lk_3, t0, hb0])) | (refine AM.stable_load _ _ _ _ _ _ ?_; (first | (simp (maxSteps := 1000000) (disch := first | omega | (simp only [AM.DB, List.length_set, List.length_map]; first | done | omega)) only [AM.RB, Nat.reduceAdd, Nat.reduceMul, Nat.reduceEqDiff, reduceCtorEq, b14_GR11, k15, k16, r45.ia el_26, r45.ldi lk_3, r46.ia el_26, r46.ldi lk_3, t0, hb0]) | skip); (first | (refine AM.stabL_int (by omega) ?_; (simp (maxSteps := 1000000) (disch := first | omega | (simp only [AM.DB, List.length_set, List.length_map]; first | done | omega)) only [AM.RB, Nat.reduceAdd, Nat.reduceMul, Nat.reduceEqDiff, reduceCtorEq, b14_GR11, k15, k16, r45.ia el_26, r45.ldi lk_3, r46.ia el_26, r46.ldi lk_3, t0, hb0])) | (refine AM.stabL_ptr (by omega) (by omega) ?_; (simp (maxSteps := 1000000) (disch := first | omega | (simp only [AM.DB, List.length_set, List.length_map]; first | done | omega)) only [AM.RB, Nat.reduceAdd, Nat.reduceMul, Nat.reduceEqDiff, reduceCtorEq, b14_GR11, k15, k16, r45.ia el_26, r45.ldi lk_3, r46.ia el_26, r46.ldi lk_3, t0, hb0])) | (refine AM.stabL_string (by omega) ?_; (simp (maxSteps := 1000000) (disch := first | omega | (simp only [AM.DB, List.length_set, List.length_map]; first | done | omega)) only [AM.RB, Nat.reduceAdd, Nat.reduceMul, Nat.reduceEqDiff, reduceCtorEq, b14_GR11, k15, k16, r45.ia el_26, r45.ldi lk_3, r46.ia el_26, r46.ldi lk_3, t0, hb0])) | (refine AM.stabL_bool (by omega) ?_; (simp (maxSteps := 1000000) (disch := first | omega | (simp only [AM.DB, List.length_set, List.length_map]; first | done | omega)) only [AM.RB, Nat.reduceAdd, Nat.reduceMul, Nat.reduceEqDiff, reduceCtorEq, b14_GR11, k15, k16, r45.ia el_26, r45.ldi lk_3, r46.ia el_26, r46.ldi lk_3, t0, hb0])) | (refine AM.stabL_rd r45 (by omega) (by omega) ?_; (simp (maxSteps := 1000000) (disch := first | omega | (simp only [AM.DB, List.length_set, List.length_map]; first | done | omega)) only [AM.RB, Nat.reduceAdd, Nat.reduceMul, Nat.reduceEqDiff, reduceCtorEq, b14_GR11, k15, k16, r45.ia el_26, r45.ldi lk_3, r46.ia el_26, r46.ldi lk_3, t0, hb0])) | (refine AM.stabL_elS r45 (by omega) (by omega) ?_; (simp (maxSteps := 1000000) (disch := first | omega | (simp only [AM.DB, List.length_set, List.length_map]; first | done | omega)) only [AM.RB, Nat.reduceAdd, Nat.reduceMul, Nat.reduceEqDiff, reduceCtorEq, b14_GR11, k15, k16, r45.ia el_26, r45.ldi lk_3, r46.ia el_26, r46.ldi lk_3, t0, hb0])) | (refine AM.stabL_elI r45 (by omega) (by omega) ?_; (simp (maxSteps := 1000000) (disch := first | omega | (simp only [AM.DB, List.length_set, List.length_map]; first | done | omega)) only [AM.RB, Nat.reduceAdd, Nat.reduceMul, Nat.reduceEqDiff, reduceCtorEq, b14_GR11, k15, k16, r45.ia el_26, r45.ldi lk_3, r46.ia el_26, r46.ldi lk_3, t0, hb0])))))
    have hbd' : 0 ≤ b ∧ b < n := hbd
    have bsp := bfs_spec (N := fun x => besL n E x i) besL_dom hbd'.1 hbd'.2
    have frb : Fr none' h h6 := (((fr2.trans fr3).trans fr4).trans fr5).trans fr6
    have wlt : ∀ id, idOf (.slice wa bl'.length wc) id → h3.next ≤ id ∧ id < h4.next := fun id q => ⟨hid4 id q, o4.lt q⟩
    have vlt : ∀ id, idOf (.slice va (jointsL n E i).length vc) id → h.next < id ∧ id < h2.next := fun id q => ⟨hid2 id q, o2.lt q⟩
    generalize hXs : bfs (fun x => besL n E x i) n b = Xs at *
    let core : Nat → AHeap → Prop := fun k h' => Fr none' h h' ∧ h'.get h.next = some (.cells [pv p] 24 false) ∧ h'.get h2.next = some (.cells [.int .i64 i] 3 false) ∧ (∃ ml, h'.get h4.next = some (.map (encM ml)) ∧ ∀ x, mgetL ml x = if x ∈ keysB (Xs.take k) then some (.int .i64 1) else none) ∧
      h'.get (h4.next + 1) = some (.cells [.map (some h4.next)] 59 false) ∧ Ow h' 3 1 (.slice va (jointsL n E i).length vc) (jointsL n E i).length ((jointsL n E i).map (.int .i64)) ∧ Rd h' 3 1 (.slice wa bl'.length wc) bl'.length (bl'.map (.int .i64))
    have hRlt : ∀ id, (id = h.next ∨ id = h2.next ∨ S id) → id < h6.next := fun id q => by
      rcases q with rfl | rfl | q
      · exact lt6
      · exact AM.get_some_lt g36
      · exact x6.lt q
    refine AM.range_iter hp (R := fun id => id = h5.next ∨ id = h5.next + 1 ∨ id = h5.next + 2 ∨ (id = h.next ∨ id = h2.next ∨ S id)) (xs := Xs.map encQ) (AM.entersV_of Try.func44 rfl) (by kernel_rfl) (by kernel_rfl) ?_ ?_ hl6 ?_
      (fun k => AM.Core h6.next (core k)) (fun _ _ _ => False) ?_ (fun _ => AM.Stab.no) (fun env x => (((env.set 28 (x.getD 0 undef)).set 29 (x.getD 1 undef)).set 7 (x.getD 0 undef))) ?_ ?_ ?_ ?_ ?_
    · intro y hy; obtain ⟨q, _, rfl⟩ := List.mem_map.1 hy; rfl
    · rintro id (rfl | rfl | rfl | q)
      · omega
      · omega
      · omega
      · exact hRlt id q
    · rw [← hXs]
      exact walk1_w c1 c2 c3 hbd' hn besL_dom (fun b _ => by have := besL_len n E b i; omega) hRlt (nextBes x6 hn k16 g36) hl6
    · intro k
      refine AM.Core.stab ?_
      rintro u v hb ⟨c1, c2, c3, ⟨ml, c4, c5⟩, c6, c7, c8⟩ fr
      refine ⟨c1.then fr fun id h1 h2 => ?_, fr.get c2 (by omega), fr.get c3 (by omega), ⟨ml, fr.get c4 (by omega), c5⟩, fr.get c6 (by omega), c7.fr fr fun id h1 h2 => ?_, c8.fr fr fun id h1 h2 => ?_⟩
      · have := frb.next; omega
      · have := vlt id h1; omega
      · have := wlt id h1; omega
    · intro y hy h8
      obtain ⟨q, _, rfl⟩ := List.mem_map.1 hy
      simp (maxSteps := 1000000) (disch := first | omega | (simp only [AM.DB, List.length_set, List.length_map]; first | done | omega)) only [AM.RB, Nat.reduceAdd, Nat.reduceMul, Nat.reduceEqDiff, reduceCtorEq, b14_GR11]
    · intro o
      have fr7 : Fr none' h6 (h6.alloc o) := (Fr.refl _ _).alloc _
      refine ⟨⟨Nat.le_succ _, fun id e => by omega⟩, frb.trans fr7, k16.fr0 fr7, g36.fr0 fr7, ⟨[], (gm.fr0 fr6).fr0 fr7, fun x => by simp [mgetL]⟩, (gb.fr0 fr6).fr0 fr7, (((((o2.fr0 fr3).fr0 fr4).fr0 fr5).fr0 fr6).fr0 fr7), r46.fr0 fr7⟩
    · rintro k y A h8 hy ⟨⟨c0, c0'⟩, c1, c2, c3, ⟨ml, c4, c5⟩, c6, c7, c8⟩ hA hL8 hlow8 hR8
      rw [List.getElem?_map] at hy
      obtain ⟨q, hq', rfl⟩ := Option.map_eq_some_iff.1 hy
      have htk : Xs.take (k + 1) = Xs.take k ++ [q] := by rw [List.take_add_one, hq']; rfl
      have lm8 : h8.low ≤ h4.next := by omega
      have lt8 := AM.get_some_lt c4
      (repeat' (first | (simp (maxSteps := 1000000) (disch := first | omega | (simp only [AM.DB, List.length_set, List.length_map]; first | done | omega)) only [AM.RB, Nat.reduceAdd, Nat.reduceMul, Nat.reduceEqDiff, reduceCtorEq, b14_GR11, c6, AM.update_enc mp_59 c4 lm8]) | refine AM.drawW_loose (id := 8) hp (by kernel_rfl) (by kernel_rfl) ?_ | refine AM.opW_tied (by kernel_rfl) ?_ | refine AM.opW_untied (by kernel_rfl) ?_))
      generalize hE_ : AHeap.put h8 _ _ = h9; obtain ⟨g9, fr9, n9, l9⟩ := AM.put_get hE_ (by omega); clear hE_
      refine ⟨Nat.le_refl _, fun id i1 i2 => fr9.old id i1 fun i3 => ?_, ⟨by omega, c0'⟩, c1.then fr9 fun id i1 i2 => ?_, fr9.get c2 (by omega), fr9.get c3 (by omega), ⟨_, g9, fun x => ?_⟩, fr9.get c6 (by omega), c7.fr fr9 fun id i1 i2 => ?_, c8.fr fr9 fun id i1 i2 => ?_⟩
      · rcases i2 with i2 | i2 | i2 | i2 | i2 | i2 | i2
        · have := c0' id i2; omega
        · omega
        · omega
        · omega
        · omega
        · omega
        · have := (x2.lt i2); omega
      · have := fr2.next; omega
      · rw [AM.mget_set, c5 x, htk]
        simp only [keysB, List.map_append, List.map_cons, List.map_nil, List.mem_append, List.mem_singleton]
        by_cases e : x = q.1
        · rw [if_pos e, if_pos (.inr e)]
        · rw [if_neg e]
          by_cases e2 : x ∈ List.map (fun x => x.1) (Xs.take k)
          · rw [if_pos e2, if_pos (.inl e2)]
          · rw [if_neg e2, if_neg (fun q => q.elim e2 e)]
      · have := vlt id i1; omega
      · have := wlt id i1; omega
    · rintro A hZ ⟨_, c1, c2, c3, ⟨ml, c4, c5⟩, c6, c7, c8⟩ hA hnx hlw'
      rw [List.length_map, List.take_length] at c5
      have hlZ : hZ.low ≤ hZ.next := by omega
      (repeat' (first | (simp (maxSteps := 1000000) (disch := first | omega | (simp only [AM.DB, List.length_set, List.length_map]; first | done | omega)) only [AM.RB, Nat.reduceAdd, Nat.reduceMul, Nat.reduceEqDiff, reduceCtorEq, b14_GR11]) | refine AM.drawW_loose (id := 8) hp (by kernel_rfl) (by kernel_rfl) ?_ | refine AM.opW_tied (by kernel_rfl) ?_ | refine AM.opW_untied (by kernel_rfl) ?_))
      refine grContains_w (joints2 c5) ⟨⟨_, c6⟩, c4⟩ c8 (by omega) ?_
      rw [← jp2]
      cases hj : jointP n E i with
      | true =>
        rw [hj, if_pos rfl] at rs
        (repeat' (first | (simp (maxSteps := 1000000) (disch := first | omega | (simp only [AM.DB, List.length_set, List.length_map]; first | done | omega)) only [AM.RB, Nat.reduceAdd, Nat.reduceMul, Nat.reduceEqDiff, reduceCtorEq, b14_GR11, c3]) | refine AM.drawW_loose (id := 8) hp (by kernel_rfl) (by kernel_rfl) ?_ | refine AM.opW_tied (by kernel_rfl) ?_ | refine AM.opW_untied (by kernel_rfl) ?_))
        generalize hE_ : AHeap.alloc hZ _ = h9; obtain ⟨g9, fr9, n9, l9⟩ := AM.new_get hE_; clear hE_
        refine AM.appends_w ap_26 ap_26 (c7.fr0 fr9) (AM.Rd.whole (n := 1) (c := [.int .i64 (i : Int)]) g9 rfl) rfl (by omega) (AM.fits (by omega) (by omega)) (AM.fits' (by omega)) fun v10 h10 o10 fr10 hid10 => ?_
        have nZ := c1.next
        (repeat' (first | (simp (maxSteps := 1000000) (disch := first | omega | (simp only [AM.DB, List.length_set, List.length_map]; first | done | omega)) only [AM.RB, Nat.reduceAdd, Nat.reduceMul, Nat.reduceEqDiff, reduceCtorEq, b14_GR11, AM.wrap_i64]) | refine AM.drawW_loose (id := 8) hp (by kernel_rfl) (by kernel_rfl) ?_ | refine AM.opW_tied (by kernel_rfl) ?_ | refine AM.opW_untied (by kernel_rfl) ?_))
        refine ⟨(i + 1, v10), by simp only; omega, ?_, by simp only; omega, (c1.trans fr9).fresh fr10 (fun id q => by have := vlt id q; omega), fr10.get (c2.fr0 fr9) (fun q => by have := vlt _ q; omega), ?_, fun id q => ?_⟩
        · simp (maxSteps := 1000000) (disch := first | omega | (simp only [AM.DB, List.length_set, List.length_map]; first | done | omega)) only [AM.RB, Nat.reduceAdd, Nat.reduceMul, Nat.reduceEqDiff, reduceCtorEq, b14_GR11]
          first | rfl | skip
        · simp only
          rw [rs]
          simpa using o10
        · rcases hid10 id q with q | q
          · exact (vlt id q).1
          · have := frb.next; omega
      | false =>
        rw [hj] at rs
        simp only [Bool.false_eq_true, if_false, List.append_nil] at rs
        (repeat' (first | (simp (maxSteps := 1000000) (disch := first | omega | (simp only [AM.DB, List.length_set, List.length_map]; first | done | omega)) only [AM.RB, Nat.reduceAdd, Nat.reduceMul, Nat.reduceEqDiff, reduceCtorEq, b14_GR11, AM.wrap_i64]) | refine AM.drawW_loose (id := 8) hp (by kernel_rfl) (by kernel_rfl) ?_ | refine AM.opW_tied (by kernel_rfl) ?_ | refine AM.opW_untied (by kernel_rfl) ?_))
        refine ⟨(i + 1, _), by simp only; omega, ?_, by simp only; omega, c1, c2, by simp only; rw [rs]; exact c7, hid2⟩
        simp (maxSteps := 1000000) (disch := first | omega | (simp only [AM.DB, List.length_set, List.length_map]; first | done | omega)) only [AM.RB, Nat.reduceAdd, Nat.reduceMul, Nat.reduceEqDiff, reduceCtorEq, b14_GR11]
        first | rfl | skip
    · intro _ _ _ q; exact q.elim
end Go.Proofs.Ytnkbdbopiancmaa

namespace Go.Proofs.Ytnkbdbopiancmaa
open Go.AM
set_option maxRecDepth 8000
end Go.Proofs.Ytnkbdbopiancmaa

namespace Go.Proofs.Ytnkbdbopiancmaa
open Go.AM

theorem array_inv {P : Program} {h : AHeap} {t : TypeId} {n : Nat} {e : TypeId} {cs : List Value} (ht : P.underlying t = some (.array n e)) (q : AD P h t cs) : cs.length = n * P.cellsOf e ∧ ∀ i, i < n → AD P h e ((cs.drop (i * P.cellsOf e)).take (P.cellsOf e)) := by
  cases q with
  | array ht' h1 h2 => rw [ht] at ht'; cases ht'; exact ⟨h1, h2⟩
  | int n ht' hw => rw [ht] at ht'; cases ht'
  | bool b ht' => rw [ht] at ht'; cases ht'
  | string s ht' => rw [ht] at ht'; cases ht'
  | struct ht' => rw [ht] at ht'; cases ht'
  | nil ht' => rw [ht] at ht'; cases ht'
  | empty ht' => rw [ht] at ht'; cases ht'
  | slice ht' => rw [ht] at ht'; cases ht'
/-- Two numbers. -/
theorem arr_int {h : AHeap} {cs : List Value} (q : AD Try.prog h 42 cs) : ∃ x : Int × Int, cs = [.int .i64 x.1, .int .i64 x.2] := by
  obtain ⟨hl, hf⟩ := array_inv ul_42 q
  have hc : Try.prog.cellsOf 3 = 1 := by kernel_rfl
  rw [hc] at hl hf
  match cs, hl with
  | [x, y], _ =>
    obtain ⟨a, ea, ha⟩ := (show AD Try.prog h 3 [x] from hf 0 (by omega)).int_inv ul_3
    obtain ⟨b, eb, hb⟩ := (show AD Try.prog h 3 [y] from hf 1 (by omega)).int_inv ul_3
    cases ea
    cases eb
    exact ⟨(a, b), rfl⟩

abbrev encP (x : Int × Int) : List Value := [.int .i64 x.1, .int .i64 x.2]
theorem encP_len (x : Int × Int) : (encP x).length = 2 := rfl

theorem edges_in {h : AHeap} {a : Value} (q : ADv Try.prog h 22 a) : ∃ M : List (Int × Int), Rd h 42 2 a M.length (M.flatMap encP) ∧ (M.length : Int) ≤ 9223372036854775807 := by
  have q1 := q.cells1 (by kernel_rfl)
  obtain ⟨w, M, hw2, hM⟩ := AM.AD.rd (e := 42) (sz := 2) (t := 22) ul_22 (by kernel_rfl) encP (fun cs hcs => arr_int hcs) q1
  cases hw2
  refine ⟨M, hM, ?_⟩
  obtain ⟨b, c, rfl⟩ := hM.form
  rcases q1.slice_inv ul_22 with e | ⟨id, c0, e0, e, _⟩ | ⟨id, len, cap, c0, e, h1, h2, _⟩
  · simp only [List.cons.injEq, Value.slice.injEq, and_true] at e; omega
  · simp only [List.cons.injEq, Value.slice.injEq, and_true] at e; omega
  · simp only [List.cons.injEq, Value.slice.injEq, and_true] at e
    unfold maxLen at h2; omega

end Go.Proofs.Ytnkbdbopiancmaa

namespace Go.Proofs.Ytnkbdbopiancmaa
open Go.AM
set_option maxRecDepth 8000
theorem b17_GR13 : type_of% (And.intro (@AM.bin_add) (And.intro (@AM.bin_lss) (And.intro (@AM.bin_neq) (And.intro (@AM.iaO_ok) (And.intro (AM.ia_slice el_26) (And.intro (@AM.ldO_agg) (And.intro (@AM.ldO_one) (And.intro (@AM.ld_ptr) (And.intro (AM.len_slice ul_26) (And.intro (@lk_3) (And.intro (@AM.op_binOp) (And.intro (@AM.op_indexAddr) (And.intro (@AM.op_len) (@AM.op_load)))))))))))))) := And.intro (@AM.bin_add) (And.intro (@AM.bin_lss) (And.intro (@AM.bin_neq) (And.intro (@AM.iaO_ok) (And.intro (AM.ia_slice el_26) (And.intro (@AM.ldO_agg) (And.intro (@AM.ldO_one) (And.intro (@AM.ld_ptr) (And.intro (AM.len_slice ul_26) (And.intro (@lk_3) (And.intro (@AM.op_binOp) (And.intro (@AM.op_indexAddr) (And.intro (@AM.op_len) (@AM.op_load)))))))))))))
theorem same_w {sa sb : Value} {na nb : Nat} {la lb : List Int} {h : AHeap} (ha : Rd h 3 1 sa na (la.map (.int .i64))) (hb : Rd h 3 1 sb nb (lb.map (.int .i64))) (hn : na ≤ 4000000000) {Q : VQ}
    (hq : Q (.bool (decide (la = lb))) h) : W 17 [sa, sb] h Q := by
  obtain ⟨aa, ca, rfl⟩ := ha.form
  obtain ⟨ab, cb, rfl⟩ := hb.form
  have hla : la.length = na := by simpa using ha.length
  have hlb : lb.length = nb := by simpa using hb.length
  refine AM.enter hp (fn := Try.f17) (rs := [.tmp 4]) (nt := 26) (by kernel_rfl) Try.func17 rfl rfl rfl (by kernel_rfl) ?_
  simp (maxSteps := 1000000) (disch := first | omega | (simp only [AM.DB, List.length_set, List.length_map]; first | done | omega)) only [AM.RB, Nat.reduceAdd, Nat.reduceMul, Nat.reduceEqDiff, reduceCtorEq, b17_GR13]
  refine AM.condV_split (fun he => ?_) (fun he => ?_)
  case' refine_2 =>
    simp (maxSteps := 1000000) (disch := first | omega | (simp only [AM.DB, List.length_set, List.length_map]; first | done | omega)) only [AM.RB, Nat.reduceAdd, Nat.reduceMul, Nat.reduceEqDiff, reduceCtorEq, b17_GR13]
    have : decide (la = lb) = false := by
      rw [decide_eq_false_iff_not]; rintro rfl; omega
    rw [this] at hq; exact hq
  have he' : na = nb := by omega
  subst he'
  simp (maxSteps := 1000000) (disch := first | omega | (simp only [AM.DB, List.length_set, List.length_map]; first | done | omega)) only [AM.RB, Nat.reduceAdd, Nat.reduceMul, Nat.reduceEqDiff, reduceCtorEq, b17_GR13]
  refine AM.loop_w hp 26 (fun i : Nat => [(0, .slice aa na ca), (1, .slice ab na cb), (12, .int .i64 na), (13, .int .i64 i)])
    (fun i h' => i ≤ na ∧ h' = h ∧ ∀ j, j < i → la.getD j 0 = lb.getD j 0) (fun i => na - i) (by kernel_rfl) 0 ?_ ?_ ?_
  · simp (maxSteps := 1000000) (disch := first | omega | (simp only [AM.DB, List.length_set, List.length_map]; first | done | omega)) only [AM.RB, Nat.reduceAdd, Nat.reduceMul, Nat.reduceEqDiff, reduceCtorEq, b17_GR13]
  · exact ⟨Nat.zero_le _, rfl, fun j hj => by omega⟩
  · rintro i h1 ρ ⟨hi, rfl, hall⟩
    simp (maxSteps := 1000000) (disch := first | omega | (simp only [AM.DB, List.length_set, List.length_map]; first | done | omega)) only [AM.RB, Nat.reduceAdd, Nat.reduceMul, Nat.reduceEqDiff, reduceCtorEq, b17_GR13]
    refine AM.condV_split (fun hlt => ?_) (fun hlt => ?_)
    · simp (maxSteps := 1000000) (disch := first | omega | (simp only [AM.DB, List.length_set, List.length_map]; first | done | omega)) only [AM.RB, Nat.reduceAdd, Nat.reduceMul, Nat.reduceEqDiff, reduceCtorEq, b17_GR13]
      refine AM.drawW_fine hp (by kernel_rfl) (by kernel_rfl) (by kernel_rfl) ?_
      simp (maxSteps := 1000000) (disch := first | omega | (simp only [AM.DB, List.length_set, List.length_map]; first | done | omega)) only [AM.RB, Nat.reduceAdd, Nat.reduceMul, Nat.reduceEqDiff, reduceCtorEq, b17_GR13, ha.ia el_26, ha.ldi lk_3, hb.ia el_26, hb.ldi lk_3]
      refine AM.condV_split (fun heq => ?_) (fun heq => ?_)
      · simp (maxSteps := 1000000) (disch := first | omega | (simp only [AM.DB, List.length_set, List.length_map]; first | done | omega)) only [AM.RB, Nat.reduceAdd, Nat.reduceMul, Nat.reduceEqDiff, reduceCtorEq, b17_GR13, AM.wrap_i64]
        refine ⟨i + 1, by omega, ?_, by omega, fun j hj => ?_⟩
        · simp (maxSteps := 1000000) (disch := first | omega | (simp only [AM.DB, List.length_set, List.length_map]; first | done | omega)) only [AM.RB, Nat.reduceAdd, Nat.reduceMul, Nat.reduceEqDiff, reduceCtorEq, b17_GR13]
        · by_cases e : j = i
          · subst e; simpa using heq
          · exact hall j (by omega)
      · simp (maxSteps := 1000000) (disch := first | omega | (simp only [AM.DB, List.length_set, List.length_map]; first | done | omega)) only [AM.RB, Nat.reduceAdd, Nat.reduceMul, Nat.reduceEqDiff, reduceCtorEq, b17_GR13]
        have : decide (la = lb) = false := by
          rw [decide_eq_false_iff_not]; rintro rfl; exact heq rfl
        rw [this] at hq; exact hq
    · simp (maxSteps := 1000000) (disch := first | omega | (simp only [AM.DB, List.length_set, List.length_map]; first | done | omega)) only [AM.RB, Nat.reduceAdd, Nat.reduceMul, Nat.reduceEqDiff, reduceCtorEq, b17_GR13]
      have : decide (la = lb) = true := by
        rw [decide_eq_true_iff]
        refine List.ext_getElem (by omega) fun j h2 h3 => ?_
        have := hall j (by omega)
        simpa [List.getD, h2, h3] using this
      rw [this] at hq; exact hq


def addsE (n : Nat) (E : Nat → Nat → Bool) (M : List (Int × Int)) : Nat → Nat → Bool := M.foldl (fun E x => addE n E x.1 x.2) E
theorem addsE_succ (n : Nat) (E : Nat → Nat → Bool) (M : List (Int × Int)) {i : Nat} (hi : i < M.length) : addsE n E (M.take (i + 1)) = addE n (addsE n E (M.take i)) (M.getD i (0, 0)).1 (M.getD i (0, 0)).2 := by
  unfold addsE
  have : (M.take (i + 1)).foldl (fun E x => addE n E x.1 x.2) E = addE n ((M.take i).foldl (fun E x => addE n E x.1 x.2) E) M[i].1 M[i].2 := by
    rw [List.take_succ_eq_append_getElem hi, List.foldl_append]; rfl
  rw [this]
  simp [List.getD, List.getElem?_eq_getElem hi]
abbrev noE : Nat → Nat → Bool := fun _ _ => false
end Go.Proofs.Ytnkbdbopiancmaa

namespace Go.Proofs.Ytnkbdbopiancmaa
open Go.AM
set_option maxRecDepth 8000
end Go.Proofs.Ytnkbdbopiancmaa

namespace Go.Proofs.Ytnkbdbopiancmaa
open Go.AM
set_option maxRecDepth 8000
/-! ### Distances -/
theorem dI_is {n : Nat} {E : Nat → Nat → Bool} {a : Int} (h0 : 0 ≤ a) (h1 : a < n) : IsDist (outsI n E) n a (dI n E a) := by
  unfold dI
  rw [if_pos ⟨h0, h1⟩]
  exact (bfs_spec outsI_dom h0 h1).1
end Go.Proofs.Ytnkbdbopiancmaa

namespace Go.Proofs.Ytnkbdbopiancmaa
open Go.AM
end Go.Proofs.Ytnkbdbopiancmaa

namespace Go.Proofs.Ytnkbdbopiancmaa
open Go.AM

/-! ### Strong parts, plain -/
theorem markL_get (there : List Int) (part : Int) : ∀ (xs : List (Int × Int)) (out : List Int) (b : Nat), b < out.length → (markL there part xs out).getD b 0 = if (∃ q ∈ xs, q.1.toNat = b) ∧ 0 ≤ there.getD b 0 then part else out.getD b 0
  | [], out, b, _ => by
    rw [if_neg (by rintro ⟨⟨q, hq, _⟩, _⟩; cases hq)]; rfl
  | q :: xs, out, b, hb => by
    show (markL there part xs (mark1 there part out q)).getD b 0 = _
    rw [markL_get there part xs _ b (by rw [mark1_len]; exact hb)]
    by_cases h1 : (∃ q ∈ xs, q.1.toNat = b) ∧ 0 ≤ there.getD b 0
    · rw [if_pos h1, if_pos ⟨(by obtain ⟨⟨z, hz, e⟩, _⟩ := h1; exact ⟨z, List.mem_cons_of_mem _ hz, e⟩), h1.2⟩]
    · rw [if_neg h1]
      unfold mark1
      by_cases h2 : 0 ≤ there.getD q.1.toNat 0
      · rw [if_pos h2, getD_set _ _ _ _ hb]
        by_cases h3 : q.1.toNat = b
        · rw [if_pos h3, if_pos ⟨⟨q, List.mem_cons_self .., h3⟩, h3 ▸ h2⟩]
        · rw [if_neg h3, if_neg]
          rintro ⟨⟨z, hz, e⟩, h4⟩
          rcases List.mem_cons.1 hz with rfl | hz
          · exact h3 e
          · exact h1 ⟨⟨z, hz, e⟩, h4⟩
      · rw [if_neg h2, if_neg]
        rintro ⟨⟨z, hz, e⟩, h4⟩
        rcases List.mem_cons.1 hz with rfl | hz
        · exact h2 (e ▸ h4)
        · exact h1 ⟨⟨z, hz, e⟩, h4⟩
/-- Each reaches the other one. -/
def Mut (n : Nat) (E : Nat → Nat → Bool) (a b : Int) : Prop := Rc (outsI n E) a b ∧ Rc (innI n E) a b
theorem in_out {n : Nat} {E : Nat → Nat → Bool} {a b : Int} : Rc (innI n E) a b ↔ Rc (outsI n E) b a :=
  ⟨fun h => (Rc.rev (fun _ => True) trivial (fun b c _ hc => ⟨by rw [mem_innI] at hc; rw [mem_outsI]; exact hc, trivial⟩) h).1,
    fun h => (Rc.rev (fun _ => True) trivial (fun b c _ hc => ⟨by rw [mem_outsI] at hc; rw [mem_innI]; exact hc, trivial⟩) h).1⟩
theorem Mut.refl (n : Nat) (E : Nat → Nat → Bool) (a : Int) : Mut n E a a := ⟨Rc.refl _ _, Rc.refl _ _⟩
theorem Mut.symm {n : Nat} {E : Nat → Nat → Bool} {a b : Int} (h : Mut n E a b) : Mut n E b a := ⟨in_out.1 h.2, in_out.2 h.1⟩
theorem Mut.trans {n : Nat} {E : Nat → Nat → Bool} {a b c : Int} (h : Mut n E a b) (g : Mut n E b c) : Mut n E a c := ⟨h.1.trans g.1, h.2.trans g.2⟩
theorem dI_reach {n : Nat} {E : Nat → Nat → Bool} {a b : Nat} (ha : a < n) (hb : b < n) : 0 ≤ (dI n E a).getD b 0 ↔ Rc (outsI n E) a b := by
  have := (dI_is (E := E) (show 0 ≤ (a : Int) by omega) (show (a : Int) < n by omega)).reach (b := b) (by omega)
  rwa [Int.toNat_natCast] at this
theorem strong_step {n : Nat} (E : Nat → Nat → Bool) {a : Nat} (ha : a < n) : ((0 ≤ (strongS n E a).1.getD a 0) ∧ strongS n E (a + 1) = strongS n E a) ∨ ((strongS n E a).1.getD a 0 < 0 ∧ (strongS n E (a + 1)).2 = (strongS n E a).2 + 1 ∧
    ∀ b : Nat, b < n → (Mut n E a b ∧ (strongS n E (a + 1)).1.getD b 0 = (strongS n E a).2) ∨ (¬ Mut n E a b ∧ (strongS n E (a + 1)).1.getD b 0 = (strongS n E a).1.getD b 0)) := by
  by_cases h : 0 ≤ (strongS n E a).1.getD a 0
  · exact .inl ⟨h, by rw [strongS, if_pos h]⟩
  · refine .inr ⟨by omega, by rw [strongS, if_neg h], fun b hb => ?_⟩
    rw [strongS, if_neg h]
    simp only
    rw [markL_get _ _ _ _ b (by rw [(strongS_len n E a).1]; exact hb)]
    have k : ((∃ q ∈ bfs (innI n E) n a, q.1.toNat = b) ∧ 0 ≤ (dI n E a).getD b 0) ↔ Mut n E a b := by
      rw [dI_reach ha hb]
      have bk := bfs_keys (N := innI n E) (n := n) innI_dom (r := a) (by omega) (by omega) b
      have bs := (bfs_spec (N := innI n E) (n := n) innI_dom (r := a) (by omega) (by omega)).2.1
      constructor
      · rintro ⟨⟨q, hq, e⟩, g⟩
        refine ⟨g, bk.1 (List.mem_map.2 ⟨q, hq, ?_⟩)⟩
        have := (bs q hq).1
        omega
      · rintro ⟨g, g2⟩
        obtain ⟨q, hq, e⟩ := List.mem_map.1 (bk.2 g2)
        exact ⟨⟨q, hq, by rw [e]; exact Int.toNat_natCast b⟩, g⟩
    by_cases m : Mut n E a b
    · exact .inl ⟨m, by rw [if_pos (k.2 m)]⟩
    · exact .inr ⟨m, by rw [if_neg (fun q => m (k.1 q))]⟩
structure StrongI (n : Nat) (E : Nat → Nat → Bool) (m : Nat) : Prop where
  i1 : ∀ b : Nat, b < n → (0 ≤ (strongS n E m).1.getD b 0 ↔ ∃ c : Nat, c < m ∧ Mut n E c b)
  i2 : ∀ b : Nat, b < n → (strongS n E m).1.getD b 0 < (strongS n E m).2
  i3 : ∀ b c : Nat, b < n → c < n → 0 ≤ (strongS n E m).1.getD b 0 → ((strongS n E m).1.getD b 0 = (strongS n E m).1.getD c 0 ↔ Mut n E b c)
theorem strongI (n : Nat) (E : Nat → Nat → Bool) : ∀ m, m ≤ n → StrongI n E m
  | 0, _ => by
    have e : ∀ b : Nat, b < n → (strongS n E 0).1.getD b 0 = -1 := fun b hb => by simp [strongS, List.getD, hb]
    exact ⟨fun b hb => by rw [e b hb]; exact ⟨fun h => by omega, fun ⟨c, h, _⟩ => by omega⟩, fun b hb => by rw [e b hb]; simp [strongS], fun b c hb hc h => by rw [e b hb] at h; omega⟩
  | m + 1, h => by
    obtain ⟨i1, i2, i3⟩ := strongI n E m (by omega)
    have pp := (strongS_len n E m).2.1
    rcases strong_step E (show m < n by omega) with ⟨p1, p2⟩ | ⟨p1, p2, p3⟩
    · rw [show StrongI n E (m + 1) ↔ StrongI n E (m + 1) from Iff.rfl]
      refine ⟨fun b hb => ?_, fun b hb => by rw [p2]; exact i2 b hb, fun b c hb hc => by rw [p2]; exact i3 b c hb hc⟩
      rw [p2, i1 b hb]
      constructor
      · rintro ⟨c, hc, q⟩; exact ⟨c, by omega, q⟩
      · rintro ⟨c, hc, q⟩
        by_cases e : c = m
        · subst e
          obtain ⟨d, hd, q'⟩ := (i1 c (by omega)).1 p1
          exact ⟨d, hd, q'.trans q⟩
        · exact ⟨c, by omega, q⟩
    · refine ⟨fun b hb => ?_, fun b hb => ?_, fun b c hb hc hz => ?_⟩
      · rcases p3 b hb with ⟨q, e⟩ | ⟨q, e⟩
        · rw [e]; exact ⟨fun _ => ⟨m, by omega, q⟩, fun _ => pp⟩
        · rw [e, i1 b hb]
          constructor
          · rintro ⟨c, hc, t⟩; exact ⟨c, by omega, t⟩
          · rintro ⟨c, hc, t⟩
            by_cases e : c = m
            · subst e; exact absurd t q
            · exact ⟨c, by omega, t⟩
      · have := i2 b hb
        rcases p3 b hb with ⟨q, e⟩ | ⟨q, e⟩ <;> omega
      · have b2 := i2 b hb
        have c2 := i2 c hc
        rcases p3 b hb with ⟨q, e⟩ | ⟨q, e⟩ <;> rcases p3 c hc with ⟨q', e'⟩ | ⟨q', e'⟩
        · rw [e, e']; exact ⟨fun _ => q.symm.trans q', fun _ => rfl⟩
        · rw [e, e']; exact ⟨fun t => by omega, fun t => absurd (q.trans t) q'⟩
        · rw [e, e']; exact ⟨fun t => by omega, fun t => absurd (q'.trans t.symm) q⟩
        · rw [e] at hz
          rw [e, e']; exact i3 b c hb hc hz
theorem strong_mut {n : Nat} {E : Nat → Nat → Bool} {a b : Nat} (ha : a < n) (hb : b < n) : (strongL n E).getD a 0 = (strongL n E).getD b 0 ↔ Rc (outsI n E) a b ∧ Rc (outsI n E) b a := by
  obtain ⟨i1, _, i3⟩ := strongI n E n (Nat.le_refl _)
  rw [i3 a b ha hb ((i1 a ha).2 ⟨a, ha, Mut.refl _ _ _⟩)]
  exact ⟨fun m => ⟨m.1, in_out.1 m.2⟩, fun m => ⟨m.1, in_out.2 m.2⟩⟩

/-! ### Joints, plain -/
theorem mem_besL {n : Nat} {E : Nat → Nat → Bool} {a w x : Int} : x ∈ besL n E a w ↔ (eI n E a x = true ∨ eI n E x a = true) ∧ x ≠ w := by
  unfold besL
  rw [List.mem_filter, List.mem_append, mem_outsI, mem_innI]
  simp
theorem bes_sym {n : Nat} {E : Nat → Nat → Bool} {w x y : Int} (hx : x ≠ w) (h : Rc (fun z => besL n E z w) x y) : Rc (fun z => besL n E z w) y x ∧ y ≠ w :=
  Rc.rev (fun z => z ≠ w) hx (fun b c hb hc => by
    rw [mem_besL] at hc
    exact ⟨by rw [mem_besL]; exact ⟨hc.1.symm, hb⟩, hc.2⟩) h
theorem jointP_iff {n : Nat} {E : Nat → Nat → Bool} {a : Int} (ha : 0 ≤ a ∧ a < n) : jointP n E a = true ↔ ∃ x y, x ∈ besL n E a a ∧ y ∈ besL n E a a ∧ ¬ Rc (fun z => besL n E z a) x y := by
  unfold jointP
  have dom := fun x (hx : x ∈ besL n E a a) => besL_dom a ha x hx
  have ne := fun x (hx : x ∈ besL n E a a) => (mem_besL.1 hx).2
  generalize hL : besL n E a a = L at *
  cases L with
  | nil => exact ⟨fun h => (by cases h), fun ⟨x, _, hx, _⟩ => (by cases hx)⟩
  | cons b l =>
    have hb : b ∈ b :: l := List.mem_cons_self ..
    have key := fun c => bfs_keys (N := fun x => besL n E x a) (n := n) besL_dom (dom b hb).1 (dom b hb).2 c
    simp only [List.any_eq_true, Bool.not_eq_true', decide_eq_false_iff_not]
    constructor
    · rintro ⟨c, hc, q⟩
      exact ⟨b, c, hb, hc, fun r => q ((key c).2 r)⟩
    · rintro ⟨x, y, hx, hy, q⟩
      by_cases h : ∃ c, c ∈ b :: l ∧ ¬ Rc (fun z => besL n E z a) b c
      · obtain ⟨c, hc, q⟩ := h
        exact ⟨c, hc, fun r => q ((key c).1 r)⟩
      · exfalso
        have al : ∀ c, c ∈ b :: l → Rc (fun z => besL n E z a) b c := fun c hc => Classical.byContradiction fun q => h ⟨c, hc, q⟩
        exact q ((bes_sym (ne b hb) (al x hx)).1.trans (al y hy))
end Go.Proofs.Ytnkbdbopiancmaa

namespace Go.Proofs.Ytnkbdbopiancmaa
open Go.AM

/-! ### Joints and loose joining, plain -/
/-- Both ways. -/
def uE (B : Nat → Nat → Bool) (x y : Nat) : Bool := B x y || B y x
def lE (B : Nat → Nat → Bool) (a : Nat) (x y : Nat) : Bool := uE B x y && !decide (x = a) && !decide (y = a)
theorem eI_u {n : Nat} {E : Nat → Nat → Bool} {b c : Int} : eI n (uE E) b c = true ↔ eI n E b c = true ∨ eI n E c b = true := by
  unfold eI uE
  simp only [Bool.and_eq_true, Bool.or_eq_true, decide_eq_true_iff]
  constructor
  · rintro ⟨h, g | g⟩
    · exact .inl ⟨h, g⟩
    · exact .inr ⟨⟨h.2, h.1⟩, g⟩
  · rintro (⟨h, g⟩ | ⟨h, g⟩)
    · exact ⟨h, .inl g⟩
    · exact ⟨⟨h.2, h.1⟩, .inr g⟩
theorem eI_l {n a : Nat} {E : Nat → Nat → Bool} {b c : Int} : eI n (lE E a) b c = true ↔ (eI n E b c = true ∨ eI n E c b = true) ∧ b ≠ a ∧ c ≠ a := by
  rw [← eI_u]
  unfold eI lE
  simp only [Bool.and_eq_true, decide_eq_true_iff, Bool.not_eq_true', decide_eq_false_iff_not]
  constructor
  · rintro ⟨h, ⟨g, g1⟩, g2⟩
    exact ⟨⟨h, g⟩, by omega, by omega⟩
  · rintro ⟨⟨h, g⟩, g1, g2⟩
    exact ⟨h, ⟨g, by omega⟩, by omega⟩
theorem less_bes {n a : Nat} {E : Nat → Nat → Bool} {x y : Int} (hx : x ≠ a) : Rc (outsI n (lE E a)) x y ↔ Rc (fun z => besL n E z a) x y := by
  constructor
  · intro h
    refine (Rc.mono (fun _ => True) trivial (fun b c _ hc => ⟨?_, trivial⟩) h).1
    rw [mem_outsI, eI_l] at hc
    rw [mem_besL]
    exact ⟨hc.1, hc.2.2⟩
  · intro h
    refine (Rc.mono (fun z => z ≠ a) hx (fun b c hb hc => ?_) h).1
    rw [mem_besL] at hc
    exact ⟨by rw [mem_outsI, eI_l]; exact ⟨hc.1, hb, hc.2⟩, hc.2⟩
theorem whole_bes {n a : Nat} {E : Nat → Nat → Bool} {x : Int} (h : Rc (outsI n (uE E)) a x) : x = a ∨ ∃ y, y ∈ besL n E a a ∧ Rc (fun z => besL n E z a) y x := by
  obtain ⟨k, w⟩ := h
  induction w with
  | zero => exact .inl rfl
  | @step k b c w hc ih =>
    by_cases e : c = a
    · exact .inl e
    · rw [mem_outsI, eI_u] at hc
      refine .inr ?_
      rcases ih with rfl | ⟨y, hy, r⟩
      · exact ⟨c, mem_besL.2 ⟨hc, e⟩, Rc.refl _ _⟩
      · exact ⟨y, hy, r.step (mem_besL.2 ⟨hc, e⟩)⟩
theorem bes_whole {n a : Nat} {E : Nat → Nat → Bool} {y : Int} (h : y ∈ besL n E a a) : Rc (outsI n (uE E)) a y ∧ y ≠ a := by
  rw [mem_besL] at h
  exact ⟨Rc.one (by rw [mem_outsI, eI_u]; exact h.1), h.2⟩
theorem mem_reachP {n : Nat} {E : Nat → Nat → Bool} {a : Nat} (ha : a < n) {x : Int} : x ∈ reachP (dI n E a) (dI n E a).length ↔ (0 ≤ x ∧ x < n) ∧ Rc (outsI n E) a x := by
  have l := (dI_is (E := E) (show 0 ≤ (a : Int) by omega) (show (a : Int) < n by omega)).len
  unfold reachP
  rw [l, List.mem_filter, List.mem_map]
  constructor
  · rintro ⟨⟨k, hk, rfl⟩, h⟩
    have := List.mem_range.1 hk
    refine ⟨by simp only [Int.ofNat_eq_natCast]; omega, ?_⟩
    have h := of_decide_eq_true h
    simp only [Int.ofNat_eq_natCast, Int.toNat_natCast] at h
    exact (dI_reach ha this).1 h
  · rintro ⟨h, r⟩
    refine ⟨⟨x.toNat, List.mem_range.2 (by omega), by simp only [Int.ofNat_eq_natCast]; omega⟩, decide_eq_true ?_⟩
    refine (dI_reach ha (by omega)).2 ?_
    rwa [show ((x.toNat : Nat) : Int) = x by omega]
/-- What the law tells apart is what a joint is. -/
theorem joint_none {n a : Nat} {E : Nat → Nat → Bool} (ha : a < n) (h : ∀ x, x ∈ reachP (dI n (uE E) a) (dI n (uE E) a).length → x = a) : jointP n E a = false := by
  rw [← Bool.not_eq_true, jointP_iff (show 0 ≤ (a : Int) ∧ (a : Int) < n by omega)]
  rintro ⟨x, y, hx, hy, _⟩
  have dm := besL_dom (n := n) (E := E) (w := a) a (by omega) x hx
  obtain ⟨r, ne⟩ := bes_whole hx
  exact ne (h x ((mem_reachP ha).2 ⟨dm, r⟩))
theorem joint_apart {n a : Nat} {E : Nat → Nat → Bool} (ha : a < n) {f : Int} (hf : f ∈ reachP (dI n (uE E) a) (dI n (uE E) a).length) (hfa : f ≠ a) :
    jointP n E a = true ↔ ∃ x, x ∈ reachP (dI n (uE E) a) (dI n (uE E) a).length ∧ x ≠ a ∧ (dI n (lE E a) f).getD x.toNat 0 < 0 := by
  rw [jointP_iff (show 0 ≤ (a : Int) ∧ (a : Int) < n by omega)]
  obtain ⟨df, rf⟩ := (mem_reachP ha).1 hf
  have isf := dI_is (E := lE E a) df.1 df.2
  have sy := fun (x y : Int) (hx : x ≠ a) r => bes_sym (n := n) (E := E) (w := (a : Int)) (x := x) (y := y) hx r
  constructor
  · rintro ⟨x, y, hx, hy, q⟩
    have dx := besL_dom (n := n) (E := E) (w := a) a (by omega) x hx
    have dy := besL_dom (n := n) (E := E) (w := a) a (by omega) y hy
    obtain ⟨rx, nx⟩ := bes_whole hx
    obtain ⟨ry, ny⟩ := bes_whole hy
    by_cases p : 0 ≤ (dI n (lE E a) f).getD x.toNat 0
    · by_cases p2 : 0 ≤ (dI n (lE E a) f).getD y.toNat 0
      · exfalso
        have g1 := (less_bes hfa).1 ((isf.reach dx).1 p)
        have g2 := (less_bes hfa).1 ((isf.reach dy).1 p2)
        exact q ((sy _ _ hfa g1).1.trans g2)
      · exact ⟨y, (mem_reachP ha).2 ⟨dy, ry⟩, ny, by omega⟩
    · exact ⟨x, (mem_reachP ha).2 ⟨dx, rx⟩, nx, by omega⟩
  · rintro ⟨x, hx, nx, neg⟩
    obtain ⟨dx, rx⟩ := (mem_reachP ha).1 hx
    rcases whole_bes rf with e | ⟨yf, hyf, gf⟩
    · exact absurd e hfa
    rcases whole_bes rx with e | ⟨yx, hyx, gx⟩
    · exact absurd e nx
    refine ⟨yf, yx, hyf, hyx, fun r => ?_⟩
    have nyf := (bes_whole hyf).2
    have g : Rc (fun z => besL n E z a) f x := ((sy _ _ nyf gf).1.trans r).trans gx
    have := (isf.reach dx).2 ((less_bes hfa).2 g)
    omega

/-! ### Two graphs that grow beside what is kept -/
def TwoG (h : AHeap) (B : Nat → Prop) (k pw pl : Nat) (Ew El : Nat → Nat → Bool) : Prop := ∃ Sw Sl : Nat → Prop, Gt h pw k Ew Sw ∧ Gt h pl k El Sl ∧ (∀ id, Sw id → ¬ Sl id ∧ ¬ B id) ∧ (∀ id, Sl id → ¬ B id) ∧ ∀ id, B id → id < h.next
theorem TwoG.fr0 {h h' : AHeap} {B : Nat → Prop} {k pw pl : Nat} {Ew El : Nat → Nat → Bool} (x : TwoG h B k pw pl Ew El) (fr : Fr none' h h') : TwoG h' B k pw pl Ew El := by
  obtain ⟨Sw, Sl, x1, x2, d1, d2, d3⟩ := x
  exact ⟨Sw, Sl, x1.fr0 fr, x2.fr0 fr, d1, d2, fun id q => Nat.lt_of_lt_of_le (d3 id q) fr.next⟩
theorem TwoG.more {h h' : AHeap} {B C : Nat → Prop} {k pw pl : Nat} {Ew El : Nat → Nat → Bool} (x : TwoG h B k pw pl Ew El) (fr : Fr none' h h') (hC : ∀ id, C id → B id ∨ (h.next ≤ id ∧ id < h'.next)) : TwoG h' C k pw pl Ew El := by
  obtain ⟨Sw, Sl, x1, x2, d1, d2, d3⟩ := x
  refine ⟨Sw, Sl, x1.fr0 fr, x2.fr0 fr, fun id q => ⟨(d1 id q).1, fun c => ?_⟩, fun id q c => ?_, fun id q => ?_⟩
  · rcases hC id c with c | c
    · exact (d1 id q).2 c
    · have := x1.lt q; omega
  · rcases hC id c with c | c
    · exact d2 id q c
    · have := x2.lt q; omega
  · rcases hC id q with c | c
    · exact Nat.lt_of_lt_of_le (d3 id c) fr.next
    · exact c.2
theorem TwoG.congr {h : AHeap} {B : Nat → Prop} {k pw pl : Nat} {Ew El Ew' El' : Nat → Nat → Bool} (x : TwoG h B k pw pl Ew El) (h1 : ∀ a b, a < k → b < k → Ew a b = Ew' a b) (h2 : ∀ a b, a < k → b < k → El a b = El' a b) : TwoG h B k pw pl Ew' El' := by
  obtain ⟨Sw, Sl, x1, x2, d⟩ := x
  exact ⟨Sw, Sl, x1.congr h1, x2.congr h2, d⟩
end Go.Proofs.Ytnkbdbopiancmaa
