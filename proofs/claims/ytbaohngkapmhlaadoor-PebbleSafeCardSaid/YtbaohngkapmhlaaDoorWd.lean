/- Walks of this claim's functions, and plain laws. -/
import Derived.Test.YtbaohngkapmhlaaDoorWc
import Derived.Test.YtbaohngkapmhlaaDoorAMOps7
import Derived.Test.YtbaohngkapmhlaaDoorAMIter3
set_option linter.unusedSimpArgs false
set_option linter.unusedVariables false
namespace Go.Proofs.YtbaohngkapmhlaaDoor
open Go.AM
set_option maxRecDepth 8000
theorem b81_PC1 : type_of% (And.intro (@Option.isNone_none.{0}) (And.intro (@Option.isNone_some.{0}) (And.intro (@AM.bin_eql) (And.intro (AM.bin_pnil ul_26) (And.intro (@AM.op_binOp) (@AM.op_call)))))) := And.intro (@Option.isNone_none.{0}) (And.intro (@Option.isNone_some.{0}) (And.intro (@AM.bin_eql) (And.intro (AM.bin_pnil ul_26) (And.intro (@AM.op_binOp) (@AM.op_call)))))
theorem b82_PC1 : type_of% (And.intro (@AM.bin_geq) (And.intro (@AM.bin_lss) (And.intro (@AM.fa_ptr) (And.intro (@fd_59_0) (And.intro (@AM.ldO_agg) (And.intro (@AM.ldO_one) (And.intro (@AM.ld_ptr) (And.intro (AM.len_slice ul_22) (And.intro (@lk_22) (And.intro (@AM.op_binOp) (And.intro (@AM.op_fieldAddr) (And.intro (@AM.op_len) (@AM.op_load))))))))))))) := And.intro (@AM.bin_geq) (And.intro (@AM.bin_lss) (And.intro (@AM.fa_ptr) (And.intro (@fd_59_0) (And.intro (@AM.ldO_agg) (And.intro (@AM.ldO_one) (And.intro (@AM.ld_ptr) (And.intro (AM.len_slice ul_22) (And.intro (@lk_22) (And.intro (@AM.op_binOp) (And.intro (@AM.op_fieldAddr) (And.intro (@AM.op_len) (@AM.op_load))))))))))))
theorem b39_PC1 : type_of% (And.intro (@List.map_toArray.{0,0}) (And.intro (@AM.bin_add) (And.intro (@AM.bin_gtr) (And.intro (@AM.bin_lss) (And.intro (@AM.bin_neq) (And.intro (@AM.boxK_agg) (And.intro (@AM.boxK_bool) (And.intro (@AM.boxK_func) (And.intro (@AM.boxK_int) (And.intro (@AM.boxK_map) (And.intro (@AM.boxK_pointer) (And.intro (@AM.boxK_slice) (And.intro (@AM.boxK_string) (And.intro (@AM.fa_ptr) (And.intro (@fd_59_0) (And.intro (@fd_59_1) (And.intro (@AM.iaO_ok) (And.intro (AM.ia_slice el_22) (And.intro (@AM.ldO_agg) (And.intro (@AM.ldO_one) (And.intro (@AM.ld_ptr) (And.intro (AM.len_slice ul_22) (And.intro (@lk_22) (And.intro (@lk_3) (And.intro (@AM.op_binOp) (And.intro (@AM.op_box) (And.intro (@AM.op_call) (And.intro (@AM.op_fieldAddr) (And.intro (@AM.op_indexAddr) (And.intro (@AM.op_len) (And.intro (@AM.op_load) (And.intro (@AM.op_makeFunc) (And.intro (@AM.op_unOp) (And.intro (@AM.un_neg) (@AM.un_not))))))))))))))))))))))))))))))))))) := And.intro (@List.map_toArray.{0,0}) (And.intro (@AM.bin_add) (And.intro (@AM.bin_gtr) (And.intro (@AM.bin_lss) (And.intro (@AM.bin_neq) (And.intro (@AM.boxK_agg) (And.intro (@AM.boxK_bool) (And.intro (@AM.boxK_func) (And.intro (@AM.boxK_int) (And.intro (@AM.boxK_map) (And.intro (@AM.boxK_pointer) (And.intro (@AM.boxK_slice) (And.intro (@AM.boxK_string) (And.intro (@AM.fa_ptr) (And.intro (@fd_59_0) (And.intro (@fd_59_1) (And.intro (@AM.iaO_ok) (And.intro (AM.ia_slice el_22) (And.intro (@AM.ldO_agg) (And.intro (@AM.ldO_one) (And.intro (@AM.ld_ptr) (And.intro (AM.len_slice ul_22) (And.intro (@lk_22) (And.intro (@lk_3) (And.intro (@AM.op_binOp) (And.intro (@AM.op_box) (And.intro (@AM.op_call) (And.intro (@AM.op_fieldAddr) (And.intro (@AM.op_indexAddr) (And.intro (@AM.op_len) (And.intro (@AM.op_load) (And.intro (@AM.op_makeFunc) (And.intro (@AM.op_unOp) (And.intro (@AM.un_neg) (@AM.un_not))))))))))))))))))))))))))))))))))


/-- A state: a struct of two slices. -/
def StR (h : AHeap) (v : Value) (s : St) : Prop := ∃ a b, v = .agg #[a, b] ∧ Rd h 3 1 a s.1.length (s.1.map (.int .i64)) ∧ Rd h 3 1 b s.2.length (s.2.map (.int .i64))
theorem StR.fr0 {h h' : AHeap} {v : Value} {s : St} (x : StR h v s) (fr : Fr none' h h') : StR h' v s := by
  obtain ⟨a, b, rfl, ra, rb⟩ := x
  exact ⟨a, b, rfl, ra.fr0 fr, rb.fr0 fr⟩
theorem pnone_w {h : AHeap} {p : Nat} {kv : Value} {tl : List Value} {L : List (List UInt8)} (m : Mp h p kv L.length (L.getD 0 []).length L.flatten tl) (f : Fit L) {Q : VQ} (hq : Q (.bool false) h) : W 81 [pv p] h Q := by
  have hK := f.k1024
  have hbd : L.length ≤ 4000000 ∧ (L.getD 0 []).length ≤ 4000000 := by have := f.r32; have := f.c32; omega
  have hpos : 0 < L.length * (L.getD 0 []).length := Nat.mul_pos f.rows f.cols
  have d0 : decide (((L.length * (L.getD 0 []).length : Nat) : Int) = 0) = false := decide_eq_false (by omega)
  refine AM.enter hp (fn := Tryd.f81) (rs := [.tmp 2]) (nt := 10) (by kernel_rfl) Tryd.func81 rfl rfl rfl (by kernel_rfl) ?_
  (first | (simp (maxSteps := 1000000) (disch := first | omega | (simp only [AM.DB, List.length_set, List.length_map]; first | done | omega)) only [AM.RB, Nat.reduceAdd, Nat.reduceMul, Nat.reduceEqDiff, reduceCtorEq, b81_PC1]) | skip)
  refine cells_w m f.rows hbd _ ?_
  (first | (simp (maxSteps := 1000000) (disch := first | omega | (simp only [AM.DB, List.length_set, List.length_map]; first | done | omega)) only [AM.RB, Nat.reduceAdd, Nat.reduceMul, Nat.reduceEqDiff, reduceCtorEq, b81_PC1, d0]) | skip)
  exact hq
theorem robot_w {h : AHeap} {q : Nat} {a b : Value} {n : Nat} {cs : List Value} (g : h.get q = some (.cells [a, b] 59 false)) (ra : Rd h 3 1 a n cs) (x : Int) {Q : VQ} (hq : Q (.bool (decide (0 ≤ x) && decide (x < n))) h) : CallW Tryd.prog prims (.func (.func 82) #[] #[pv q]) [.int .i64 x] h Q := by
  obtain ⟨aa, ac, rfl⟩ := ra.form
  refine AM.enter hp (fn := Tryd.f82) (rs := [.tmp 3]) (nt := 13) (by kernel_rfl) Tryd.func82 rfl rfl rfl (by kernel_rfl) ?_
  (first | (simp (maxSteps := 1000000) (disch := first | omega | (simp only [AM.DB, List.length_set, List.length_map]; first | done | omega)) only [AM.RB, Nat.reduceAdd, Nat.reduceMul, Nat.reduceEqDiff, reduceCtorEq, b82_PC1]) | skip)
  by_cases h0 : 0 ≤ x
  · rw [decide_eq_true h0, Bool.true_and] at hq
    (first | (simp (maxSteps := 1000000) (disch := first | omega | (simp only [AM.DB, List.length_set, List.length_map]; first | done | omega)) only [AM.RB, Nat.reduceAdd, Nat.reduceMul, Nat.reduceEqDiff, reduceCtorEq, b82_PC1, decide_eq_true h0, g]) | skip)
    exact hq
  · rw [decide_eq_false h0, Bool.false_and] at hq
    (first | (simp (maxSteps := 1000000) (disch := first | omega | (simp only [AM.DB, List.length_set, List.length_map]; first | done | omega)) only [AM.RB, Nat.reduceAdd, Nat.reduceMul, Nat.reduceEqDiff, reduceCtorEq, b82_PC1, decide_eq_false h0]) | skip)
    exact hq
theorem all_range_false {p : Nat → Bool} {n i : Nat} (hi : i < n) (h : p i = false) : (List.range n).all p = false := by
  rw [List.all_eq_false]
  exact ⟨i, List.mem_range.2 hi, by rw [h]; simp⟩
theorem all_range_true {p : Nat → Bool} {n : Nat} (h : ∀ i, i < n → p i = true) : (List.range n).all p = true :=
  List.all_eq_true.2 fun i hi => h i (List.mem_range.1 hi)
set_option maxHeartbeats 4000000 in
theorem check_w {h : AHeap} {p : Nat} {kv : Value} {tl : List Value} {L : List (List UInt8)} {v : Value} {s : St} (m : Mp h p kv L.length (L.getD 0 []).length L.flatten tl) (f : Fit L) (hs : StR h v s) (hl : h.low ≤ h.next) {Q : VQ}
    (hq : ∀ h', Fr none' h h' → Q (.int .i64 (if chk L.flatten s = true then 0 else 250)) h') : W 39 [pv p, v] h Q := by
  obtain ⟨a, b, rfl, ra, rb⟩ := hs
  obtain ⟨aa, ac, rfl⟩ := ra.form
  obtain ⟨ba, bc, rfl⟩ := rb.form
  have hK := f.k1024
  have flen := f.len
  have hbd : L.length ≤ 4000000 ∧ (L.getD 0 []).length ≤ 4000000 := by have := f.r32; have := f.c32; omega
  have sa1 : (s.1.map (Value.int .i64)).length = s.1.length := List.length_map _
  refine AM.enter hp (fn := Tryd.f39) (rs := [.tmp 4]) (nt := 76) (by kernel_rfl) Tryd.func39 rfl rfl rfl (by kernel_rfl) ?_
  simp (maxSteps := 1000000) (disch := first | omega | (simp only [AM.DB, List.length_set, List.length_map]; first | done | omega)) only [AM.RB, Nat.reduceAdd, Nat.reduceMul, Nat.reduceEqDiff, reduceCtorEq, b39_PC1]
  generalize hE_ : AHeap.alloc h _ = h1; obtain ⟨g1, fr1, n1, l1⟩ := AM.new_get hE_; clear hE_
  have m1 := m.fr0 fr1
  have ra1 := ra.fr0 fr1
  have rb1 := rb.fr0 fr1
  (repeat' (first | (simp (maxSteps := 1000000) (disch := first | omega | (simp only [AM.DB, List.length_set, List.length_map]; first | done | omega)) only [AM.RB, Nat.reduceAdd, Nat.reduceMul, Nat.reduceEqDiff, reduceCtorEq, b39_PC1]) | refine AM.drawW_loose (id := 3) hp (by kernel_rfl) (by kernel_rfl) ?_ | refine AM.opW_tied (by kernel_rfl) ?_ | refine AM.opW_untied (by kernel_rfl) ?_))
  refine pnone_w m1 f ?_
  by_cases c1 : (s.1.length : Int) < 1
  · have e : chk L.flatten s = false := by unfold chk; rw [decide_eq_false (show ¬ 1 ≤ s.1.length by omega)]; rfl
    rw [e] at hq
    (repeat' (first | (simp (maxSteps := 1000000) (disch := first | omega | (simp only [AM.DB, List.length_set, List.length_map]; first | done | omega)) only [AM.RB, Nat.reduceAdd, Nat.reduceMul, Nat.reduceEqDiff, reduceCtorEq, b39_PC1, g1, decide_eq_true c1]) | refine AM.drawW_loose (id := 3) hp (by kernel_rfl) (by kernel_rfl) ?_ | refine AM.opW_tied (by kernel_rfl) ?_ | refine AM.opW_untied (by kernel_rfl) ?_))
    refine ⟨AM.looseOk_by [(12, [0, 16]), (13, [0, 16])] (by kernel_rfl) ?_, ?_⟩
    · simp (maxSteps := 1000000) (disch := first | omega | (simp only [AM.DB, List.length_set, List.length_map]; first | done | omega)) only [AM.RB, Nat.reduceAdd, Nat.reduceMul, Nat.reduceEqDiff, reduceCtorEq, b39_PC1]
    exact hq _ fr1
  by_cases c2 : (64 : Int) < s.1.length
  · have e : chk L.flatten s = false := by unfold chk; rw [decide_eq_false (show ¬ s.1.length ≤ 64 by omega), Bool.and_false]; rfl
    rw [e] at hq
    (repeat' (first | (simp (maxSteps := 1000000) (disch := first | omega | (simp only [AM.DB, List.length_set, List.length_map]; first | done | omega)) only [AM.RB, Nat.reduceAdd, Nat.reduceMul, Nat.reduceEqDiff, reduceCtorEq, b39_PC1, g1, decide_eq_false c1, decide_eq_true c2]) | refine AM.drawW_loose (id := 3) hp (by kernel_rfl) (by kernel_rfl) ?_ | refine AM.opW_tied (by kernel_rfl) ?_ | refine AM.opW_untied (by kernel_rfl) ?_))
    refine ⟨AM.looseOk_by [(12, [0, 16]), (13, [0, 16])] (by kernel_rfl) ?_, ?_⟩
    · simp (maxSteps := 1000000) (disch := first | omega | (simp only [AM.DB, List.length_set, List.length_map]; first | done | omega)) only [AM.RB, Nat.reduceAdd, Nat.reduceMul, Nat.reduceEqDiff, reduceCtorEq, b39_PC1]
    exact hq _ fr1
  (repeat' (first | (simp (maxSteps := 1000000) (disch := first | omega | (simp only [AM.DB, List.length_set, List.length_map]; first | done | omega)) only [AM.RB, Nat.reduceAdd, Nat.reduceMul, Nat.reduceEqDiff, reduceCtorEq, b39_PC1, g1, decide_eq_false c1, decide_eq_false c2]) | refine AM.drawW_loose (id := 3) hp (by kernel_rfl) (by kernel_rfl) ?_ | refine AM.opW_tied (by kernel_rfl) ?_ | refine AM.opW_untied (by kernel_rfl) ?_))
  refine cells_w m1 f.rows hbd _ ?_
  by_cases c3 : (s.2.length : Int) = (L.length * (L.getD 0 []).length : Nat)
  case neg =>
    have e : chk L.flatten s = false := by unfold chk; rw [decide_eq_false (show ¬ s.2.length = L.flatten.length by omega), Bool.and_false]; rfl
    rw [e] at hq
    (repeat' (first | (simp (maxSteps := 1000000) (disch := first | omega | (simp only [AM.DB, List.length_set, List.length_map]; first | done | omega)) only [AM.RB, Nat.reduceAdd, Nat.reduceMul, Nat.reduceEqDiff, reduceCtorEq, b39_PC1, g1, decide_eq_false c3]) | refine AM.drawW_loose (id := 3) hp (by kernel_rfl) (by kernel_rfl) ?_ | refine AM.opW_tied (by kernel_rfl) ?_ | refine AM.opW_untied (by kernel_rfl) ?_))
    refine ⟨AM.looseOk_by [(12, [0, 16]), (13, [0, 16])] (by kernel_rfl) ?_, ?_⟩
    · simp (maxSteps := 1000000) (disch := first | omega | (simp only [AM.DB, List.length_set, List.length_map]; first | done | omega)) only [AM.RB, Nat.reduceAdd, Nat.reduceMul, Nat.reduceEqDiff, reduceCtorEq, b39_PC1]
      (repeat' apply And.intro) <;> (first | (refine AM.stable_len _ _ _ _ _ _ (fun _ => ?_); (simp (maxSteps := 1000000) (disch := first | omega | (simp only [AM.DB, List.length_set, List.length_map]; first | done | omega)) only [AM.RB, Nat.reduceAdd, Nat.reduceMul, Nat.reduceEqDiff, reduceCtorEq, b39_PC1, g1])) | (refine AM.stable_load _ _ _ _ _ _ ?_; (first | (simp (maxSteps := 1000000) (disch := first | omega | (simp only [AM.DB, List.length_set, List.length_map]; first | done | omega)) only [AM.RB, Nat.reduceAdd, Nat.reduceMul, Nat.reduceEqDiff, reduceCtorEq, b39_PC1, g1]) | skip); (first | (refine AM.stabL_int (by omega) ?_; (simp (maxSteps := 1000000) (disch := first | omega | (simp only [AM.DB, List.length_set, List.length_map]; first | done | omega)) only [AM.RB, Nat.reduceAdd, Nat.reduceMul, Nat.reduceEqDiff, reduceCtorEq, b39_PC1, g1])) | (refine AM.stabL_ptr (by omega) (by omega) ?_; (simp (maxSteps := 1000000) (disch := first | omega | (simp only [AM.DB, List.length_set, List.length_map]; first | done | omega)) only [AM.RB, Nat.reduceAdd, Nat.reduceMul, Nat.reduceEqDiff, reduceCtorEq, b39_PC1, g1])) | (refine AM.stabL_string (by omega) ?_; (simp (maxSteps := 1000000) (disch := first | omega | (simp only [AM.DB, List.length_set, List.length_map]; first | done | omega)) only [AM.RB, Nat.reduceAdd, Nat.reduceMul, Nat.reduceEqDiff, reduceCtorEq, b39_PC1, g1])) | (refine AM.stabL_bool (by omega) ?_; (simp (maxSteps := 1000000) (disch := first | omega | (simp only [AM.DB, List.length_set, List.length_map]; first | done | omega)) only [AM.RB, Nat.reduceAdd, Nat.reduceMul, Nat.reduceEqDiff, reduceCtorEq, b39_PC1, g1])) | (refine AM.stabL_rd rb1 (by omega) (by omega) ?_; (simp (maxSteps := 1000000) (disch := first | omega | (simp only [AM.DB, List.length_set, List.length_map]; first | done | omega)) only [AM.RB, Nat.reduceAdd, Nat.reduceMul, Nat.reduceEqDiff, reduceCtorEq, b39_PC1, g1])) | (refine AM.stabL_rd ra1 (by omega) (by omega) ?_; (simp (maxSteps := 1000000) (disch := first | omega | (simp only [AM.DB, List.length_set, List.length_map]; first | done | omega)) only [AM.RB, Nat.reduceAdd, Nat.reduceMul, Nat.reduceEqDiff, reduceCtorEq, b39_PC1, g1])) | (refine AM.stabL_elS rb1 (by omega) (by omega) ?_; (simp (maxSteps := 1000000) (disch := first | omega | (simp only [AM.DB, List.length_set, List.length_map]; first | done | omega)) only [AM.RB, Nat.reduceAdd, Nat.reduceMul, Nat.reduceEqDiff, reduceCtorEq, b39_PC1, g1])) | (refine AM.stabL_elI rb1 (by omega) (by omega) ?_; (simp (maxSteps := 1000000) (disch := first | omega | (simp only [AM.DB, List.length_set, List.length_map]; first | done | omega)) only [AM.RB, Nat.reduceAdd, Nat.reduceMul, Nat.reduceEqDiff, reduceCtorEq, b39_PC1, g1])) | (refine AM.stabL_elS ra1 (by omega) (by omega) ?_; (simp (maxSteps := 1000000) (disch := first | omega | (simp only [AM.DB, List.length_set, List.length_map]; first | done | omega)) only [AM.RB, Nat.reduceAdd, Nat.reduceMul, Nat.reduceEqDiff, reduceCtorEq, b39_PC1, g1])) | (refine AM.stabL_elI ra1 (by omega) (by omega) ?_; (simp (maxSteps := 1000000) (disch := first | omega | (simp only [AM.DB, List.length_set, List.length_map]; first | done | omega)) only [AM.RB, Nat.reduceAdd, Nat.reduceMul, Nat.reduceEqDiff, reduceCtorEq, b39_PC1, g1])))))
    exact hq _ fr1
  have hn : s.2.length = L.flatten.length := by omega
  have k1 : decide (1 ≤ s.1.length) = true := decide_eq_true (by omega)
  have k2 : decide (s.1.length ≤ 64) = true := decide_eq_true (by omega)
  have k3 : decide (s.2.length = L.flatten.length) = true := decide_eq_true hn
  have hchk : chk L.flatten s = (((List.range L.flatten.length).all fun c => hoOk L.flatten s.1.length (s.2.getD c 0) c) && ((List.range s.1.length).all fun r => atOk L.flatten s.2 r (s.1.getD r 0))) := by
    unfold chk
    rw [k1, k2, k3]; simp
  rw [hchk] at hq
  (repeat' (first | (simp (maxSteps := 1000000) (disch := first | omega | (simp only [AM.DB, List.length_set, List.length_map]; first | done | omega)) only [AM.RB, Nat.reduceAdd, Nat.reduceMul, Nat.reduceEqDiff, reduceCtorEq, b39_PC1, g1, decide_eq_true c3]) | refine AM.drawW_loose (id := 3) hp (by kernel_rfl) (by kernel_rfl) ?_ | refine AM.opW_tied (by kernel_rfl) ?_ | refine AM.opW_untied (by kernel_rfl) ?_))
  refine ⟨AM.looseOk_by [(12, [0, 16]), (13, [0, 16])] (by kernel_rfl) ?_, ?_⟩
  · simp (maxSteps := 1000000) (disch := first | omega | (simp only [AM.DB, List.length_set, List.length_map]; first | done | omega)) only [AM.RB, Nat.reduceAdd, Nat.reduceMul, Nat.reduceEqDiff, reduceCtorEq, b39_PC1]
    (repeat' apply And.intro) <;> (first | (refine AM.stable_len _ _ _ _ _ _ (fun _ => ?_); (simp (maxSteps := 1000000) (disch := first | omega | (simp only [AM.DB, List.length_set, List.length_map]; first | done | omega)) only [AM.RB, Nat.reduceAdd, Nat.reduceMul, Nat.reduceEqDiff, reduceCtorEq, b39_PC1, g1])) | (refine AM.stable_load _ _ _ _ _ _ ?_; (first | (simp (maxSteps := 1000000) (disch := first | omega | (simp only [AM.DB, List.length_set, List.length_map]; first | done | omega)) only [AM.RB, Nat.reduceAdd, Nat.reduceMul, Nat.reduceEqDiff, reduceCtorEq, b39_PC1, g1]) | skip); (first | (refine AM.stabL_int (by omega) ?_; (simp (maxSteps := 1000000) (disch := first | omega | (simp only [AM.DB, List.length_set, List.length_map]; first | done | omega)) only [AM.RB, Nat.reduceAdd, Nat.reduceMul, Nat.reduceEqDiff, reduceCtorEq, b39_PC1, g1])) | (refine AM.stabL_ptr (by omega) (by omega) ?_; (simp (maxSteps := 1000000) (disch := first | omega | (simp only [AM.DB, List.length_set, List.length_map]; first | done | omega)) only [AM.RB, Nat.reduceAdd, Nat.reduceMul, Nat.reduceEqDiff, reduceCtorEq, b39_PC1, g1])) | (refine AM.stabL_string (by omega) ?_; (simp (maxSteps := 1000000) (disch := first | omega | (simp only [AM.DB, List.length_set, List.length_map]; first | done | omega)) only [AM.RB, Nat.reduceAdd, Nat.reduceMul, Nat.reduceEqDiff, reduceCtorEq, b39_PC1, g1])) | (refine AM.stabL_bool (by omega) ?_; (simp (maxSteps := 1000000) (disch := first | omega | (simp only [AM.DB, List.length_set, List.length_map]; first | done | omega)) only [AM.RB, Nat.reduceAdd, Nat.reduceMul, Nat.reduceEqDiff, reduceCtorEq, b39_PC1, g1])) | (refine AM.stabL_rd rb1 (by omega) (by omega) ?_; (simp (maxSteps := 1000000) (disch := first | omega | (simp only [AM.DB, List.length_set, List.length_map]; first | done | omega)) only [AM.RB, Nat.reduceAdd, Nat.reduceMul, Nat.reduceEqDiff, reduceCtorEq, b39_PC1, g1])) | (refine AM.stabL_rd ra1 (by omega) (by omega) ?_; (simp (maxSteps := 1000000) (disch := first | omega | (simp only [AM.DB, List.length_set, List.length_map]; first | done | omega)) only [AM.RB, Nat.reduceAdd, Nat.reduceMul, Nat.reduceEqDiff, reduceCtorEq, b39_PC1, g1])) | (refine AM.stabL_elS rb1 (by omega) (by omega) ?_; (simp (maxSteps := 1000000) (disch := first | omega | (simp only [AM.DB, List.length_set, List.length_map]; first | done | omega)) only [AM.RB, Nat.reduceAdd, Nat.reduceMul, Nat.reduceEqDiff, reduceCtorEq, b39_PC1, g1])) | (refine AM.stabL_elI rb1 (by omega) (by omega) ?_; (simp (maxSteps := 1000000) (disch := first | omega | (simp only [AM.DB, List.length_set, List.length_map]; first | done | omega)) only [AM.RB, Nat.reduceAdd, Nat.reduceMul, Nat.reduceEqDiff, reduceCtorEq, b39_PC1, g1])) | (refine AM.stabL_elS ra1 (by omega) (by omega) ?_; (simp (maxSteps := 1000000) (disch := first | omega | (simp only [AM.DB, List.length_set, List.length_map]; first | done | omega)) only [AM.RB, Nat.reduceAdd, Nat.reduceMul, Nat.reduceEqDiff, reduceCtorEq, b39_PC1, g1])) | (refine AM.stabL_elI ra1 (by omega) (by omega) ?_; (simp (maxSteps := 1000000) (disch := first | omega | (simp only [AM.DB, List.length_set, List.length_map]; first | done | omega)) only [AM.RB, Nat.reduceAdd, Nat.reduceMul, Nat.reduceEqDiff, reduceCtorEq, b39_PC1, g1])))))
  refine AM.loop_w hp 76 (fun i : Nat => [(0, pv p), (3, pv h.next), (5, .func (.func 82) #[] #[pv h.next]), (32, .slice ba s.2.length bc), (33, .int .i64 s.2.length), (34, .int .i64 i)])
    (fun i h' => i ≤ s.2.length ∧ Fr none' h1 h' ∧ ∀ c, c < i → hoOk L.flatten s.1.length (s.2.getD c 0) c = true) (fun i => s.2.length - i) (by kernel_rfl) 0 ?_ ?_ ?_
  · simp (maxSteps := 1000000) (disch := first | omega | (simp only [AM.DB, List.length_set, List.length_map]; first | done | omega)) only [AM.RB, Nat.reduceAdd, Nat.reduceMul, Nat.reduceEqDiff, reduceCtorEq, b39_PC1]
    first | rfl | skip
  · exact ⟨Nat.zero_le _, Fr.refl _ _, fun c hc => by omega⟩
  rintro i h2 ρ ⟨hi, fr2, hall⟩
  have m2 := m1.fr0 fr2
  have ra2 := ra1.fr0 fr2
  have rb2 := rb1.fr0 fr2
  have g2 := g1.fr0 fr2
  simp (maxSteps := 1000000) (disch := first | omega | (simp only [AM.DB, List.length_set, List.length_map]; first | done | omega)) only [AM.RB, Nat.reduceAdd, Nat.reduceMul, Nat.reduceEqDiff, reduceCtorEq, b39_PC1]
  refine AM.condV_split (fun hlt => ?_) (fun hlt => ?_)
  · have hil : i < s.2.length := by omega
    obtain ⟨x, hx⟩ : ∃ x, s.2.getD i 0 = x := ⟨_, rfl⟩
    have hnext : hoOk L.flatten s.1.length x i = true → ∀ c, c < i + 1 → hoOk L.flatten s.1.length (s.2.getD c 0) c = true := fun q c hc => by
      by_cases e : c = i
      · subst e; rw [hx]; exact q
      · exact hall c (by omega)
    have hbad : hoOk L.flatten s.1.length x i = false → ((List.range L.flatten.length).all fun c => hoOk L.flatten s.1.length (s.2.getD c 0) c) = false := fun q => all_range_false (i := i) (by omega) (by rw [hx]; exact q)
    by_cases x1 : x = -1
    · have ok : hoOk L.flatten s.1.length x i = true := by unfold hoOk; rw [decide_eq_true x1]; rfl
      (repeat' (first | (simp (maxSteps := 1000000) (disch := first | omega | (simp only [AM.DB, List.length_set, List.length_map]; first | done | omega)) only [AM.RB, Nat.reduceAdd, Nat.reduceMul, Nat.reduceEqDiff, reduceCtorEq, b39_PC1, rb2.ia el_22, Rd.ldi rb2 lk_3, Int.toNat_natCast, hx, decide_eq_true x1, AM.wrap_i64]) | refine AM.drawW_loose (id := 3) hp (by kernel_rfl) (by kernel_rfl) ?_ | refine AM.opW_tied (by kernel_rfl) ?_ | refine AM.opW_untied (by kernel_rfl) ?_))
      exact ⟨i + 1, by omega, congrArg _ (by omega), by omega, fr2, hnext ok⟩
    (repeat' (first | (simp (maxSteps := 1000000) (disch := first | omega | (simp only [AM.DB, List.length_set, List.length_map]; first | done | omega)) only [AM.RB, Nat.reduceAdd, Nat.reduceMul, Nat.reduceEqDiff, reduceCtorEq, b39_PC1, rb2.ia el_22, Rd.ldi rb2 lk_3, Int.toNat_natCast, hx, decide_eq_false x1]) | refine AM.drawW_loose (id := 3) hp (by kernel_rfl) (by kernel_rfl) ?_ | refine AM.opW_tied (by kernel_rfl) ?_ | refine AM.opW_untied (by kernel_rfl) ?_))
    refine robot_w g2 ra2 x ?_
    have hok : hoOk L.flatten s.1.length x i = ((decide (0 ≤ x) && decide (x < s.1.length)) && freeP L.flatten i) := by unfold hoOk; rw [decide_eq_false x1]; rfl
    cases c4 : (decide (0 ≤ x) && decide (x < (s.1.length : Int)))
    · have bad := hbad (by rw [hok, c4]; rfl)
      rw [bad] at hq
      (repeat' (first | (simp (maxSteps := 1000000) (disch := first | omega | (simp only [AM.DB, List.length_set, List.length_map]; first | done | omega)) only [AM.RB, Nat.reduceAdd, Nat.reduceMul, Nat.reduceEqDiff, reduceCtorEq, b39_PC1]) | refine AM.drawW_loose (id := 3) hp (by kernel_rfl) (by kernel_rfl) ?_ | refine AM.opW_tied (by kernel_rfl) ?_ | refine AM.opW_untied (by kernel_rfl) ?_))
      exact hq _ (fr1.trans fr2)
    · (repeat' (first | (simp (maxSteps := 1000000) (disch := first | omega | (simp only [AM.DB, List.length_set, List.length_map]; first | done | omega)) only [AM.RB, Nat.reduceAdd, Nat.reduceMul, Nat.reduceEqDiff, reduceCtorEq, b39_PC1]) | refine AM.drawW_loose (id := 3) hp (by kernel_rfl) (by kernel_rfl) ?_ | refine AM.opW_tied (by kernel_rfl) ?_ | refine AM.opW_untied (by kernel_rfl) ?_))
      refine free_w m2 f.rows i _ ?_
      cases c5 : freeP L.flatten (i : Int)
      · have bad := hbad (by rw [hok, c5, Bool.and_false])
        rw [bad] at hq
        (repeat' (first | (simp (maxSteps := 1000000) (disch := first | omega | (simp only [AM.DB, List.length_set, List.length_map]; first | done | omega)) only [AM.RB, Nat.reduceAdd, Nat.reduceMul, Nat.reduceEqDiff, reduceCtorEq, b39_PC1]) | refine AM.drawW_loose (id := 3) hp (by kernel_rfl) (by kernel_rfl) ?_ | refine AM.opW_tied (by kernel_rfl) ?_ | refine AM.opW_untied (by kernel_rfl) ?_))
        exact hq _ (fr1.trans fr2)
      · (repeat' (first | (simp (maxSteps := 1000000) (disch := first | omega | (simp only [AM.DB, List.length_set, List.length_map]; first | done | omega)) only [AM.RB, Nat.reduceAdd, Nat.reduceMul, Nat.reduceEqDiff, reduceCtorEq, b39_PC1, AM.wrap_i64]) | refine AM.drawW_loose (id := 3) hp (by kernel_rfl) (by kernel_rfl) ?_ | refine AM.opW_tied (by kernel_rfl) ?_ | refine AM.opW_untied (by kernel_rfl) ?_))
        exact ⟨i + 1, by omega, congrArg _ (by omega), by omega, fr2, hnext (by rw [hok, c4, c5]; rfl)⟩
  have ei : i = s.2.length := by omega
  have ho : ((List.range L.flatten.length).all fun c => hoOk L.flatten s.1.length (s.2.getD c 0) c) = true := all_range_true fun c hc => hall c (by omega)
  rw [ho, Bool.true_and] at hq
  (repeat' (first | (simp (maxSteps := 1000000) (disch := first | omega | (simp only [AM.DB, List.length_set, List.length_map]; first | done | omega)) only [AM.RB, Nat.reduceAdd, Nat.reduceMul, Nat.reduceEqDiff, reduceCtorEq, b39_PC1, g2]) | refine AM.drawW_loose (id := 3) hp (by kernel_rfl) (by kernel_rfl) ?_ | refine AM.opW_tied (by kernel_rfl) ?_ | refine AM.opW_untied (by kernel_rfl) ?_))
  refine AM.loop_w hp 76 (fun i : Nat => [(0, pv p), (3, pv h.next), (55, .slice aa s.1.length ac), (56, .int .i64 s.1.length), (57, .int .i64 i)])
    (fun i h' => i ≤ s.1.length ∧ h' = h2 ∧ ∀ r, r < i → atOk L.flatten s.2 r (s.1.getD r 0) = true) (fun i => s.1.length - i) (by kernel_rfl) 0 ?_ ?_ ?_
  · simp (maxSteps := 1000000) (disch := first | omega | (simp only [AM.DB, List.length_set, List.length_map]; first | done | omega)) only [AM.RB, Nat.reduceAdd, Nat.reduceMul, Nat.reduceEqDiff, reduceCtorEq, b39_PC1]
    first | rfl | skip
  · exact ⟨Nat.zero_le _, rfl, fun c hc => by omega⟩
  rintro r h3 ρ ⟨hr, rfl, hall2⟩
  simp (maxSteps := 1000000) (disch := first | omega | (simp only [AM.DB, List.length_set, List.length_map]; first | done | omega)) only [AM.RB, Nat.reduceAdd, Nat.reduceMul, Nat.reduceEqDiff, reduceCtorEq, b39_PC1]
  refine AM.condV_split (fun hlt => ?_) (fun hlt => ?_)
  · have hrl : r < s.1.length := by omega
    obtain ⟨x, hx⟩ : ∃ x, s.1.getD r 0 = x := ⟨_, rfl⟩
    have hbad : atOk L.flatten s.2 r x = false → ((List.range s.1.length).all fun r => atOk L.flatten s.2 r (s.1.getD r 0)) = false := fun q => all_range_false (i := r) hrl (by rw [hx]; exact q)
    (repeat' (first | (simp (maxSteps := 1000000) (disch := first | omega | (simp only [AM.DB, List.length_set, List.length_map]; first | done | omega)) only [AM.RB, Nat.reduceAdd, Nat.reduceMul, Nat.reduceEqDiff, reduceCtorEq, b39_PC1, ra2.ia el_22, Rd.ldi ra2 lk_3, Int.toNat_natCast, hx]) | refine AM.drawW_loose (id := 3) hp (by kernel_rfl) (by kernel_rfl) ?_ | refine AM.opW_tied (by kernel_rfl) ?_ | refine AM.opW_untied (by kernel_rfl) ?_))
    refine free_w m2 f.rows x _ ?_
    cases c5 : freeP L.flatten x
    · have bad := hbad (by unfold atOk; rw [c5]; rfl)
      rw [bad] at hq
      (repeat' (first | (simp (maxSteps := 1000000) (disch := first | omega | (simp only [AM.DB, List.length_set, List.length_map]; first | done | omega)) only [AM.RB, Nat.reduceAdd, Nat.reduceMul, Nat.reduceEqDiff, reduceCtorEq, b39_PC1]) | refine AM.drawW_loose (id := 3) hp (by kernel_rfl) (by kernel_rfl) ?_ | refine AM.opW_tied (by kernel_rfl) ?_ | refine AM.opW_untied (by kernel_rfl) ?_))
      exact hq _ (fr1.trans fr2)
    · obtain ⟨x1, x2⟩ := freeP_in c5
      obtain ⟨xn, rfl⟩ := Int.eq_ofNat_of_zero_le x1
      have hok : atOk L.flatten s.2 r (xn : Int) = decide (s.2.getD xn 0 = r) := by unfold atOk; rw [c5, Int.toNat_natCast]; rfl
      have hxl : xn < s.2.length := by omega
      cases c6 : decide (s.2.getD xn 0 = (r : Int))
      · have bad := hbad (by rw [hok, c6])
        rw [bad] at hq
        (repeat' (first | (simp (maxSteps := 1000000) (disch := first | omega | (simp only [AM.DB, List.length_set, List.length_map]; first | done | omega)) only [AM.RB, Nat.reduceAdd, Nat.reduceMul, Nat.reduceEqDiff, reduceCtorEq, b39_PC1, g2, rb2.ia el_22, Rd.ldi rb2 lk_3, Int.toNat_natCast, c6]) | refine AM.drawW_loose (id := 3) hp (by kernel_rfl) (by kernel_rfl) ?_ | refine AM.opW_tied (by kernel_rfl) ?_ | refine AM.opW_untied (by kernel_rfl) ?_))
        exact hq _ (fr1.trans fr2)
      · (repeat' (first | (simp (maxSteps := 1000000) (disch := first | omega | (simp only [AM.DB, List.length_set, List.length_map]; first | done | omega)) only [AM.RB, Nat.reduceAdd, Nat.reduceMul, Nat.reduceEqDiff, reduceCtorEq, b39_PC1, g2, rb2.ia el_22, Rd.ldi rb2 lk_3, Int.toNat_natCast, c6, AM.wrap_i64]) | refine AM.drawW_loose (id := 3) hp (by kernel_rfl) (by kernel_rfl) ?_ | refine AM.opW_tied (by kernel_rfl) ?_ | refine AM.opW_untied (by kernel_rfl) ?_))
        refine ⟨r + 1, by omega, congrArg _ (by omega), by omega, fun c hc => ?_⟩
        by_cases e : c = r
        · subst e; rw [hx, hok, c6]
        · exact hall2 c (by omega)
  have er : r = s.1.length := by omega
  have ho2 : ((List.range s.1.length).all fun r => atOk L.flatten s.2 r (s.1.getD r 0)) = true := all_range_true fun c hc => hall2 c (by omega)
  rw [ho2] at hq
  (repeat' (first | (simp (maxSteps := 1000000) (disch := first | omega | (simp only [AM.DB, List.length_set, List.length_map]; first | done | omega)) only [AM.RB, Nat.reduceAdd, Nat.reduceMul, Nat.reduceEqDiff, reduceCtorEq, b39_PC1]) | refine AM.drawW_loose (id := 3) hp (by kernel_rfl) (by kernel_rfl) ?_ | refine AM.opW_tied (by kernel_rfl) ?_ | refine AM.opW_untied (by kernel_rfl) ?_))
  exact hq _ (fr1.trans fr2)

end Go.Proofs.YtbaohngkapmhlaaDoor

namespace Go.Proofs.YtbaohngkapmhlaaDoor
open Go.AM
set_option maxRecDepth 8000
theorem Good.hall {l : List UInt8} {L : List (List UInt8)} (G : Good l L) : ∀ T ∈ L, T.length = (L.getD 0 []).length := G.all
end Go.Proofs.YtbaohngkapmhlaaDoor

namespace Go.Proofs.YtbaohngkapmhlaaDoor
open Go.AM
set_option maxRecDepth 8000
theorem b84_PC3 : type_of% (And.intro (@AM.andO_some) (And.intro (@AM.bdV_some) (And.intro (@bd_65) (And.intro (AM.bin_agg_eql se_65) (And.intro (@AM.bin_eql) (And.intro (@AM.bin_geq) (And.intro (@AM.bin_lss) (And.intro (@AM.bin_neq) (And.intro (@AM.boxK_agg) (And.intro (@AM.boxK_bool) (And.intro (@AM.boxK_func) (And.intro (@AM.boxK_int) (And.intro (@AM.boxK_map) (And.intro (@AM.boxK_pointer) (And.intro (@AM.boxK_slice) (And.intro (@AM.boxK_string) (And.intro (@AM.eqL_cons) (And.intro (@AM.eqL_nil) (And.intro (@AM.eqS_bool) (And.intro (@AM.eqS_int) (And.intro (@AM.eqS_string) (And.intro (@AM.fa_ptr) (And.intro (@fd_59_0) (And.intro (@fd_59_1) (And.intro (@fd_65_0) (And.intro (@fd_65_1) (And.intro (@fd_65_2) (And.intro (@AM.fillL_cons) (And.intro (@AM.fillL_nil) (And.intro (@AM.fillS_agg) (And.intro (@AM.fillS_bool) (And.intro (@AM.fillS_func) (And.intro (@AM.fillS_int) (And.intro (@AM.fillS_map) (And.intro (@AM.fillS_pointer) (And.intro (@AM.fillS_slice) (And.intro (@AM.fillS_string) (And.intro (@AM.iaO_ok) (And.intro (AM.ia_slice el_22) (And.intro (@AM.ldO_agg) (And.intro (@AM.ldO_one) (And.intro (@AM.ld_ptr) (And.intro (AM.len_slice ul_22) (And.intro (@lk_22) (And.intro (@lk_3) (And.intro (@lk_65) (And.intro (@AM.op_binOp) (And.intro (@AM.op_box) (And.intro (@AM.op_build) (And.intro (@AM.op_call) (And.intro (@AM.op_fieldAddr) (And.intro (@AM.op_indexAddr) (And.intro (@AM.op_len) (And.intro (@AM.op_load) (And.intro (@AM.op_unOp) (And.intro (@AM.un_neg) (@AM.un_not))))))))))))))))))))))))))))))))))))))))))))))))))))))))) := And.intro (@AM.andO_some) (And.intro (@AM.bdV_some) (And.intro (@bd_65) (And.intro (AM.bin_agg_eql se_65) (And.intro (@AM.bin_eql) (And.intro (@AM.bin_geq) (And.intro (@AM.bin_lss) (And.intro (@AM.bin_neq) (And.intro (@AM.boxK_agg) (And.intro (@AM.boxK_bool) (And.intro (@AM.boxK_func) (And.intro (@AM.boxK_int) (And.intro (@AM.boxK_map) (And.intro (@AM.boxK_pointer) (And.intro (@AM.boxK_slice) (And.intro (@AM.boxK_string) (And.intro (@AM.eqL_cons) (And.intro (@AM.eqL_nil) (And.intro (@AM.eqS_bool) (And.intro (@AM.eqS_int) (And.intro (@AM.eqS_string) (And.intro (@AM.fa_ptr) (And.intro (@fd_59_0) (And.intro (@fd_59_1) (And.intro (@fd_65_0) (And.intro (@fd_65_1) (And.intro (@fd_65_2) (And.intro (@AM.fillL_cons) (And.intro (@AM.fillL_nil) (And.intro (@AM.fillS_agg) (And.intro (@AM.fillS_bool) (And.intro (@AM.fillS_func) (And.intro (@AM.fillS_int) (And.intro (@AM.fillS_map) (And.intro (@AM.fillS_pointer) (And.intro (@AM.fillS_slice) (And.intro (@AM.fillS_string) (And.intro (@AM.iaO_ok) (And.intro (AM.ia_slice el_22) (And.intro (@AM.ldO_agg) (And.intro (@AM.ldO_one) (And.intro (@AM.ld_ptr) (And.intro (AM.len_slice ul_22) (And.intro (@lk_22) (And.intro (@lk_3) (And.intro (@lk_65) (And.intro (@AM.op_binOp) (And.intro (@AM.op_box) (And.intro (@AM.op_build) (And.intro (@AM.op_call) (And.intro (@AM.op_fieldAddr) (And.intro (@AM.op_indexAddr) (And.intro (@AM.op_len) (And.intro (@AM.op_load) (And.intro (@AM.op_unOp) (And.intro (@AM.un_neg) (@AM.un_not))))))))))))))))))))))))))))))))))))))))))))))))))))))))
theorem b83_PC3 : type_of% (And.intro (@AM.bin_add) (And.intro (@AM.bin_geq) (And.intro (@AM.bin_lss) (And.intro (@AM.bin_neq) (And.intro (@AM.iaO_ok) (And.intro (AM.ia_slice el_22) (And.intro (@AM.ldO_agg) (And.intro (@AM.ldO_one) (And.intro (@AM.ld_ptr) (And.intro (AM.len_slice ul_22) (And.intro (@lk_3) (And.intro (@AM.op_binOp) (And.intro (@AM.op_indexAddr) (And.intro (@AM.op_len) (And.intro (@AM.op_load) (@AM.resL_two)))))))))))))))) := And.intro (@AM.bin_add) (And.intro (@AM.bin_geq) (And.intro (@AM.bin_lss) (And.intro (@AM.bin_neq) (And.intro (@AM.iaO_ok) (And.intro (AM.ia_slice el_22) (And.intro (@AM.ldO_agg) (And.intro (@AM.ldO_one) (And.intro (@AM.ld_ptr) (And.intro (AM.len_slice ul_22) (And.intro (@lk_3) (And.intro (@AM.op_binOp) (And.intro (@AM.op_indexAddr) (And.intro (@AM.op_len) (And.intro (@AM.op_load) (@AM.resL_two)))))))))))))))


abbrev spV (x : Sp) : Value := .agg #[.int .i64 x.1, .int .i64 x.2.1, .int .i64 x.2.2]
theorem StR.frp {h h' : AHeap} {v : Value} {s : St} {T : Nat → Prop} (x : StR h v s) (hT : ∀ a b, v = .agg #[a, b] → (∀ id, idOf a id → ¬ T id) ∧ ∀ id, idOf b id → ¬ T id) (fr : Fr T h h') : StR h' v s := by
  obtain ⟨a, b, rfl, ra, rb⟩ := x
  obtain ⟨t1, t2⟩ := hT a b rfl
  exact ⟨a, b, rfl, ra.fr fr t1, rb.fr fr t2⟩
set_option maxHeartbeats 4000000 in
theorem pmay_w {h : AHeap} {p : Nat} {L : List (List UInt8)} {B : Nat → Prop} {v : Value} {s : St} (m : Mk h p L B) (f : Fit L) (hw : h.get GW = some (.cells waysC 166 false)) (hgl : GW < h.low) (hl : h.low ≤ h.next) (hs : StR h v s) (hn : s.2.length = L.flatten.length) (x : Sp) {Q : VQ}
    (hq : ∀ h', Mk h' p L B → Fr (fun id => id = p) h h' → Q (.bool (may L s x)) h') : W 84 [pv p, v, spV x] h Q := by
  obtain ⟨k, r, c⟩ := x
  obtain ⟨a, b, rfl, ra, rb⟩ := hs
  obtain ⟨aa, ac, rfl⟩ := ra.form
  obtain ⟨ba, bc, rfl⟩ := rb.form
  refine AM.enter hp (fn := Tryd.f84) (rs := [.tmp 6]) (nt := 79) (by kernel_rfl) Tryd.func84 rfl rfl rfl (by kernel_rfl) ?_
  simp (maxSteps := 1000000) (disch := first | omega | (simp only [AM.DB, List.length_set, List.length_map]; first | done | omega)) only [AM.RB, Nat.reduceAdd, Nat.reduceMul, Nat.reduceEqDiff, reduceCtorEq, b84_PC3]
  generalize hE_ : AHeap.alloc h _ = h1; obtain ⟨g1, fr1, n1, l1⟩ := AM.new_get hE_; clear hE_
  generalize hE_ : AHeap.alloc h1 _ = h2; obtain ⟨g2, fr2, n2, l2⟩ := AM.new_get hE_; clear hE_
  rw [n1] at g2
  have g12 := g1.fr0 fr2
  have fr02 := fr1.trans fr2
  have m2 := m.fr0 fr02
  have ra2 := ra.fr0 fr02
  have rb2 := rb.fr0 fr02
  have hw2 := hw.fr0 fr02
  have lw2 := fr02.low
  have nx2 := fr02.next
  have toP : ∀ {h'}, Fr (fun id => id = p) h2 h' → Fr (fun id => id = p) h h' := fun fr => (fr02.mono (fun _ _ q => q.elim)).trans fr
  have fin : Fr (fun id => id = p) h h2 := fr02.mono fun _ _ q => q.elim
  obtain ⟨kv, tl, mm⟩ := m2.mp
  by_cases k0 : k = 0
  · subst k0
    have e : may L s (0, r, c) = (decide (r = 0) && decide (c = 0)) := by unfold may; rw [if_pos rfl]
    rw [e] at hq
    cases r0 : decide (r = 0) <;> cases c0 : decide (c = 0) <;> rw [r0, c0] at hq
    all_goals (
      (repeat' (first | (simp (maxSteps := 1000000) (disch := first | omega | (simp only [AM.DB, List.length_set, List.length_map]; first | done | omega)) only [AM.RB, Nat.reduceAdd, Nat.reduceMul, Nat.reduceEqDiff, reduceCtorEq, b84_PC3, g12, g2, r0, c0]) | refine AM.drawW_fine hp (by kernel_rfl) (by kernel_rfl) (by kernel_rfl) ?_ | refine AM.opW_tied (by kernel_rfl) ?_ | refine AM.opW_untied (by kernel_rfl) ?_ | refine AM.build_w ?_))
      first | exact hq _ m2 fin | skip)
  have dk0 : decide (k = 0) = false := decide_eq_false k0
  by_cases r0 : r < 0
  · have e : may L s (k, r, c) = false := by unfold may; rw [if_neg k0, decide_eq_false (show ¬ 0 ≤ r by omega)]; rfl
    rw [e] at hq
    (repeat' (first | (simp (maxSteps := 1000000) (disch := first | omega | (simp only [AM.DB, List.length_set, List.length_map]; first | done | omega)) only [AM.RB, Nat.reduceAdd, Nat.reduceMul, Nat.reduceEqDiff, reduceCtorEq, b84_PC3, g12, g2, dk0, decide_eq_true r0]) | refine AM.drawW_fine hp (by kernel_rfl) (by kernel_rfl) (by kernel_rfl) ?_ | refine AM.opW_tied (by kernel_rfl) ?_ | refine AM.opW_untied (by kernel_rfl) ?_ | refine AM.build_w ?_))
    exact hq _ m2 fin
  by_cases r1 : (s.1.length : Int) ≤ r
  · have e : may L s (k, r, c) = false := by unfold may; rw [if_neg k0, decide_eq_false (show ¬ r < s.1.length by omega), Bool.and_false]; rfl
    rw [e] at hq
    (repeat' (first | (simp (maxSteps := 1000000) (disch := first | omega | (simp only [AM.DB, List.length_set, List.length_map]; first | done | omega)) only [AM.RB, Nat.reduceAdd, Nat.reduceMul, Nat.reduceEqDiff, reduceCtorEq, b84_PC3, g12, g2, dk0, decide_eq_false r0, decide_eq_true r1]) | refine AM.drawW_fine hp (by kernel_rfl) (by kernel_rfl) (by kernel_rfl) ?_ | refine AM.opW_tied (by kernel_rfl) ?_ | refine AM.opW_untied (by kernel_rfl) ?_ | refine AM.build_w ?_))
    exact hq _ m2 fin
  (repeat' (first | (simp (maxSteps := 1000000) (disch := first | omega | (simp only [AM.DB, List.length_set, List.length_map]; first | done | omega)) only [AM.RB, Nat.reduceAdd, Nat.reduceMul, Nat.reduceEqDiff, reduceCtorEq, b84_PC3, g12, g2, dk0, decide_eq_false r0, decide_eq_false r1]) | refine AM.drawW_fine hp (by kernel_rfl) (by kernel_rfl) (by kernel_rfl) ?_ | refine AM.opW_tied (by kernel_rfl) ?_ | refine AM.opW_untied (by kernel_rfl) ?_ | refine AM.build_w ?_))
  refine free_w mm f.rows c _ ?_
  have dr0 : decide (0 ≤ r) = true := decide_eq_true (by omega)
  have dr1 : decide (r < (s.1.length : Int)) = true := decide_eq_true (by omega)
  cases fc : freeP L.flatten c
  · have e : may L s (k, r, c) = false := by unfold may; rw [if_neg k0, fc, Bool.and_false]; rfl
    rw [e] at hq
    (repeat' (first | (simp (maxSteps := 1000000) (disch := first | omega | (simp only [AM.DB, List.length_set, List.length_map]; first | done | omega)) only [AM.RB, Nat.reduceAdd, Nat.reduceMul, Nat.reduceEqDiff, reduceCtorEq, b84_PC3]) | refine AM.drawW_fine hp (by kernel_rfl) (by kernel_rfl) (by kernel_rfl) ?_ | refine AM.opW_tied (by kernel_rfl) ?_ | refine AM.opW_untied (by kernel_rfl) ?_ | refine AM.build_w ?_))
    exact hq _ m2 fin
  obtain ⟨c1, c2⟩ := freeP_in fc
  obtain ⟨c, rfl⟩ := Int.eq_ofNat_of_zero_le c1
  obtain ⟨r, rfl⟩ := Int.eq_ofNat_of_zero_le (show 0 ≤ r by omega)
  have hcl : c < s.2.length := by omega
  have hrl : r < s.1.length := by omega
  obtain ⟨at_, hat⟩ : ∃ y, s.1.getD r 0 = y := ⟨_, rfl⟩
  obtain ⟨ho, hho⟩ : ∃ y, s.2.getD c 0 = y := ⟨_, rfl⟩
  have e : may L s (k, r, c) = (if k = 1 then decide (ho = -1) else if k = 2 then decide (ho = r) && !decide (at_ = c) else if k = 3 then decide (ho = r) && edgeL L at_ c else false) := by
    unfold may
    simp only [Int.toNat_natCast]
    rw [if_neg k0, fc, dr0, dr1]
    simp only [hat, hho, Bool.and_self, Bool.true_and]
  rw [e] at hq
  (repeat' (first | (simp (maxSteps := 1000000) (disch := first | omega | (simp only [AM.DB, List.length_set, List.length_map]; first | done | omega)) only [AM.RB, Nat.reduceAdd, Nat.reduceMul, Nat.reduceEqDiff, reduceCtorEq, b84_PC3, g12, g2, ra2.ia el_22, Rd.ldi ra2 lk_3, rb2.ia el_22, Rd.ldi rb2 lk_3, Int.toNat_natCast, hat, hho]) | refine AM.drawW_fine hp (by kernel_rfl) (by kernel_rfl) (by kernel_rfl) ?_ | refine AM.opW_tied (by kernel_rfl) ?_ | refine AM.opW_untied (by kernel_rfl) ?_ | refine AM.build_w ?_))
  by_cases k1 : k = 1
  · rw [if_pos k1] at hq
    (repeat' (first | (simp (maxSteps := 1000000) (disch := first | omega | (simp only [AM.DB, List.length_set, List.length_map]; first | done | omega)) only [AM.RB, Nat.reduceAdd, Nat.reduceMul, Nat.reduceEqDiff, reduceCtorEq, b84_PC3, g12, g2, decide_eq_true k1]) | refine AM.drawW_fine hp (by kernel_rfl) (by kernel_rfl) (by kernel_rfl) ?_ | refine AM.opW_tied (by kernel_rfl) ?_ | refine AM.opW_untied (by kernel_rfl) ?_ | refine AM.build_w ?_))
    exact hq _ m2 fin
  by_cases k2 : k = 2
  · rw [if_neg k1, if_pos k2] at hq
    cases d1 : decide (ho = (r : Int)) <;> rw [d1] at hq
    · (repeat' (first | (simp (maxSteps := 1000000) (disch := first | omega | (simp only [AM.DB, List.length_set, List.length_map]; first | done | omega)) only [AM.RB, Nat.reduceAdd, Nat.reduceMul, Nat.reduceEqDiff, reduceCtorEq, b84_PC3, g12, g2, decide_eq_false k1, decide_eq_true k2, d1]) | refine AM.drawW_fine hp (by kernel_rfl) (by kernel_rfl) (by kernel_rfl) ?_ | refine AM.opW_tied (by kernel_rfl) ?_ | refine AM.opW_untied (by kernel_rfl) ?_ | refine AM.build_w ?_))
      exact hq _ m2 fin
    · cases d2 : decide (at_ = (c : Int)) <;> rw [d2] at hq
      all_goals (
        (repeat' (first | (simp (maxSteps := 1000000) (disch := first | omega | (simp only [AM.DB, List.length_set, List.length_map]; first | done | omega)) only [AM.RB, Nat.reduceAdd, Nat.reduceMul, Nat.reduceEqDiff, reduceCtorEq, b84_PC3, g12, g2, decide_eq_false k1, decide_eq_true k2, d1, d2]) | refine AM.drawW_fine hp (by kernel_rfl) (by kernel_rfl) (by kernel_rfl) ?_ | refine AM.opW_tied (by kernel_rfl) ?_ | refine AM.opW_untied (by kernel_rfl) ?_ | refine AM.build_w ?_))
        first | exact hq _ m2 fin | skip)
  by_cases k3 : k = 3
  · rw [if_neg k1, if_neg k2, if_pos k3] at hq
    cases d1 : decide (ho = (r : Int)) <;> rw [d1] at hq
    · (repeat' (first | (simp (maxSteps := 1000000) (disch := first | omega | (simp only [AM.DB, List.length_set, List.length_map]; first | done | omega)) only [AM.RB, Nat.reduceAdd, Nat.reduceMul, Nat.reduceEqDiff, reduceCtorEq, b84_PC3, g12, g2, decide_eq_false k1, decide_eq_false k2, decide_eq_true k3, d1]) | refine AM.drawW_fine hp (by kernel_rfl) (by kernel_rfl) (by kernel_rfl) ?_ | refine AM.opW_tied (by kernel_rfl) ?_ | refine AM.opW_untied (by kernel_rfl) ?_ | refine AM.build_w ?_))
      exact hq _ m2 fin
    · (repeat' (first | (simp (maxSteps := 1000000) (disch := first | omega | (simp only [AM.DB, List.length_set, List.length_map]; first | done | omega)) only [AM.RB, Nat.reduceAdd, Nat.reduceMul, Nat.reduceEqDiff, reduceCtorEq, b84_PC3, g12, g2, decide_eq_false k1, decide_eq_false k2, decide_eq_true k3, d1]) | refine AM.drawW_fine hp (by kernel_rfl) (by kernel_rfl) (by kernel_rfl) ?_ | refine AM.opW_tied (by kernel_rfl) ?_ | refine AM.opW_untied (by kernel_rfl) ?_ | refine AM.build_w ?_))
      refine edgeK_w m2 f hw2 (by omega) (by omega) _ _ fun h3 m3 fr3 => ?_
      rw [Bool.true_and] at hq
      cases d2 : edgeL L at_ (c : Int) <;> rw [d2] at hq
      all_goals (
        (repeat' (first | (simp (maxSteps := 1000000) (disch := first | omega | (simp only [AM.DB, List.length_set, List.length_map]; first | done | omega)) only [AM.RB, Nat.reduceAdd, Nat.reduceMul, Nat.reduceEqDiff, reduceCtorEq, b84_PC3]) | refine AM.drawW_fine hp (by kernel_rfl) (by kernel_rfl) (by kernel_rfl) ?_ | refine AM.opW_tied (by kernel_rfl) ?_ | refine AM.opW_untied (by kernel_rfl) ?_ | refine AM.build_w ?_))
        first | exact hq _ m3 (toP fr3) | skip)
  · rw [if_neg k1, if_neg k2, if_neg k3] at hq
    (repeat' (first | (simp (maxSteps := 1000000) (disch := first | omega | (simp only [AM.DB, List.length_set, List.length_map]; first | done | omega)) only [AM.RB, Nat.reduceAdd, Nat.reduceMul, Nat.reduceEqDiff, reduceCtorEq, b84_PC3, g12, g2, decide_eq_false k1, decide_eq_false k2, decide_eq_false k3]) | refine AM.drawW_fine hp (by kernel_rfl) (by kernel_rfl) (by kernel_rfl) ?_ | refine AM.opW_tied (by kernel_rfl) ?_ | refine AM.opW_untied (by kernel_rfl) ?_ | refine AM.build_w ?_))
    exact hq _ m2 fin

theorem parts_w {h : AHeap} {a b : Value} {l t : List Int} (ra : Rd h 3 1 a l.length (l.map (.int .i64))) (rb : Rd h 3 1 b t.length (t.map (.int .i64))) (hlt : l.length ≤ t.length) (hl : l.length ≤ 4000000) {Q : VQ}
    (hq : Q (.tuple #[.int .i64 (partV (diffs l t l.length)).1, .bool (partV (diffs l t l.length)).2]) h) : W 83 [a, b] h Q := by
  obtain ⟨aa, ac, rfl⟩ := ra.form
  obtain ⟨ba, bc, rfl⟩ := rb.form
  refine AM.enter hp (fn := Tryd.f83) (rs := [.tmp 4, .tmp 5]) (nt := 28) (by kernel_rfl) Tryd.func83 rfl rfl rfl (by kernel_rfl) ?_
  simp (maxSteps := 1000000) (disch := first | omega | (simp only [AM.DB, List.length_set, List.length_map]; first | done | omega)) only [AM.RB, Nat.reduceAdd, Nat.reduceMul, Nat.reduceEqDiff, reduceCtorEq, b83_PC3]
  refine AM.loop_w hp 28 (fun q : Nat × Int => [(0, .slice aa l.length ac), (1, .slice ba t.length bc), (6, .int .i64 q.2), (9, .int .i64 l.length), (10, .int .i64 q.1)])
    (fun q h' => q.1 ≤ l.length ∧ h' = h ∧ ((diffs l t q.1 = [] ∧ q.2 = -1) ∨ ∃ j : Nat, diffs l t q.1 = [j] ∧ q.2 = j)) (fun q => l.length - q.1) (by kernel_rfl) (0, -1) ?_ ?_ ?_
  · simp (maxSteps := 1000000) (disch := first | omega | (simp only [AM.DB, List.length_set, List.length_map]; first | done | omega)) only [AM.RB, Nat.reduceAdd, Nat.reduceMul, Nat.reduceEqDiff, reduceCtorEq, b83_PC3]
    first | rfl | skip
  · exact ⟨Nat.zero_le _, rfl, .inl ⟨rfl, rfl⟩⟩
  rintro ⟨i, at_⟩ h1 ρ ⟨hi, rfl, hd⟩
  simp only at hi hd ⊢
  simp (maxSteps := 1000000) (disch := first | omega | (simp only [AM.DB, List.length_set, List.length_map]; first | done | omega)) only [AM.RB, Nat.reduceAdd, Nat.reduceMul, Nat.reduceEqDiff, reduceCtorEq, b83_PC3]
  refine AM.condV_split (fun hlt2 => ?_) (fun hlt2 => ?_)
  · have hil : i < l.length := by omega
    have hit : i < t.length := by omega
    obtain ⟨x, hx⟩ : ∃ x, l.getD i 0 = x := ⟨_, rfl⟩
    obtain ⟨y, hy⟩ : ∃ x, t.getD i 0 = x := ⟨_, rfl⟩
    have hsucc := diffs_succ l t i
    rw [hx, hy] at hsucc
    by_cases e : x = y
    · rw [if_pos e, List.append_nil] at hsucc
      (repeat' (first | (simp (maxSteps := 1000000) (disch := first | omega | (simp only [AM.DB, List.length_set, List.length_map]; first | done | omega)) only [AM.RB, Nat.reduceAdd, Nat.reduceMul, Nat.reduceEqDiff, reduceCtorEq, b83_PC3, ra.ia el_22, Rd.ldi ra lk_3, rb.ia el_22, Rd.ldi rb lk_3, Int.toNat_natCast, hx, hy, decide_eq_true e, AM.wrap_i64]) | refine AM.drawW_fine hp (by kernel_rfl) (by kernel_rfl) (by kernel_rfl) ?_ | refine AM.opW_tied (by kernel_rfl) ?_ | refine AM.opW_untied (by kernel_rfl) ?_))
      refine ⟨(i + 1, at_), by simp only; omega, ⟨rfl, congrArg _ (by simp only; omega)⟩, by simp only; omega, ?_⟩
      simp only
      rw [hsucc]; exact hd
    · rw [if_neg e] at hsucc
      rcases hd with ⟨d1, rfl⟩ | ⟨j, d1, rfl⟩
      · rw [d1, List.nil_append] at hsucc
        have dm : decide ((0 : Int) ≤ (-1 : Int)) = false := rfl
        (repeat' (first | (simp (maxSteps := 1000000) (disch := first | omega | (simp only [AM.DB, List.length_set, List.length_map]; first | done | omega)) only [AM.RB, Nat.reduceAdd, Nat.reduceMul, Nat.reduceEqDiff, reduceCtorEq, b83_PC3, dm, ra.ia el_22, Rd.ldi ra lk_3, rb.ia el_22, Rd.ldi rb lk_3, Int.toNat_natCast, hx, hy, decide_eq_false e, AM.wrap_i64]) | refine AM.drawW_fine hp (by kernel_rfl) (by kernel_rfl) (by kernel_rfl) ?_ | refine AM.opW_tied (by kernel_rfl) ?_ | refine AM.opW_untied (by kernel_rfl) ?_))
        refine ⟨(i + 1, (i : Int)), by simp only; omega, ⟨rfl, congrArg _ (by simp only; omega)⟩, by simp only; omega, ?_⟩
        simp only
        exact .inr ⟨i, hsucc, rfl⟩
      · rw [d1] at hsucc
        obtain ⟨r, hr⟩ := diffs_pre l t (i + 1) l.length (by omega)
        rw [hsucc] at hr
        have ev : partV (diffs l t l.length) = ((j : Int), false) := by rw [hr]; rfl
        rw [ev] at hq
        have dj : decide ((0 : Int) ≤ (j : Int)) = true := decide_eq_true (by omega)
        (repeat' (first | (simp (maxSteps := 1000000) (disch := first | omega | (simp only [AM.DB, List.length_set, List.length_map]; first | done | omega)) only [AM.RB, Nat.reduceAdd, Nat.reduceMul, Nat.reduceEqDiff, reduceCtorEq, b83_PC3, ra.ia el_22, Rd.ldi ra lk_3, rb.ia el_22, Rd.ldi rb lk_3, Int.toNat_natCast, hx, hy, decide_eq_false e, dj]) | refine AM.drawW_fine hp (by kernel_rfl) (by kernel_rfl) (by kernel_rfl) ?_ | refine AM.opW_tied (by kernel_rfl) ?_ | refine AM.opW_untied (by kernel_rfl) ?_))
        exact hq
  · obtain rfl : i = l.length := by omega
    have ev : partV (diffs l t l.length) = (at_, true) := by
      rcases hd with ⟨d1, rfl⟩ | ⟨j, d1, rfl⟩ <;> rw [d1] <;> rfl
    rw [ev] at hq
    (repeat' (first | (simp (maxSteps := 1000000) (disch := first | omega | (simp only [AM.DB, List.length_set, List.length_map]; first | done | omega)) only [AM.RB, Nat.reduceAdd, Nat.reduceMul, Nat.reduceEqDiff, reduceCtorEq, b83_PC3]) | refine AM.drawW_fine hp (by kernel_rfl) (by kernel_rfl) (by kernel_rfl) ?_ | refine AM.opW_tied (by kernel_rfl) ?_ | refine AM.opW_untied (by kernel_rfl) ?_))
    exact hq

end Go.Proofs.YtbaohngkapmhlaaDoor

namespace Go.Proofs.YtbaohngkapmhlaaDoor
open Go.AM
set_option maxRecDepth 8000
theorem b45_PC7 : type_of% (And.intro (@AM.bin_add) (And.intro (@AM.bin_lss) (And.intro (@AM.bin_neq) (And.intro (@AM.boxK_agg) (And.intro (@AM.boxK_bool) (And.intro (@AM.boxK_func) (And.intro (@AM.boxK_int) (And.intro (@AM.boxK_map) (And.intro (@AM.boxK_pointer) (And.intro (@AM.boxK_slice) (And.intro (@AM.boxK_string) (And.intro (@AM.fa_ptr) (And.intro (@fd_59_0) (And.intro (@fd_59_1) (And.intro (@AM.iaO_ok) (And.intro (AM.ia_slice el_22) (And.intro (@AM.ldO_agg) (And.intro (@AM.ldO_one) (And.intro (@AM.ld_ptr) (And.intro (AM.len_slice ul_22) (And.intro (@lk_22) (And.intro (@lk_3) (And.intro (@AM.op_binOp) (And.intro (@AM.op_box) (And.intro (@AM.op_fieldAddr) (And.intro (@AM.op_indexAddr) (And.intro (@AM.op_len) (@AM.op_load)))))))))))))))))))))))))))) := And.intro (@AM.bin_add) (And.intro (@AM.bin_lss) (And.intro (@AM.bin_neq) (And.intro (@AM.boxK_agg) (And.intro (@AM.boxK_bool) (And.intro (@AM.boxK_func) (And.intro (@AM.boxK_int) (And.intro (@AM.boxK_map) (And.intro (@AM.boxK_pointer) (And.intro (@AM.boxK_slice) (And.intro (@AM.boxK_string) (And.intro (@AM.fa_ptr) (And.intro (@fd_59_0) (And.intro (@fd_59_1) (And.intro (@AM.iaO_ok) (And.intro (AM.ia_slice el_22) (And.intro (@AM.ldO_agg) (And.intro (@AM.ldO_one) (And.intro (@AM.ld_ptr) (And.intro (AM.len_slice ul_22) (And.intro (@lk_22) (And.intro (@lk_3) (And.intro (@AM.op_binOp) (And.intro (@AM.op_box) (And.intro (@AM.op_fieldAddr) (And.intro (@AM.op_indexAddr) (And.intro (@AM.op_len) (@AM.op_load)))))))))))))))))))))))))))


theorem take_next {l t : List Int} {i : Nat} (h1 : i < l.length) (h2 : i < t.length) (h : l.take i = t.take i) (e : l.getD i 0 = t.getD i 0) : l.take (i + 1) = t.take (i + 1) := by
  rw [List.take_add_one, List.take_add_one, h]
  simp only [List.getD, List.getElem?_eq_getElem h1, List.getElem?_eq_getElem h2, Option.getD_some] at e ⊢
  rw [e]
theorem take_all {l t : List Int} (h : l.length = t.length) (e : l.take l.length = t.take l.length) : l = t := by
  rw [List.take_length] at e
  rw [e, List.take_of_length_le (by omega)]
theorem prod_dec (a b : St) : decide (a = b) = (decide (a.1 = b.1) && decide (a.2 = b.2)) := by
  rw [← Bool.decide_and]
  exact decide_eq_decide.2 ⟨fun e => ⟨congrArg _ e, congrArg _ e⟩, fun e => Prod.ext e.1 e.2⟩
set_option maxHeartbeats 4000000 in
theorem refSame_w {va vb : Value} {a b : St} {h : AHeap} (ha : StR h va a) (hb : StR h vb b) (h1 : a.1.length ≤ 4000000) (h2 : a.2.length ≤ 4000000) {Q : VQ} (hq : ∀ h', Fr none' h h' → Q (.bool (decide (a = b))) h') : W 45 [va, vb] h Q := by
  obtain ⟨a1, a2, rfl, ra1, ra2⟩ := ha
  obtain ⟨a1a, a1c, rfl⟩ := ra1.form
  obtain ⟨a2a, a2c, rfl⟩ := ra2.form
  obtain ⟨b1, b2, rfl, rb1, rb2⟩ := hb
  obtain ⟨b1a, b1c, rfl⟩ := rb1.form
  obtain ⟨b2a, b2c, rfl⟩ := rb2.form
  rw [prod_dec] at hq
  refine AM.enter hp (fn := Tryd.f45) (rs := [.tmp 4]) (nt := 59) (by kernel_rfl) Tryd.func45 rfl rfl rfl (by kernel_rfl) ?_
  simp (maxSteps := 1000000) (disch := first | omega | (simp only [AM.DB, List.length_set, List.length_map]; first | done | omega)) only [AM.RB, Nat.reduceAdd, Nat.reduceMul, Nat.reduceEqDiff, reduceCtorEq, b45_PC7]
  generalize hE_ : AHeap.alloc h _ = h1; obtain ⟨g1, fr1, n1, l1⟩ := AM.new_get hE_; clear hE_
  generalize hE_ : AHeap.alloc h1 _ = h2; obtain ⟨g2, fr2, n2, l2⟩ := AM.new_get hE_; clear hE_
  rw [n1] at g2
  have g12 := g1.fr0 fr2
  have fr02 := fr1.trans fr2
  have q1 := ra1.fr0 fr02
  have q2 := ra2.fr0 fr02
  have q3 := rb1.fr0 fr02
  have q4 := rb2.fr0 fr02
  by_cases c1 : (a.1.length : Int) = b.1.length
  case neg =>
    rw [decide_eq_false (show ¬ a.1 = b.1 from fun e => c1 (by rw [e]))] at hq
    (repeat' (first | (simp (maxSteps := 1000000) (disch := first | omega | (simp only [AM.DB, List.length_set, List.length_map]; first | done | omega)) only [AM.RB, Nat.reduceAdd, Nat.reduceMul, Nat.reduceEqDiff, reduceCtorEq, b45_PC7, g12, g2, decide_eq_false c1]) | refine AM.drawW_fine hp (by kernel_rfl) (by kernel_rfl) (by kernel_rfl) ?_ | refine AM.opW_tied (by kernel_rfl) ?_ | refine AM.opW_untied (by kernel_rfl) ?_))
    exact hq _ fr02
  by_cases c2 : (a.2.length : Int) = b.2.length
  case neg =>
    rw [decide_eq_false (show ¬ a.2 = b.2 from fun e => c2 (by rw [e])), Bool.and_false] at hq
    (repeat' (first | (simp (maxSteps := 1000000) (disch := first | omega | (simp only [AM.DB, List.length_set, List.length_map]; first | done | omega)) only [AM.RB, Nat.reduceAdd, Nat.reduceMul, Nat.reduceEqDiff, reduceCtorEq, b45_PC7, g12, g2, decide_eq_true c1, decide_eq_false c2]) | refine AM.drawW_fine hp (by kernel_rfl) (by kernel_rfl) (by kernel_rfl) ?_ | refine AM.opW_tied (by kernel_rfl) ?_ | refine AM.opW_untied (by kernel_rfl) ?_))
    exact hq _ fr02
  have c1' : a.1.length = b.1.length := by omega
  have c2' : a.2.length = b.2.length := by omega
  (repeat' (first | (simp (maxSteps := 1000000) (disch := first | omega | (simp only [AM.DB, List.length_set, List.length_map]; first | done | omega)) only [AM.RB, Nat.reduceAdd, Nat.reduceMul, Nat.reduceEqDiff, reduceCtorEq, b45_PC7, g12, g2, decide_eq_true c1, decide_eq_true c2]) | refine AM.drawW_fine hp (by kernel_rfl) (by kernel_rfl) (by kernel_rfl) ?_ | refine AM.opW_tied (by kernel_rfl) ?_ | refine AM.opW_untied (by kernel_rfl) ?_))
  refine AM.loop_w hp 59 (fun i : Nat => [(2, pv h.next), (3, pv (h.next + 1)), (5, .int .i64 i)]) (fun i h' => h' = h2 ∧ i ≤ a.1.length ∧ a.1.take i = b.1.take i) (fun i => a.1.length - i) (by kernel_rfl) 0 ?_ ?_ ?_
  · simp (maxSteps := 1000000) (disch := first | omega | (simp only [AM.DB, List.length_set, List.length_map]; first | done | omega)) only [AM.RB, Nat.reduceAdd, Nat.reduceMul, Nat.reduceEqDiff, reduceCtorEq, b45_PC7]
    first | rfl | skip
  · exact ⟨rfl, Nat.zero_le _, rfl⟩
  rintro i h3 ρ ⟨rfl, hi, htk⟩
  simp (maxSteps := 1000000) (disch := first | omega | (simp only [AM.DB, List.length_set, List.length_map]; first | done | omega)) only [AM.RB, Nat.reduceAdd, Nat.reduceMul, Nat.reduceEqDiff, reduceCtorEq, b45_PC7, g12]
  refine AM.condV_split (fun hlt => ?_) (fun hlt => ?_)
  · have hil : i < a.1.length := by omega
    have him : i < b.1.length := by omega
    by_cases e : a.1.getD i 0 = b.1.getD i 0
    · (repeat' (first | (simp (maxSteps := 1000000) (disch := first | omega | (simp only [AM.DB, List.length_set, List.length_map]; first | done | omega)) only [AM.RB, Nat.reduceAdd, Nat.reduceMul, Nat.reduceEqDiff, reduceCtorEq, b45_PC7, g12, g2, q1.ia el_22, q3.ia el_22, Rd.ldi q1 lk_3, Rd.ldi q3 lk_3, Int.toNat_natCast, decide_eq_true e, AM.wrap_i64]) | refine AM.drawW_fine hp (by kernel_rfl) (by kernel_rfl) (by kernel_rfl) ?_ | refine AM.opW_tied (by kernel_rfl) ?_ | refine AM.opW_untied (by kernel_rfl) ?_))
      exact ⟨i + 1, by omega, congrArg _ (by omega), by omega, take_next hil him htk e⟩
    · rw [decide_eq_false (show ¬ a.1 = b.1 from fun q => e (by rw [q]))] at hq
      (repeat' (first | (simp (maxSteps := 1000000) (disch := first | omega | (simp only [AM.DB, List.length_set, List.length_map]; first | done | omega)) only [AM.RB, Nat.reduceAdd, Nat.reduceMul, Nat.reduceEqDiff, reduceCtorEq, b45_PC7, g12, g2, q1.ia el_22, q3.ia el_22, Rd.ldi q1 lk_3, Rd.ldi q3 lk_3, Int.toNat_natCast, decide_eq_false e]) | refine AM.drawW_fine hp (by kernel_rfl) (by kernel_rfl) (by kernel_rfl) ?_ | refine AM.opW_tied (by kernel_rfl) ?_ | refine AM.opW_untied (by kernel_rfl) ?_))
      exact hq _ fr02
  obtain rfl : i = a.1.length := by omega
  rw [decide_eq_true (take_all c1' htk), Bool.true_and] at hq
  (repeat' (first | (simp (maxSteps := 1000000) (disch := first | omega | (simp only [AM.DB, List.length_set, List.length_map]; first | done | omega)) only [AM.RB, Nat.reduceAdd, Nat.reduceMul, Nat.reduceEqDiff, reduceCtorEq, b45_PC7]) | refine AM.drawW_fine hp (by kernel_rfl) (by kernel_rfl) (by kernel_rfl) ?_ | refine AM.opW_tied (by kernel_rfl) ?_ | refine AM.opW_untied (by kernel_rfl) ?_))
  refine AM.loop_w hp 59 (fun i : Nat => [(2, pv h.next), (3, pv (h.next + 1)), (6, .int .i64 i)]) (fun i h' => h' = h3 ∧ i ≤ a.2.length ∧ a.2.take i = b.2.take i) (fun i => a.2.length - i) (by kernel_rfl) 0 ?_ ?_ ?_
  · simp (maxSteps := 1000000) (disch := first | omega | (simp only [AM.DB, List.length_set, List.length_map]; first | done | omega)) only [AM.RB, Nat.reduceAdd, Nat.reduceMul, Nat.reduceEqDiff, reduceCtorEq, b45_PC7]
    first | rfl | skip
  · exact ⟨rfl, Nat.zero_le _, rfl⟩
  rintro i h4 ρ ⟨rfl, hi, htk⟩
  simp (maxSteps := 1000000) (disch := first | omega | (simp only [AM.DB, List.length_set, List.length_map]; first | done | omega)) only [AM.RB, Nat.reduceAdd, Nat.reduceMul, Nat.reduceEqDiff, reduceCtorEq, b45_PC7, g12]
  refine AM.condV_split (fun hlt => ?_) (fun hlt => ?_)
  · have hil : i < a.2.length := by omega
    have him : i < b.2.length := by omega
    by_cases e : a.2.getD i 0 = b.2.getD i 0
    · (repeat' (first | (simp (maxSteps := 1000000) (disch := first | omega | (simp only [AM.DB, List.length_set, List.length_map]; first | done | omega)) only [AM.RB, Nat.reduceAdd, Nat.reduceMul, Nat.reduceEqDiff, reduceCtorEq, b45_PC7, g12, g2, q2.ia el_22, q4.ia el_22, Rd.ldi q2 lk_3, Rd.ldi q4 lk_3, Int.toNat_natCast, decide_eq_true e, AM.wrap_i64]) | refine AM.drawW_fine hp (by kernel_rfl) (by kernel_rfl) (by kernel_rfl) ?_ | refine AM.opW_tied (by kernel_rfl) ?_ | refine AM.opW_untied (by kernel_rfl) ?_))
      exact ⟨i + 1, by omega, congrArg _ (by omega), by omega, take_next hil him htk e⟩
    · rw [decide_eq_false (show ¬ a.2 = b.2 from fun q => e (by rw [q]))] at hq
      (repeat' (first | (simp (maxSteps := 1000000) (disch := first | omega | (simp only [AM.DB, List.length_set, List.length_map]; first | done | omega)) only [AM.RB, Nat.reduceAdd, Nat.reduceMul, Nat.reduceEqDiff, reduceCtorEq, b45_PC7, g12, g2, q2.ia el_22, q4.ia el_22, Rd.ldi q2 lk_3, Rd.ldi q4 lk_3, Int.toNat_natCast, decide_eq_false e]) | refine AM.drawW_fine hp (by kernel_rfl) (by kernel_rfl) (by kernel_rfl) ?_ | refine AM.opW_tied (by kernel_rfl) ?_ | refine AM.opW_untied (by kernel_rfl) ?_))
      exact hq _ fr02
  obtain rfl : i = a.2.length := by omega
  rw [decide_eq_true (take_all c2' htk)] at hq
  (repeat' (first | (simp (maxSteps := 1000000) (disch := first | omega | (simp only [AM.DB, List.length_set, List.length_map]; first | done | omega)) only [AM.RB, Nat.reduceAdd, Nat.reduceMul, Nat.reduceEqDiff, reduceCtorEq, b45_PC7]) | refine AM.drawW_fine hp (by kernel_rfl) (by kernel_rfl) (by kernel_rfl) ?_ | refine AM.opW_tied (by kernel_rfl) ?_ | refine AM.opW_untied (by kernel_rfl) ?_))
  exact hq _ fr02

end Go.Proofs.YtbaohngkapmhlaaDoor

namespace Go.Proofs.YtbaohngkapmhlaaDoor
open Go.AM

/-! ### All steps: as the document has them -/
def stepsKn (L : List (List UInt8)) (s : St) (k : Int) (n : Nat) : List Sp := (List.range n).flatMap (stepsR L s k)
theorem stepsKn_succ (L : List (List UInt8)) (s : St) (k : Int) (n : Nat) : stepsKn L s k (n + 1) = stepsKn L s k n ++ stepsR L s k n := by
  unfold stepsKn
  rw [List.range_succ, List.flatMap_append]; simp
/-- The steps of the kinds below k + 1. -/
def stepsKs (L : List (List UInt8)) (s : St) : Nat → List Sp
  | 0 => []
  | k + 1 => stepsKs L s k ++ stepsK L s ((k + 1 : Nat) : Int)
theorem stepsKs_3 (L : List (List UInt8)) (s : St) : stepsKs L s 3 = stepsL L s := by
  unfold stepsL
  rw [stepsKs, stepsKs, stepsKs, stepsKs, List.nil_append]; rfl
theorem stepsR_len (L : List (List UInt8)) (s : St) (k : Int) (r : Nat) : (stepsR L s k r).length ≤ L.flatten.length := by
  unfold stepsR
  refine Nat.le_trans (List.length_filter_le _ _) ?_
  rw [List.length_map]; exact allP_len _ _
theorem stepsKn_len (L : List (List UInt8)) (s : St) (k : Int) : ∀ n, (stepsKn L s k n).length ≤ n * L.flatten.length
  | 0 => by rw [Nat.zero_mul]; exact Nat.le_refl _
  | n + 1 => by
    rw [stepsKn_succ, List.length_append, Nat.succ_mul]
    exact Nat.add_le_add (stepsKn_len L s k n) (stepsR_len L s k n)
theorem stepsKs_len (L : List (List UInt8)) (s : St) : ∀ k, (stepsKs L s k).length ≤ k * (s.1.length * L.flatten.length)
  | 0 => by rw [Nat.zero_mul]; exact Nat.le_refl _
  | k + 1 => by
    rw [stepsKs, List.length_append, Nat.succ_mul]
    exact Nat.add_le_add (stepsKs_len L s k) (stepsKn_len L s _ s.1.length)
end Go.Proofs.YtbaohngkapmhlaaDoor

namespace Go.Proofs.YtbaohngkapmhlaaDoor
open Go.AM
set_option maxRecDepth 8000
/-- A state of the run's own: two slices apart. -/
def StO (n : Nat) (h : AHeap) (v : Value) (s : St) : Prop := ∃ a b, v = .agg #[a, b] ∧ Ow h 3 1 a s.1.length (s.1.map (.int .i64)) ∧ Ow h 3 1 b s.2.length (s.2.map (.int .i64)) ∧ (∀ id, idOf a id ∨ idOf b id → n ≤ id) ∧ ∀ id, idOf a id → ¬ idOf b id
theorem StO.rd {n : Nat} {h : AHeap} {v : Value} {s : St} (x : StO n h v s) : StR h v s := by
  obtain ⟨a, b, e, oa, ob, _⟩ := x
  exact ⟨a, b, e, oa.rd, ob.rd⟩
theorem StO.fr0 {n : Nat} {h h' : AHeap} {v : Value} {s : St} (x : StO n h v s) (fr : Fr none' h h') : StO n h' v s := by
  obtain ⟨a, b, e, oa, ob, q⟩ := x
  exact ⟨a, b, e, oa.fr0 fr, ob.fr0 fr, q⟩
theorem StO.fr {n : Nat} {h h' : AHeap} {v : Value} {s : St} {T : Nat → Prop} (x : StO n h v s) (fr : Fr T h h') (hT : ∀ id, n ≤ id → ¬ T id) : StO n h' v s := by
  obtain ⟨a, b, e, oa, ob, hid, q⟩ := x
  exact ⟨a, b, e, oa.fr fr (fun id k => hT id (hid id (.inl k))), ob.fr fr (fun id k => hT id (hid id (.inr k))), hid, q⟩
theorem StO.weak {n n' : Nat} {h : AHeap} {v : Value} {s : St} (x : StO n h v s) (hn : n' ≤ n) : StO n' h v s := by
  obtain ⟨a, b, e, oa, ob, hid, q⟩ := x
  exact ⟨a, b, e, oa, ob, fun id k => Nat.le_trans hn (hid id k), q⟩
theorem map_set' (l : List Int) (i : Nat) (v : Int) : (l.map (Value.int .i64)).set i (.int .i64 v) = (l.set i v).map (.int .i64) := by rw [List.map_set]
end Go.Proofs.YtbaohngkapmhlaaDoor

namespace Go.Proofs.YtbaohngkapmhlaaDoor
open Go.AM
set_option maxRecDepth 8000
theorem b62_PR1 : type_of% (And.intro (@Option.isNone_none.{0}) (And.intro (@Option.isNone_some.{0}) (And.intro (AM.bin_snil ul_22) (And.intro (AM.bsW_int bs_22) (And.intro (AM.bsW_nil bs_22) (And.intro (AM.bsW_slice bs_22) (And.intro (AM.bsW_string bs_22) (And.intro (@AM.op_append) (And.intro (@AM.op_binOp) (@AM.op_buildSlice)))))))))) := And.intro (@Option.isNone_none.{0}) (And.intro (@Option.isNone_some.{0}) (And.intro (AM.bin_snil ul_22) (And.intro (AM.bsW_int bs_22) (And.intro (AM.bsW_nil bs_22) (And.intro (AM.bsW_slice bs_22) (And.intro (AM.bsW_string bs_22) (And.intro (@AM.op_append) (And.intro (@AM.op_binOp) (@AM.op_buildSlice)))))))))
theorem b115_PR1 : type_of% (And.intro (@AM.bin_add) (And.intro (@AM.bin_and) (And.intro (@AM.bin_mul) (And.intro (@AM.bin_shr) (And.intro (@AM.op_binOp) (@AM.resL_two)))))) := And.intro (@AM.bin_add) (And.intro (@AM.bin_and) (And.intro (@AM.bin_mul) (And.intro (@AM.bin_shr) (And.intro (@AM.op_binOp) (@AM.resL_two)))))
theorem b105_PR1 : type_of% (And.intro (@AM.cvW_int) (And.intro (AM.cv_int ul_158 ul_98) (And.intro (AM.cv_int ul_98 ul_158) (And.intro (@AM.ex_tuple) (And.intro (@AM.op_call) (And.intro (@AM.op_convert) (And.intro (@AM.op_extract) (@AM.resL_two)))))))) := And.intro (@AM.cvW_int) (And.intro (AM.cv_int ul_158 ul_98) (And.intro (AM.cv_int ul_98 ul_158) (And.intro (@AM.ex_tuple) (And.intro (@AM.op_call) (And.intro (@AM.op_convert) (And.intro (@AM.op_extract) (@AM.resL_two)))))))
theorem b87_PR1 : type_of% (And.intro (@AM.bin_add) (And.intro (@AM.bin_gtr) (And.intro (@AM.bin_lss) (And.intro (@AM.cvW_int) (And.intro (AM.cv_int ul_158 ul_3) (And.intro (AM.cv_int ul_3 ul_158) (And.intro (@AM.ex_tuple) (And.intro (AM.len_slice ul_22) (And.intro (AM.mkW_int mk_22) (And.intro (@AM.op_binOp) (And.intro (@AM.op_call) (And.intro (@AM.op_convert) (And.intro (@AM.op_copy) (And.intro (@AM.op_extract) (And.intro (@AM.op_len) (And.intro (@AM.op_makeInterface) (And.intro (@AM.op_makeSlice) (@AM.op_slice)))))))))))))))))) := And.intro (@AM.bin_add) (And.intro (@AM.bin_gtr) (And.intro (@AM.bin_lss) (And.intro (@AM.cvW_int) (And.intro (AM.cv_int ul_158 ul_3) (And.intro (AM.cv_int ul_3 ul_158) (And.intro (@AM.ex_tuple) (And.intro (AM.len_slice ul_22) (And.intro (AM.mkW_int mk_22) (And.intro (@AM.op_binOp) (And.intro (@AM.op_call) (And.intro (@AM.op_convert) (And.intro (@AM.op_copy) (And.intro (@AM.op_extract) (And.intro (@AM.op_len) (And.intro (@AM.op_makeInterface) (And.intro (@AM.op_makeSlice) (@AM.op_slice)))))))))))))))))


theorem cloneI_w {h : AHeap} {v : Value} {l : List Int} (hs : Rd h 3 1 v l.length (l.map (.int .i64))) (hl : h.low ≤ h.next) (hn : l.length ≤ 4000000) {Q : VQ}
    (hq : ∀ v' h', Ow h' 3 1 v' l.length (l.map (.int .i64)) → Fr none' h h' → (∀ id, idOf v' id → h.next ≤ id) → Q v' h') : W 62 [v] h Q := by
  refine AM.enter hp (fn := Tryd.f62) (rs := [.tmp 2]) (nt := 8) (by kernel_rfl) Tryd.func62 rfl rfl rfl (by kernel_rfl) ?_
  rcases id hs with ⟨rfl, h0, _⟩ | ⟨id, off, cap, c, e', o, rfl, _⟩
  · obtain rfl : l = [] := List.eq_nil_of_length_eq_zero h0
    (first | (simp (maxSteps := 1000000) (disch := first | omega | (simp only [AM.DB, List.length_set, List.length_map]; first | done | omega)) only [AM.RB, Nat.reduceAdd, Nat.reduceMul, Nat.reduceEqDiff, reduceCtorEq, b62_PR1]) | skip)
    exact hq _ _ (AM.Ow.nil _ _ _) (Fr.refl _ _) (fun id q => q.elim)
  · (first | (simp (maxSteps := 1000000) (disch := first | omega | (simp only [AM.DB, List.length_set, List.length_map]; first | done | omega)) only [AM.RB, Nat.reduceAdd, Nat.reduceMul, Nat.reduceEqDiff, reduceCtorEq, b62_PR1]) | skip)
    generalize hE_ : AHeap.alloc h _ = h1; obtain ⟨g1, fr1, n1, l1⟩ := AM.new_get hE_; clear hE_
    have o1 : Ow h1 3 1 (.slice (some ⟨h.next, 0, none⟩) 0 0) 0 [] := .inr ⟨_, _, _, _, _, rfl, Nat.le_refl _, g1, by simp, by simp, by omega⟩
    refine AM.appends_w ap_22 ap_22 o1 (hs.fr0 fr1) (AM.ints_one _ _) (by omega) (AM.fits (by omega) (by omega)) (AM.fits' (by omega)) fun v2 h2 o2 fr2 hid2 => ?_
    rw [Nat.zero_add, List.nil_append] at o2
    (first | (simp (maxSteps := 1000000) (disch := first | omega | (simp only [AM.DB, List.length_set, List.length_map]; first | done | omega)) only [AM.RB, Nat.reduceAdd, Nat.reduceMul, Nat.reduceEqDiff, reduceCtorEq, b62_PR1]) | skip)
    refine hq _ _ o2 (Fr.fresh fr1 fr2 (fun id e => by have e : id = h.next := e; omega)) (fun id q => ?_)
    rcases hid2 id q with q | q
    · have e : id = h.next := q
      omega
    · omega
theorem mul64_w {n : Nat} (hn : n ≤ 4000000) {h : AHeap} {Q : VQ} (hq : Q (.tuple #[.int .u64 0, .int .u64 n]) h) : W 115 [.int .u64 1, .int .u64 n] h Q := by
  have a1 : IntKind.u64.wrap ((BitVec.ofInt IntKind.u64.bits (1 : Int) &&& BitVec.ofInt IntKind.u64.bits 4294967295).toNat : Int) = 1 := rfl
  have a2 := AM.and_mask (n := n) (by omega)
  have a0 : IntKind.u64.wrap ((BitVec.ofInt IntKind.u64.bits (0 : Int) &&& BitVec.ofInt IntKind.u64.bits 4294967295).toNat : Int) = 0 := rfl
  have s1 : Int.fdiv (1 : Int) (2 ^ (min (32 : Int).toNat IntKind.u64.bits)) = 0 := rfl
  have s2 := AM.shr_32 (n := n) (by omega)
  have s0 : Int.fdiv (0 : Int) (2 ^ (min (32 : Int).toNat IntKind.u64.bits)) = 0 := rfl
  refine AM.enter hp (fn := Tryd.f115) (rs := [.tmp 4, .tmp 5]) (nt := 51) (by kernel_rfl) Tryd.func115 rfl rfl rfl (by kernel_rfl) ?_
  (first | (simp (maxSteps := 1000000) (disch := first | omega | (simp only [AM.DB, List.length_set, List.length_map]; first | done | omega)) only [AM.RB, Nat.reduceAdd, Nat.reduceMul, Nat.reduceEqDiff, reduceCtorEq, b115_PR1, a1, a2, a0, s1, s2, s0, Int.zero_mul, Int.one_mul, Int.mul_zero, Int.add_zero, Int.zero_add, AM.wrap_u64]) | skip)
  exact hq
theorem mul_w {n : Nat} (hn : n ≤ 4000000) {h : AHeap} {Q : VQ} (hq : Q (.tuple #[.int .u64 0, .int .u64 n]) h) : W 105 [.int .u64 1, .int .u64 n] h Q := by
  refine AM.enter hp (fn := Tryd.f105) (rs := [.tmp 4, .tmp 5]) (nt := 30) (by kernel_rfl) Tryd.func105 rfl rfl rfl (by kernel_rfl) ?_
  (first | (simp (maxSteps := 1000000) (disch := first | omega | (simp only [AM.DB, List.length_set, List.length_map]; first | done | omega)) only [AM.RB, Nat.reduceAdd, Nat.reduceMul, Nat.reduceEqDiff, reduceCtorEq, b105_PR1]) | skip)
  refine mul64_w hn ?_
  (first | (simp (maxSteps := 1000000) (disch := first | omega | (simp only [AM.DB, List.length_set, List.length_map]; first | done | omega)) only [AM.RB, Nat.reduceAdd, Nat.reduceMul, Nat.reduceEqDiff, reduceCtorEq, b105_PR1]) | skip)
  exact hq
theorem setRow_rep (n k m : Nat) (x : Value) (y : Value) (hk : k + m ≤ n) : setRow (List.replicate k x ++ List.replicate (n - k) y) k (List.replicate m x) = List.replicate (k + m) x ++ List.replicate (n - (k + m)) y := by
  apply List.ext_getElem?
  intro i
  rw [AM.setRow_get _ _ _ (by simp <;> omega)]
  simp only [List.length_replicate, List.getElem?_append, List.getElem?_replicate]
  rcases (show (k ≤ i ∧ i < k + m) ∨ i < k ∨ (k + m ≤ i ∧ i < n) ∨ n ≤ i by omega) with q | q | q | q
  · simp [q, show ¬ i < k by omega, show i - k < m by omega]
  · rw [if_neg (show ¬ (k ≤ i ∧ i < k + m) by omega)]
    simp [q, show i < k + m by omega]
  · simp [show ¬ (k ≤ i ∧ i < k + m) by omega, show ¬ i < k + m by omega, show ¬ i < k by omega, show i - k < n - k by omega, show i - (k + m) < n - (k + m) by omega]
  · simp [show ¬ (k ≤ i ∧ i < k + m) by omega, show ¬ i < k + m by omega, show ¬ i < k by omega, show ¬ i - k < n - k by omega, show ¬ i - (k + m) < n - (k + m) by omega]
set_option maxHeartbeats 4000000 in
theorem repeat_w {h : AHeap} {v : Value} {x : Int} {n : Nat} (hs : Rd h 3 1 v 1 [.int .i64 x]) (hn0 : 0 < n) (hn : n ≤ 4000000) (hl : h.low ≤ h.next) {Q : VQ}
    (hq : ∀ v' h', Ow h' 3 1 v' n ((List.replicate n x).map (.int .i64)) → Fr none' h h' → (∀ id, idOf v' id → h.next ≤ id) → Q v' h') : W 87 [v, .int .i64 n] h Q := by
  obtain ⟨va, vc, rfl⟩ := hs.form
  have d1 : decide ((n : Int) < 0) = false := decide_eq_false (by omega)
  have d2 : decide ((9223372036854775807 : Int) < (n : Int)) = false := decide_eq_false (by omega)
  refine AM.enter hp (fn := Tryd.f87) (rs := [.tmp 4]) (nt := 48) (by kernel_rfl) Tryd.func87 rfl rfl rfl (by kernel_rfl) ?_
  (repeat' (first | (simp (maxSteps := 1000000) (disch := first | omega | (simp only [AM.DB, List.length_set, List.length_map]; first | done | omega)) only [AM.RB, Nat.reduceAdd, Nat.reduceMul, Nat.reduceEqDiff, reduceCtorEq, b87_PR1, d1, AM.wrap_u64, AM.wrap_i64]) | refine AM.drawW_fine hp (by kernel_rfl) (by kernel_rfl) (by kernel_rfl) ?_ | refine AM.opW_tied (by kernel_rfl) ?_ | refine AM.opW_untied (by kernel_rfl) ?_))
  refine mul_w hn ?_
  have d0 : decide ((0 : Int) < 0) = false := rfl
  have erep : ∀ m, AM.repeated [Value.int .i64 0] m = List.replicate m (Value.int .i64 0) := fun m => by
    induction m with
    | zero => rfl
    | succ m ih => rw [AM.repeated, ih, List.replicate_succ]; rfl
  (repeat' (first | (simp (maxSteps := 1000000) (disch := first | omega | (simp only [AM.DB, List.length_set, List.length_map]; first | done | omega)) only [AM.RB, Nat.reduceAdd, Nat.reduceMul, Nat.reduceEqDiff, reduceCtorEq, b87_PR1, d0, d2, AM.wrap_i64, erep]) | refine AM.drawW_fine hp (by kernel_rfl) (by kernel_rfl) (by kernel_rfl) ?_ | refine AM.opW_tied (by kernel_rfl) ?_ | refine AM.opW_untied (by kernel_rfl) ?_))
  generalize hE_ : AHeap.alloc h _ = h1; obtain ⟨g1, fr1, n1, l1⟩ := AM.new_get hE_; clear hE_
  refine AM.copy_w (id := h.next) (off := 0) (c := List.replicate n (.int .i64 0)) (cs := [.int .i64 x]) (m := 1) (dl := n) el_22 (by omega) g1 (by omega) (by simp) (hs.fr0 fr1) rfl (by omega) fun h2 g2 fr2 n2 l2 => ?_
  have em : min 1 n = 1 := by omega
  have e2 : setRow (List.replicate n (Value.int .i64 0)) 0 ([Value.int .i64 x].take (min 1 n * 1)) = List.replicate 1 (.int .i64 x) ++ List.replicate (n - 1) (.int .i64 0) := by
    have := setRow_rep n 0 1 (.int .i64 x) (.int .i64 0) (by omega)
    simpa [em] using this
  rw [e2] at g2
  rw [em]
  have fr02 : Fr none' h h2 := Fr.fresh fr1 fr2 (fun id e => by have e : id = h.next := e; omega)
  (repeat' (first | (simp (maxSteps := 1000000) (disch := first | omega | (simp only [AM.DB, List.length_set, List.length_map]; first | done | omega)) only [AM.RB, Nat.reduceAdd, Nat.reduceMul, Nat.reduceEqDiff, reduceCtorEq, b87_PR1]) | refine AM.drawW_fine hp (by kernel_rfl) (by kernel_rfl) (by kernel_rfl) ?_ | refine AM.opW_tied (by kernel_rfl) ?_ | refine AM.opW_untied (by kernel_rfl) ?_))
  refine AM.loop_w hp 48 (fun k : Nat => [(7, .slice (some ⟨h.next, 0, none⟩) n n), (8, .int .i64 k)])
    (fun k h' => 1 ≤ k ∧ k ≤ n ∧ h'.get h.next = some (.cells (List.replicate k (.int .i64 x) ++ List.replicate (n - k) (.int .i64 0)) 3 false) ∧ Fr none' h h' ∧ h.next < h'.next) (fun k => n - k) (by kernel_rfl) 1 ?_ ?_ ?_
  · simp (maxSteps := 1000000) (disch := first | omega | (simp only [AM.DB, List.length_set, List.length_map]; first | done | omega)) only [AM.RB, Nat.reduceAdd, Nat.reduceMul, Nat.reduceEqDiff, reduceCtorEq, b87_PR1]
    first | rfl | skip
  · exact ⟨Nat.le_refl _, hn0, g2, fr02, by omega⟩
  rintro k h3 ρ ⟨hk1, hkn, g3, fr3, nx3⟩
  have lw3 := fr3.low
  simp (maxSteps := 1000000) (disch := first | omega | (simp only [AM.DB, List.length_set, List.length_map]; first | done | omega)) only [AM.RB, Nat.reduceAdd, Nat.reduceMul, Nat.reduceEqDiff, reduceCtorEq, b87_PR1]
  refine AM.condV_split (fun hlt => ?_) (fun hlt => ?_)
  · have hkl : k < n := by omega
    (repeat' (first | (simp (maxSteps := 1000000) (disch := first | omega | (simp only [AM.DB, List.length_set, List.length_map]; first | done | omega)) only [AM.RB, Nat.reduceAdd, Nat.reduceMul, Nat.reduceEqDiff, reduceCtorEq, b87_PR1, AM.slc el_22 g3, AM.slbs_lo_i, AM.slbs_hi_i, Int.toNat_natCast, Nat.sub_zero, Nat.zero_mul, Nat.mul_one]) | refine AM.drawW_fine hp (by kernel_rfl) (by kernel_rfl) (by kernel_rfl) ?_ | refine AM.opW_tied (by kernel_rfl) ?_ | refine AM.opW_untied (by kernel_rfl) ?_))
    have r3 : Rd h3 3 1 (.slice (some ⟨h.next, 0, none⟩) k n) k (List.replicate k (.int .i64 x)) := .inr ⟨_, _, _, _, _, _, rfl, hkn, g3, by simp <;> omega, by simp, .inr rfl⟩
    refine AM.copy_w (id := h.next) (off := k) (cs := List.replicate k (.int .i64 x)) (m := k) (dl := n - k) el_22 (by omega) g3 (by omega) (by simp <;> omega) r3 (by rw [List.all_eq_true]; intro v hv; rw [List.eq_of_mem_replicate hv]; rfl) (by omega) fun h4 g4 fr4 n4 l4 => ?_
    have e4 : setRow (List.replicate k (Value.int .i64 x) ++ List.replicate (n - k) (.int .i64 0)) k ((List.replicate k (Value.int .i64 x)).take (min k (n - k) * 1)) = List.replicate (k + min k (n - k)) (.int .i64 x) ++ List.replicate (n - (k + min k (n - k))) (.int .i64 0) := by
      rw [Nat.mul_one, List.take_replicate, show min (min k (n - k)) k = min k (n - k) by omega]
      exact setRow_rep n k _ _ _ (by omega)
    rw [e4] at g4
    (repeat' (first | (simp (maxSteps := 1000000) (disch := first | omega | (simp only [AM.DB, List.length_set, List.length_map]; first | done | omega)) only [AM.RB, Nat.reduceAdd, Nat.reduceMul, Nat.reduceEqDiff, reduceCtorEq, b87_PR1, AM.wrap_i64]) | refine AM.drawW_fine hp (by kernel_rfl) (by kernel_rfl) (by kernel_rfl) ?_ | refine AM.opW_tied (by kernel_rfl) ?_ | refine AM.opW_untied (by kernel_rfl) ?_))
    refine ⟨k + min k (n - k), by omega, congrArg _ (by omega), by omega, by omega, g4, Fr.fresh fr3 fr4 (fun id e => by have e : id = h.next := e; omega), by omega⟩
  · obtain rfl : k = n := by omega
    rw [Nat.sub_self, List.replicate_zero, List.append_nil] at g3
    (repeat' (first | (simp (maxSteps := 1000000) (disch := first | omega | (simp only [AM.DB, List.length_set, List.length_map]; first | done | omega)) only [AM.RB, Nat.reduceAdd, Nat.reduceMul, Nat.reduceEqDiff, reduceCtorEq, b87_PR1]) | refine AM.drawW_fine hp (by kernel_rfl) (by kernel_rfl) (by kernel_rfl) ?_ | refine AM.opW_tied (by kernel_rfl) ?_ | refine AM.opW_untied (by kernel_rfl) ?_))
    refine hq _ _ (.inr ⟨_, _, _, _, _, rfl, Nat.le_refl _, g3, by simp, by simp, by omega⟩) fr3 (fun id e => by have e : id = h.next := e; omega)

end Go.Proofs.YtbaohngkapmhlaaDoor

namespace Go.Proofs.YtbaohngkapmhlaaDoor
open Go.AM
set_option maxRecDepth 8000
theorem b104_PC5 : type_of% (And.intro (@AM.bdV_some) (And.intro (@bd_65) (And.intro (@AM.bin_add) (And.intro (@AM.bin_leq) (And.intro (@AM.bin_lss) (And.intro (@AM.fillL_cons) (And.intro (@AM.fillL_nil) (And.intro (@AM.fillS_agg) (And.intro (@AM.fillS_bool) (And.intro (@AM.fillS_func) (And.intro (@AM.fillS_int) (And.intro (@AM.fillS_map) (And.intro (@AM.fillS_pointer) (And.intro (@AM.fillS_slice) (And.intro (@AM.fillS_string) (And.intro (@AM.iaO_ok) (And.intro (AM.ia_slice el_22) (And.intro (@AM.ldO_agg) (And.intro (@AM.ldO_one) (And.intro (@AM.ld_ptr) (And.intro (AM.len_slice ul_22) (And.intro (@lk_26) (And.intro (@lk_3) (And.intro (@AM.op_binOp) (And.intro (@AM.op_build) (And.intro (@AM.op_call) (And.intro (@AM.op_indexAddr) (And.intro (@AM.op_len) (And.intro (@AM.op_load) (And.intro (@AM.op_unOp) (And.intro (@AM.un_neg) (@AM.un_not)))))))))))))))))))))))))))))))) := And.intro (@AM.bdV_some) (And.intro (@bd_65) (And.intro (@AM.bin_add) (And.intro (@AM.bin_leq) (And.intro (@AM.bin_lss) (And.intro (@AM.fillL_cons) (And.intro (@AM.fillL_nil) (And.intro (@AM.fillS_agg) (And.intro (@AM.fillS_bool) (And.intro (@AM.fillS_func) (And.intro (@AM.fillS_int) (And.intro (@AM.fillS_map) (And.intro (@AM.fillS_pointer) (And.intro (@AM.fillS_slice) (And.intro (@AM.fillS_string) (And.intro (@AM.iaO_ok) (And.intro (AM.ia_slice el_22) (And.intro (@AM.ldO_agg) (And.intro (@AM.ldO_one) (And.intro (@AM.ld_ptr) (And.intro (AM.len_slice ul_22) (And.intro (@lk_26) (And.intro (@lk_3) (And.intro (@AM.op_binOp) (And.intro (@AM.op_build) (And.intro (@AM.op_call) (And.intro (@AM.op_indexAddr) (And.intro (@AM.op_len) (And.intro (@AM.op_load) (And.intro (@AM.op_unOp) (And.intro (@AM.un_neg) (@AM.un_not)))))))))))))))))))))))))))))))


/-! ### All steps, one behind the other -/
def preC (C : List Int) (k r : Nat) : List Sp := C.map fun c => (((k + 1 : Nat) : Int), (r : Int), c)
def preR (C : List Int) (k : Nat) : Nat → List Sp
  | 0 => []
  | r + 1 => preR C k r ++ preC C k r
def preK (C : List Int) (n : Nat) : Nat → List Sp
  | 0 => []
  | k + 1 => preK C n k ++ preR C k n
theorem preR_pre (C : List Int) (k : Nat) : ∀ (r n : Nat), r ≤ n → ∃ t, preR C k n = preR C k r ++ t
  | r, 0, h => ⟨[], by rw [show r = 0 by omega]; rfl⟩
  | r, n + 1, h => by
    by_cases e : r = n + 1
    · exact ⟨[], by rw [e, List.append_nil]⟩
    · obtain ⟨t, ht⟩ := preR_pre C k r n (by omega)
      exact ⟨_, by rw [preR, ht, List.append_assoc]⟩
theorem preK_pre (C : List Int) (n : Nat) : ∀ (k m : Nat), k ≤ m → ∃ t, preK C n m = preK C n k ++ t
  | k, 0, h => ⟨[], by rw [show k = 0 by omega]; rfl⟩
  | k, m + 1, h => by
    by_cases e : k = m + 1
    · exact ⟨[], by rw [e, List.append_nil]⟩
    · obtain ⟨t, ht⟩ := preK_pre C n k m (by omega)
      exact ⟨_, by rw [preK, ht, List.append_assoc]⟩
theorem step_at (C : List Int) (n : Nat) {k r j : Nat} (hk : k < 3) (hr : r < n) (hj : j < C.length) : (preK C n 3)[(preK C n k).length + (preR C k r).length + j]? = some (((k + 1 : Nat) : Int), (r : Int), C.getD j 0) := by
  obtain ⟨t, ht⟩ := preK_pre C n (k + 1) 3 (by omega)
  obtain ⟨u, hu⟩ := preR_pre C k (r + 1) n (by omega)
  rw [ht, preK, hu, preR]
  have e : preK C n k ++ (preR C k r ++ preC C k r ++ u) ++ t = preK C n k ++ (preR C k r ++ (preC C k r ++ (u ++ t))) := by simp [List.append_assoc]
  rw [e, Nat.add_assoc, List.getElem?_append_right (by omega), Nat.add_sub_cancel_left, List.getElem?_append_right (by omega), Nat.add_sub_cancel_left, List.getElem?_append_left (by unfold preC; rw [List.length_map]; exact hj)]
  unfold preC
  rw [List.getElem?_map, List.getElem?_eq_getElem hj]
  simp [List.getD, hj]
def allI (w1 w2 p n : Nat) (L : List (List UInt8)) (h1 : AHeap) : Prop := h1.get w1 = some (.cells [.int .i64 (n : Int)] 3 false) ∧ h1.get w2 = some (.cells [pv p] 26 false) ∧ ∃ kv tl, Mp h1 p kv L.length (L.getD 0 []).length L.flatten tl
set_option maxHeartbeats 4000000 in
theorem all1_w {w1 w2 p n : Nat} {L : List (List UInt8)} (f : Fit L) (hn : n ≤ 4000000) {h : AHeap} :
    IterOkI Tryd.prog prims (.func (.func 104) #[] #[pv w1, pv w2]) (allI w1 w2 p n L) ((preK (allP L.flatten L.flatten.length) n 3).map fun x => [spV x]) h := by
  intro y J E h0 hnx hlow0 hlw hJ hE hI hy hJ0
  have hK := f.k1024
  generalize hC : allP L.flatten L.flatten.length = C at *
  have hCl : C.length ≤ 1024 := by rw [← hC]; exact Nat.le_trans (allP_len _ _) hK
  refine AM.enter hp (fn := Tryd.f104) (rs := []) (nt := 32) (by kernel_rfl) Tryd.func104 rfl rfl rfl (by kernel_rfl) ?_
  simp (maxSteps := 1000000) (disch := first | omega | (simp only [AM.DB, List.length_set, List.length_map]; first | done | omega)) only [AM.RB, Nat.reduceAdd, Nat.reduceMul, Nat.reduceEqDiff, reduceCtorEq, b104_PC5]
  refine AM.loop_w hp 32 (fun k : Nat => [(0, y), (1, pv w1), (2, pv w2), (4, .int .i64 ((k + 1 : Nat) : Int))])
    (fun k h' => k ≤ 3 ∧ h0.next ≤ h'.next ∧ h'.low = h0.low ∧ ∃ A, (∀ id, A id → h0.next ≤ id ∧ id < h'.next) ∧ J (preK C n k).length A h') (fun k => 3 - k) (by kernel_rfl) 0 ?_ ?_ ?_
  · simp (maxSteps := 1000000) (disch := first | omega | (simp only [AM.DB, List.length_set, List.length_map]; first | done | omega)) only [AM.RB, Nat.reduceAdd, Nat.reduceMul, Nat.reduceEqDiff, reduceCtorEq, b104_PC5]
    first | rfl | skip
  · exact ⟨Nat.zero_le _, Nat.le_refl _, rfl, none', fun id q => q.elim, hJ0⟩
  rintro k h1 ρ ⟨hk, nx1, lw1, A1, hA1, hJ1⟩
  obtain ⟨gw1, gw2, kv1, tl1, mm1⟩ := hI _ _ _ hJ1
  simp (maxSteps := 1000000) (disch := first | omega | (simp only [AM.DB, List.length_set, List.length_map]; first | done | omega)) only [AM.RB, Nat.reduceAdd, Nat.reduceMul, Nat.reduceEqDiff, reduceCtorEq, b104_PC5]
  refine AM.condV_split (fun hlt => ?_) (fun hlt => ?_)
  · have hk3 : k < 3 := by omega
    (repeat' (first | (simp (maxSteps := 1000000) (disch := first | omega | (simp only [AM.DB, List.length_set, List.length_map]; first | done | omega)) only [AM.RB, Nat.reduceAdd, Nat.reduceMul, Nat.reduceEqDiff, reduceCtorEq, b104_PC5, gw1]) | refine AM.build_w ?_))
    refine AM.loop_w hp 32 (fun r : Nat => [(0, y), (1, pv w1), (2, pv w2), (4, .int .i64 ((k + 1 : Nat) : Int)), (12, .int .i64 n), (13, .int .i64 r)])
      (fun r h' => r ≤ n ∧ h0.next ≤ h'.next ∧ h'.low = h0.low ∧ ∃ A, (∀ id, A id → h0.next ≤ id ∧ id < h'.next) ∧ J ((preK C n k).length + (preR C k r).length) A h') (fun r => n - r) (by kernel_rfl) 0 ?_ ?_ ?_
    · simp (maxSteps := 1000000) (disch := first | omega | (simp only [AM.DB, List.length_set, List.length_map]; first | done | omega)) only [AM.RB, Nat.reduceAdd, Nat.reduceMul, Nat.reduceEqDiff, reduceCtorEq, b104_PC5]
      first | rfl | skip
    · exact ⟨Nat.zero_le _, nx1, lw1, A1, hA1, hJ1⟩
    rintro r h2 ρ ⟨hr, nx2, lw2, A2, hA2, hJ2⟩
    obtain ⟨gw12, gw22, kv2, tl2, mm2⟩ := hI _ _ _ hJ2
    simp (maxSteps := 1000000) (disch := first | omega | (simp only [AM.DB, List.length_set, List.length_map]; first | done | omega)) only [AM.RB, Nat.reduceAdd, Nat.reduceMul, Nat.reduceEqDiff, reduceCtorEq, b104_PC5]
    refine AM.condV_split (fun hltr => ?_) (fun hltr => ?_)
    · have hrn : r < n := by omega
      (repeat' (first | (simp (maxSteps := 1000000) (disch := first | omega | (simp only [AM.DB, List.length_set, List.length_map]; first | done | omega)) only [AM.RB, Nat.reduceAdd, Nat.reduceMul, Nat.reduceEqDiff, reduceCtorEq, b104_PC5, gw22]) | refine AM.build_w ?_))
      refine all_w mm2 f.rows (by omega) (by omega) _ fun v h3 o3 fr3 hid3 => ?_
      rw [hC] at o3
      obtain ⟨va, vc, rfl⟩ := o3.form
      have nx3 := fr3.next
      have lw3 := fr3.low
      have hJ3 := hJ _ A2 (fun id => A2 id ∨ idOf (.slice va C.length vc) id) _ _ hJ2 (fr3.mono fun _ _ q => q.elim) (fun _ q => .inl q) (fun id q => q.imp (fun q => q) (fun q => hid3 id q))
      (repeat' (first | (simp (maxSteps := 1000000) (disch := first | omega | (simp only [AM.DB, List.length_set, List.length_map]; first | done | omega)) only [AM.RB, Nat.reduceAdd, Nat.reduceMul, Nat.reduceEqDiff, reduceCtorEq, b104_PC5]) | refine AM.build_w ?_))
      refine AM.loop_w hp 32 (fun j : Nat => [(0, y), (1, pv w1), (2, pv w2), (4, .int .i64 ((k + 1 : Nat) : Int)), (5, .int .i64 r), (12, .int .i64 n), (13, .int .i64 r), (17, .slice va C.length vc), (18, .int .i64 C.length), (19, .int .i64 j)])
        (fun j h' => j ≤ C.length ∧ h0.next ≤ h'.next ∧ h'.low = h0.low ∧ Ow h' 3 1 (.slice va C.length vc) C.length (C.map (.int .i64)) ∧ ∃ A, (∀ id, A id → h0.next ≤ id ∧ id < h'.next) ∧ (∀ id, idOf (.slice va C.length vc) id → A id) ∧ J ((preK C n k).length + (preR C k r).length + j) A h') (fun j => C.length - j) (by kernel_rfl) 0 ?_ ?_ ?_
      · simp (maxSteps := 1000000) (disch := first | omega | (simp only [AM.DB, List.length_set, List.length_map]; first | done | omega)) only [AM.RB, Nat.reduceAdd, Nat.reduceMul, Nat.reduceEqDiff, reduceCtorEq, b104_PC5]
        first | rfl | skip
      · exact ⟨Nat.zero_le _, by omega, by omega, o3, _, fun id q => by
          rcases q with q | q
          · have := hA2 id q; omega
          · have := hid3 id q; have := o3.lt q; omega, fun id q => .inr q, hJ3⟩
      rintro j h4 ρ ⟨hj, nx4, lw4, o4, A4, hA4, hvA, hJ4⟩
      have r4 := o4.rd
      simp (maxSteps := 1000000) (disch := first | omega | (simp only [AM.DB, List.length_set, List.length_map]; first | done | omega)) only [AM.RB, Nat.reduceAdd, Nat.reduceMul, Nat.reduceEqDiff, reduceCtorEq, b104_PC5]
      refine AM.condV_split (fun hltj => ?_) (fun hltj => ?_)
      · have hjl : j < C.length := by omega
        obtain ⟨c, hc⟩ : ∃ c, C.getD j 0 = c := ⟨_, rfl⟩
        have hat := step_at C n hk3 hrn hjl
        rw [hc] at hat
        (repeat' (first | (simp (maxSteps := 1000000) (disch := first | omega | (simp only [AM.DB, List.length_set, List.length_map]; first | done | omega)) only [AM.RB, Nat.reduceAdd, Nat.reduceMul, Nat.reduceEqDiff, reduceCtorEq, b104_PC5, r4.ia el_22, Rd.ldi r4 lk_3, Int.toNat_natCast, hc]) | refine AM.build_w ?_))
        refine AM.CallW.mono (hy _ [spV (((k + 1 : Nat) : Int), (r : Int), c)] A4 h4 (by rw [List.getElem?_map, hat]; rfl) hJ4 hA4 (by omega) (by omega)) ?_
        rintro v h5 ⟨b, rfl, n5, l5, s5, q5⟩
        have o5 := o4.same (fun id q => s5 id (o4.lt q) (hvA id q)) l5
        cases b with
        | true =>
          (repeat' (first | (simp (maxSteps := 1000000) (disch := first | omega | (simp only [AM.DB, List.length_set, List.length_map]; first | done | omega)) only [AM.RB, Nat.reduceAdd, Nat.reduceMul, Nat.reduceEqDiff, reduceCtorEq, b104_PC5, AM.wrap_i64]) | refine AM.build_w ?_))
          exact ⟨j + 1, by omega, congrArg _ (by omega), by omega, by omega, by omega, o5, A4, fun id q => ⟨(hA4 id q).1, by have := (hA4 id q).2; omega⟩, hvA, by simpa [Nat.add_assoc] using q5⟩
        | false =>
          (repeat' (first | (simp (maxSteps := 1000000) (disch := first | omega | (simp only [AM.DB, List.length_set, List.length_map]; first | done | omega)) only [AM.RB, Nat.reduceAdd, Nat.reduceMul, Nat.reduceEqDiff, reduceCtorEq, b104_PC5]) | refine AM.build_w ?_))
          exact ⟨A4, fun id q => ⟨(hA4 id q).1, by have := (hA4 id q).2; omega⟩, by omega, by omega, .inr (by simpa using q5)⟩
      · have ej : j = C.length := by omega
        have e : (preK C n k).length + (preR C k (r + 1)).length = (preK C n k).length + (preR C k r).length + j := by
          rw [preR, List.length_append]
          unfold preC
          rw [List.length_map]; omega
        (repeat' (first | (simp (maxSteps := 1000000) (disch := first | omega | (simp only [AM.DB, List.length_set, List.length_map]; first | done | omega)) only [AM.RB, Nat.reduceAdd, Nat.reduceMul, Nat.reduceEqDiff, reduceCtorEq, b104_PC5, AM.wrap_i64]) | refine AM.build_w ?_))
        exact ⟨r + 1, by omega, congrArg _ (by omega), by omega, nx4, lw4, A4, hA4, by rw [e]; exact hJ4⟩
    · have er : r = n := by omega
      have e : (preK C n (k + 1)).length = (preK C n k).length + (preR C k r).length := by rw [preK, List.length_append, er]
      (repeat' (first | (simp (maxSteps := 1000000) (disch := first | omega | (simp only [AM.DB, List.length_set, List.length_map]; first | done | omega)) only [AM.RB, Nat.reduceAdd, Nat.reduceMul, Nat.reduceEqDiff, reduceCtorEq, b104_PC5, AM.wrap_i64]) | refine AM.build_w ?_))
      exact ⟨k + 1, by omega, congrArg _ (by omega), by omega, nx2, lw2, A2, hA2, by rw [e]; exact hJ2⟩
  · have ek : k = 3 := by omega
    (repeat' (first | (simp (maxSteps := 1000000) (disch := first | omega | (simp only [AM.DB, List.length_set, List.length_map]; first | done | omega)) only [AM.RB, Nat.reduceAdd, Nat.reduceMul, Nat.reduceEqDiff, reduceCtorEq, b104_PC5]) | refine AM.build_w ?_))
    exact ⟨A1, hA1, nx1, lw1, .inl (by rw [List.length_map, ← ek]; exact hJ1)⟩

end Go.Proofs.YtbaohngkapmhlaaDoor

namespace Go.Proofs.YtbaohngkapmhlaaDoor
open Go.AM
set_option maxRecDepth 8000
theorem b85_PC6 : type_of% (And.intro (@List.map_toArray.{0,0}) (And.intro (@AM.boxK_agg) (And.intro (@AM.boxK_bool) (And.intro (@AM.boxK_func) (And.intro (@AM.boxK_int) (And.intro (@AM.boxK_map) (And.intro (@AM.boxK_pointer) (And.intro (@AM.boxK_slice) (And.intro (@AM.boxK_string) (And.intro (@AM.op_box) (@AM.op_makeFunc))))))))))) := And.intro (@List.map_toArray.{0,0}) (And.intro (@AM.boxK_agg) (And.intro (@AM.boxK_bool) (And.intro (@AM.boxK_func) (And.intro (@AM.boxK_int) (And.intro (@AM.boxK_map) (And.intro (@AM.boxK_pointer) (And.intro (@AM.boxK_slice) (And.intro (@AM.boxK_string) (And.intro (@AM.op_box) (@AM.op_makeFunc))))))))))
theorem b43_PC6 : type_of% (And.intro (@AM.alK_some) (And.intro (@al_65) (And.intro (@al_70) (And.intro (@AM.bin_neq) (And.intro (@AM.boxK_agg) (And.intro (@AM.boxK_bool) (And.intro (@AM.boxK_func) (And.intro (@AM.boxK_int) (And.intro (@AM.boxK_map) (And.intro (@AM.boxK_pointer) (And.intro (@AM.boxK_slice) (And.intro (@AM.boxK_string) (And.intro (AM.bsW_agg bs_70) (And.intro (AM.bsW_nil bs_70) (And.intro (@AM.fa_ptr) (And.intro (@fd_59_0) (And.intro (@AM.ldO_agg) (And.intro (@AM.ldO_one) (And.intro (@AM.ld_ptr) (And.intro (AM.len_slice ul_22) (And.intro (@lk_22) (And.intro (@lk_26) (And.intro (@lk_59) (And.intro (@lk_65) (And.intro (@lk_70) (And.intro (@AM.op_alloc) (And.intro (@AM.op_append) (And.intro (@AM.op_binOp) (And.intro (@AM.op_box) (And.intro (@AM.op_buildSlice) (And.intro (@AM.op_call) (And.intro (@AM.op_fieldAddr) (And.intro (@AM.op_len) (And.intro (@AM.op_load) (And.intro (@AM.op_store) (And.intro (@AM.op_unOp) (And.intro (@AM.stO_agg) (And.intro (@AM.stO_bool) (And.intro (@AM.stO_int) (And.intro (@AM.stO_map) (And.intro (@AM.stO_pointer) (And.intro (@AM.stO_slice) (And.intro (@AM.stO_string) (And.intro (@AM.st_ptr) (And.intro (@sz_65) (And.intro (@sz_70) (And.intro (@AM.un_neg) (@AM.un_not)))))))))))))))))))))))))))))))))))))))))))))))) := And.intro (@AM.alK_some) (And.intro (@al_65) (And.intro (@al_70) (And.intro (@AM.bin_neq) (And.intro (@AM.boxK_agg) (And.intro (@AM.boxK_bool) (And.intro (@AM.boxK_func) (And.intro (@AM.boxK_int) (And.intro (@AM.boxK_map) (And.intro (@AM.boxK_pointer) (And.intro (@AM.boxK_slice) (And.intro (@AM.boxK_string) (And.intro (AM.bsW_agg bs_70) (And.intro (AM.bsW_nil bs_70) (And.intro (@AM.fa_ptr) (And.intro (@fd_59_0) (And.intro (@AM.ldO_agg) (And.intro (@AM.ldO_one) (And.intro (@AM.ld_ptr) (And.intro (AM.len_slice ul_22) (And.intro (@lk_22) (And.intro (@lk_26) (And.intro (@lk_59) (And.intro (@lk_65) (And.intro (@lk_70) (And.intro (@AM.op_alloc) (And.intro (@AM.op_append) (And.intro (@AM.op_binOp) (And.intro (@AM.op_box) (And.intro (@AM.op_buildSlice) (And.intro (@AM.op_call) (And.intro (@AM.op_fieldAddr) (And.intro (@AM.op_len) (And.intro (@AM.op_load) (And.intro (@AM.op_store) (And.intro (@AM.op_unOp) (And.intro (@AM.stO_agg) (And.intro (@AM.stO_bool) (And.intro (@AM.stO_int) (And.intro (@AM.stO_map) (And.intro (@AM.stO_pointer) (And.intro (@AM.stO_slice) (And.intro (@AM.stO_string) (And.intro (@AM.st_ptr) (And.intro (@sz_65) (And.intro (@sz_70) (And.intro (@AM.un_neg) (@AM.un_not)))))))))))))))))))))))))))))))))))))))))))))))


abbrev encS (x : Sp) : List Value := [.int .i64 x.1, .int .i64 x.2.1, .int .i64 x.2.2]
theorem encS_len (x : Sp) : (encS x).length = 3 := rfl
theorem preR_steps (L : List (List UInt8)) (s : St) (k : Nat) : ∀ n, (preR (allP L.flatten L.flatten.length) k n).filter (may L s) = (List.range n).flatMap (stepsR L s ((k + 1 : Nat) : Int))
  | 0 => rfl
  | n + 1 => by
    rw [preR, List.filter_append, preR_steps L s k n, List.range_succ, List.flatMap_append]
    simp only [List.flatMap_cons, List.flatMap_nil, List.append_nil]; rfl
theorem preK_steps (L : List (List UInt8)) (s : St) : (preK (allP L.flatten L.flatten.length) s.1.length 3).filter (may L s) = stepsL L s := by
  rw [preK, preK, preK, preK, List.nil_append, List.filter_append, List.filter_append, preR_steps, preR_steps, preR_steps]; rfl
theorem take_filter {p : Sp → Bool} {l : List Sp} {i : Nat} {x : Sp} (h : l[i]? = some x) : (l.take (i + 1)).filter p = (l.take i).filter p ++ if p x = true then [x] else [] := by
  rw [List.take_add_one, h, List.filter_append]
  congr 1
  show ([x].filter p) = _
  rw [filter_one]
theorem preR_len (C : List Int) (k : Nat) : ∀ n, (preR C k n).length = n * C.length
  | 0 => by rw [Nat.zero_mul]; rfl
  | n + 1 => by rw [preR, List.length_append, preR_len C k n, Nat.succ_mul]; unfold preC; rw [List.length_map]
theorem preK_len (C : List Int) (n : Nat) : ∀ k, (preK C n k).length = k * (n * C.length)
  | 0 => by rw [Nat.zero_mul]; rfl
  | k + 1 => by rw [preK, List.length_append, preK_len C n k, preR_len, Nat.succ_mul]
theorem pall_w {p : Nat} {n : Int} {h : AHeap} {Q : VQ}
    (hq : ∀ w1 w2 h', h'.get w1 = some (.cells [.int .i64 n] 3 false) → h'.get w2 = some (.cells [pv p] 26 false) → Fr none' h h' → h.next ≤ w1 → h.next ≤ w2 → Q (.func (.func 104) #[] #[pv w1, pv w2]) h') : W 85 [pv p, .int .i64 n] h Q := by
  refine AM.enter hp (fn := Tryd.f85) (rs := [.tmp 4]) (nt := 6) (by kernel_rfl) Tryd.func85 rfl rfl rfl (by kernel_rfl) ?_
  simp (maxSteps := 1000000) (disch := first | omega | (simp only [AM.DB, List.length_set, List.length_map]; first | done | omega)) only [AM.RB, Nat.reduceAdd, Nat.reduceMul, Nat.reduceEqDiff, reduceCtorEq, b85_PC6]
  generalize hE_ : AHeap.alloc h _ = h1; obtain ⟨g1, fr1, n1, l1⟩ := AM.new_get hE_; clear hE_
  generalize hE_ : AHeap.alloc h1 _ = h2; obtain ⟨g2, fr2, n2, l2⟩ := AM.new_get hE_; clear hE_
  rw [n1] at g2
  (first | (simp (maxSteps := 1000000) (disch := first | omega | (simp only [AM.DB, List.length_set, List.length_map]; first | done | omega)) only [AM.RB, Nat.reduceAdd, Nat.reduceMul, Nat.reduceEqDiff, reduceCtorEq, b85_PC6]) | skip)
  all_goals exact hq _ _ _ g2 (g1.fr0 fr2) (fr1.trans fr2) (by omega) (by omega)

/-- What stands behind each round: the map, the steps so far. 'N': the objects that were there ahead of the range. -/
def stK (h : AHeap) (N p t2 t3 b w1 w2 : Nat) (L : List (List UInt8)) (B : Nat → Prop) (v1 v2 : Value) (s : St) (l : List Sp) (S : Nat → Prop) (h' : AHeap) : Prop :=
  ∃ Sm sl, Mt h' p L Sm ∧ (∀ id, Sm id → id < N ∨ S id) ∧ (∀ id, B id ∨ id = t2 ∨ id = t3 ∨ id = b ∨ id = w1 ∨ id = w2 ∨ idOf sl id → ¬ Sm id) ∧
    h'.get t2 = some (.cells [pv p] 26 false) ∧ h'.get t3 = some (.cells [v1, v2] 59 false) ∧ StR h' (.agg #[v1, v2]) s ∧
    h'.get w1 = some (.cells [.int .i64 (s.1.length : Int)] 3 false) ∧ h'.get w2 = some (.cells [pv p] 26 false) ∧
    h'.get b = some (.cells [sl] 70 false) ∧ Ow h' 65 3 sl l.length (l.flatMap encS) ∧ (∀ id, idOf sl id → S id ∧ N ≤ id) ∧ h'.get GW = some (.cells waysC 166 false) ∧ Fr (fun id => id = p) h h'
theorem frExtP {h h1 h2 : AHeap} {N : Nat} {T : Nat → Prop} (fr : Fr T h h1) (hB : ∀ id, id < N → h2.get id = h1.get id) (hb : h.next ≤ N) (hn : h1.next ≤ h2.next) (hl : h2.low = h1.low) : Fr T h h2 :=
  ⟨Nat.le_trans fr.next hn, hl.trans fr.low, fun id q1 q2 => by rw [hB id (by omega)]; exact fr.old id q1 q2⟩
theorem stK.keep {h : AHeap} {N p t2 t3 b w1 w2 : Nat} {L : List (List UInt8)} {B : Nat → Prop} {v1 v2 : Value} {s : St} {l : List Sp} {S : Nat → Prop} {h1 h2 : AHeap} (hN : h.next ≤ N) (ho : (t2 < N ∧ t3 < N ∧ b < N) ∧ w1 < N ∧ w2 < N ∧ GW < N) (hv : ∀ id, idOf v1 id ∨ idOf v2 id → id < N)
    (k : stK h N p t2 t3 b w1 w2 L B v1 v2 s l S h1) (hS : ∀ id, S id → h2.get id = h1.get id) (hB : ∀ id, id < N → h2.get id = h1.get id) (hn : h1.next ≤ h2.next) (hl : h2.low = h1.low) : stK h N p t2 t3 b w1 w2 L B v1 v2 s l S h2 := by
  obtain ⟨Sm, sl, m, hm, hd, g2, g3, ⟨a, c, e, ra, rc⟩, gw1, gw2, gb, o, hsl, gg, fr⟩ := k
  cases e
  refine ⟨Sm, sl, m.keep (fun id q => ?_) hn hl, hm, hd, by rw [hB _ ho.1.1]; exact g2, by rw [hB _ ho.1.2.1]; exact g3, ⟨_, _, rfl, ra.same (fun id q => hB id (hv id (.inl q))), rc.same (fun id q => hB id (hv id (.inr q)))⟩,
    by rw [hB _ ho.2.1]; exact gw1, by rw [hB _ ho.2.2.1]; exact gw2, by rw [hB _ ho.1.2.2]; exact gb, o.same (fun id q => hS id (hsl id q).1) hl, hsl, by rw [hB _ ho.2.2.2]; exact gg, frExtP fr hB hN hn hl⟩
  rcases hm id q with q | q
  · exact hB id q
  · exact hS id q

set_option maxHeartbeats 8000000 in
theorem steps_w {h : AHeap} {p : Nat} {L : List (List UInt8)} {B : Nat → Prop} {v : Value} {s : St} (m : Mk h p L B) (f : Fit L) (hw : h.get GW = some (.cells waysC 166 false)) (hgl : GW < h.low) (hl : h.low ≤ h.next) (hs : StR h v s) (hvB : ∀ a b, v = .agg #[a, b] → ∀ id, idOf a id ∨ idOf b id → B id) {Q : VQ}
    (hq : ∀ v' h', Ow h' 65 3 v' (if chk L.flatten s = true then stepsL L s else []).length ((if chk L.flatten s = true then stepsL L s else []).flatMap encS) → Mk h' p L B → Fr (fun id => id = p) h h' → (∀ id, idOf v' id → h.next ≤ id) → Q v' h') : W 43 [pv p, v] h Q := by
  obtain ⟨v1, v2, rfl, ra, rb⟩ := id hs
  have hvB := hvB v1 v2 rfl
  obtain ⟨aa, ac, rfl⟩ := ra.form
  obtain ⟨ba, bc, rfl⟩ := rb.form
  have hBlt := m.2
  have ltp := m.lt
  refine AM.enter hp (fn := Tryd.f43) (rs := [.tmp 4]) (nt := 27) (by kernel_rfl) Tryd.func43 rfl rfl rfl (by kernel_rfl) ?_
  simp (maxSteps := 1000000) (disch := first | omega | (simp only [AM.DB, List.length_set, List.length_map]; first | done | omega)) only [AM.RB, Nat.reduceAdd, Nat.reduceMul, Nat.reduceEqDiff, reduceCtorEq, b43_PC6]
  generalize hE_ : AHeap.alloc h _ = h1; obtain ⟨g1, fr1, n1, l1⟩ := AM.new_get hE_; clear hE_
  generalize hE_ : AHeap.alloc h1 _ = h2; obtain ⟨g2, fr2, n2, l2⟩ := AM.new_get hE_; clear hE_
  rw [n1] at g2
  have g12 := g1.fr0 fr2
  have fr02 := fr1.trans fr2
  have m2 := m.fr0 fr02
  have hs2 := hs.fr0 fr02
  obtain ⟨kv2, tl2, mm2⟩ := m2.mp
  (first | (simp (maxSteps := 1000000) (disch := first | omega | (simp only [AM.DB, List.length_set, List.length_map]; first | done | omega)) only [AM.RB, Nat.reduceAdd, Nat.reduceMul, Nat.reduceEqDiff, reduceCtorEq, b43_PC6, g12, g2]) | skip)
  refine check_w mm2 f hs2 (by omega) fun h3 fr3 => ?_
  cases hc : chk L.flatten s
  · rw [hc] at hq
    have d250 : decide ((250 : Int) = 0) = false := rfl
    (first | (simp (maxSteps := 1000000) (disch := first | omega | (simp only [AM.DB, List.length_set, List.length_map]; first | done | omega)) only [AM.RB, Nat.reduceAdd, Nat.reduceMul, Nat.reduceEqDiff, reduceCtorEq, b43_PC6, d250]) | skip)
    exact hq _ _ (Ow.nil _ _ _) (m2.fr0 fr3) ((fr02.trans fr3).mono fun _ _ q => q.elim) (fun _ q => q.elim)
  rw [hc] at hq
  simp only [if_true] at hq ⊢
  (first | (simp (maxSteps := 1000000) (disch := first | omega | (simp only [AM.DB, List.length_set, List.length_map]; first | done | omega)) only [AM.RB, Nat.reduceAdd, Nat.reduceMul, Nat.reduceEqDiff, reduceCtorEq, b43_PC6]) | skip)
  have g13 := g12.fr0 fr3
  have g23 := g2.fr0 fr3
  generalize hE_ : AHeap.alloc h3 _ = h4; obtain ⟨g4, fr4, n4, l4⟩ := AM.new_get hE_; clear hE_
  have g14 := g13.fr0 fr4
  have g24 := g23.fr0 fr4
  (first | (simp (maxSteps := 1000000) (disch := first | omega | (simp only [AM.DB, List.length_set, List.length_map]; first | done | omega)) only [AM.RB, Nat.reduceAdd, Nat.reduceMul, Nat.reduceEqDiff, reduceCtorEq, b43_PC6, g14, g24]) | skip)
  refine pall_w fun w1 w2 h5 gw1 gw2 fr5 hw1 hw2 => ?_
  have g15 := g14.fr0 fr5
  have g25 := g24.fr0 fr5
  have g45 := g4.fr0 fr5
  have fr05 := ((fr02.trans fr3).trans fr4).trans fr5
  obtain ⟨⟨S0, m0, hB0⟩, hb0⟩ := id m
  have m5 := m0.fr0 fr05
  have hs5 := hs.fr0 fr05
  have hw5 := hw.fr0 fr05
  have nx5 := fr5.next
  have nx05 := fr05.next
  have lw5 := fr05.low
  have nx3 := fr3.next
  have ltw1 := AM.get_some_lt gw1
  have ltw2 := AM.get_some_lt gw2
  have ltb := AM.get_some_lt g45
  have hl5 : h5.low ≤ h5.next := by omega
  have h64 : s.1.length ≤ 64 := ((chk_iff _ _).1 hc).l64
  have hsn : s.2.length = L.flatten.length := ((chk_iff _ _).1 hc).ln
  have hvlt : ∀ id, idOf (.slice aa s.1.length ac) id ∨ idOf (.slice ba s.2.length bc) id → id < h5.next := fun id q => by have := hBlt id (hvB id q); omega
  simp (maxSteps := 1000000) (disch := first | omega | (simp only [AM.DB, List.length_set, List.length_map]; first | done | omega)) only [AM.RB, Nat.reduceAdd, Nat.reduceMul, Nat.reduceEqDiff, reduceCtorEq, b43_PC6]
  generalize hX : preK (allP L.flatten L.flatten.length) s.1.length 3 = X at *
  have hit := all1_w (w1 := w1) (w2 := w2) (p := p) (n := s.1.length) f (by omega) (h := h5)
  rw [hX] at hit
  have stab : ∀ l, ∀ S a b, h5.next ≤ a.next → stK h h5.next p h.next (h.next + 1) h3.next w1 w2 L B (.slice aa s.1.length ac) (.slice ba s.2.length bc) s l S a → (∀ id, S id → b.get id = a.get id) → (∀ id, id < h5.next → b.get id = a.get id) → a.next ≤ b.next → b.low = a.low → stK h h5.next p h.next (h.next + 1) h3.next w1 w2 L B (.slice aa s.1.length ac) (.slice ba s.2.length bc) s l S b :=
    fun l S a b _ k hS hB hn hl => k.keep (by omega) ⟨⟨by omega, by omega, by omega⟩, by omega, by omega, by omega⟩ hvlt hS hB hn hl
  refine AM.range_iterI hp (I := allI w1 w2 p s.1.length L) (xs := X.map fun x => [spV x]) (AM.entersV_of Tryd.func104 rfl) (by kernel_rfl) (by kernel_rfl) ?_ hl5 hit
    (fun i => AM.JK h5.next (stK h h5.next p h.next (h.next + 1) h3.next w1 w2 L B (.slice aa s.1.length ac) (.slice ba s.2.length bc) s ((X.take i).filter (may L s)))) (fun _ _ _ => False) ?_ ?_ (fun _ => AM.Stab.no)
    (fun i x e A h' => ∃ bx, AM.Sh e 27 [(2, pv h.next), (3, pv (h.next + 1)), (5, pv h3.next), (6, pv bx)] ∧ AM.JK h5.next (fun S h' => stK h h5.next p h.next (h.next + 1) h3.next w1 w2 L B (.slice aa s.1.length ac) (.slice ba s.2.length bc) s ((X.take i).filter (may L s)) S h' ∧ (S bx ∧ h5.next ≤ bx) ∧ (∀ c, x = [.agg c] → h'.get bx = some (.cells c.toList 65 false))) A h') ?_ ?_ ?_ ?_ ?_ ?_
  · intro x hx; obtain ⟨q, _, rfl⟩ := List.mem_map.1 hx; rfl
  · exact fun i => AM.JK.stab (stab _)
  · rintro i A h6 ⟨hB6, hA6, S, ⟨Sm, sl, k⟩, hS6⟩ hlw6
    obtain ⟨mt, _, _, _, _, _, kw1, kw2, _⟩ := k
    exact ⟨kw1, kw2, mt.mp⟩
  · exact fun i x e => AM.Stab.ex fun bx => AM.Stab.and (AM.JK.stab fun S a b hB ⟨hk, sb, hg⟩ hS hBl hn' hl' => ⟨stab _ S a b hB hk hS hBl hn' hl', sb, fun c hx => by rw [hS bx sb.1]; exact hg c hx⟩)
  · rintro i x A h6 hx ⟨hB6, hA6, S, ⟨Sm, sl, mt, hm, hd, k2, k3, ks, kw1, kw2, kb, o, hsl, kg, fr⟩, hS6⟩ hA1 hL3 hlow3
    rw [List.getElem?_map] at hx
    obtain ⟨q, hq', rfl⟩ := Option.map_eq_some_iff.1 hx
    (first | (simp (maxSteps := 1000000) (disch := first | omega | (simp only [AM.DB, List.length_set, List.length_map]; first | done | omega)) only [AM.RB, Nat.reduceAdd, Nat.reduceMul, Nat.reduceEqDiff, reduceCtorEq, b43_PC6]) | skip)
    generalize hE_ : AHeap.put (AHeap.alloc h6 _) _ _ = h7; obtain ⟨g7, fr7, n7, l7⟩ := AM.box_get hE_ (by omega); clear hE_
    refine ⟨by omega, fun id q1 _ => fr7.old id q1 (fun q => q), h6.next, rfl, by omega, hA6, fun id => S id ∨ id = h6.next, ⟨⟨Sm, sl, mt.fr0 fr7, fun id q => (hm id q).imp (fun q => q) .inl, hd, k2.fr0 fr7, k3.fr0 fr7, ks.fr0 fr7, kw1.fr0 fr7, kw2.fr0 fr7, kb.fr0 fr7, o.fr0 fr7, fun id q => ⟨.inl (hsl id q).1, (hsl id q).2⟩, kg.fr0 fr7, fr.trans (fr7.mono fun _ _ q => q.elim)⟩, ⟨.inr rfl, hB6⟩, ?_⟩, ?_⟩
    · rintro c hcx
      cases hcx; exact g7
    · rintro id (q | rfl)
      · exact ⟨by have := (hS6 id q).1; omega, (hS6 id q).2⟩
      · exact ⟨by omega, fun q => by have := (hA1 _ q).2; omega⟩
  · intro o
    have fra : Fr none' h5 (h5.alloc o) := (Fr.refl _ _).alloc _
    rw [List.take_zero, List.filter_nil]
    refine ⟨Nat.le_succ _, fun id e => by omega, fun _ => False, ⟨S0, .slice none 0 0, m5.fr0 fra, fun id q => .inl (m5.lt q), fun id q s => ?_, g15.fr0 fra, g25.fr0 fra, hs5.fr0 fra, gw1.fr0 fra, gw2.fr0 fra, g45.fr0 fra, Ow.nil _ _ _, fun _ q => q.elim, hw5.fr0 fra, (fr05.trans fra).mono fun _ _ q => q.elim⟩, fun _ q => q.elim⟩
    have := m0.lt s
    rcases q with q | q | q | q | q | q | q
    · exact hB0 id q s
    · omega
    · omega
    · omega
    · omega
    · omega
    · exact q.elim
  · rintro i x e A h6 hx ⟨bx, he, hB6, hA6, S, ⟨⟨Sm, sl, mt, hm, hd, k2, k3, ks, kw1, kw2, kb, o, hsl, kg, fr⟩, ⟨sbx, hbx5⟩, hbx⟩, hS6⟩ hA1 hL3 hlow3
    obtain ⟨ρ, rfl⟩ := he.open'
    rw [List.getElem?_map] at hx
    obtain ⟨q, hq', rfl⟩ := Option.map_eq_some_iff.1 hx
    have gbx := hbx _ rfl
    obtain ⟨sla, slc, rfl⟩ := o.form
    have mk : Mk h6 p L (fun id => id < h6.next ∧ ¬ Sm id) := ⟨⟨Sm, mt, fun id q => q.2⟩, fun id q => q.1⟩
    have htf := take_filter (p := may L s) hq'
    (first | (simp (maxSteps := 1000000) (disch := first | omega | (simp only [AM.DB, List.length_set, List.length_map]; first | done | omega)) only [AM.RB, Nat.reduceAdd, Nat.reduceMul, Nat.reduceEqDiff, reduceCtorEq, b43_PC6, k2, k3, gbx]) | skip)
    refine pmay_w mk f kg (by omega) (by omega) ks hsn q fun h7 mk7 fr7 => ?_
    obtain ⟨⟨Sm7, mt7, hd7⟩, _⟩ := mk7
    have nx7 := fr7.next
    have lw7 := fr7.low
    obtain ⟨_, _, mm6⟩ := mt.mp
    have hpl : h6.low ≤ p := mm6.2.2.2.1
    have hsub : ∀ id, Sm7 id → Sm id ∨ (h6.next ≤ id ∧ id < h7.next) := fun id s7 => by
      by_cases hlt : id < h6.next
      · by_cases hs' : Sm id
        · exact .inl hs'
        · exact absurd s7 (hd7 id ⟨hlt, hs'⟩)
      · exact .inr ⟨by omega, mt7.lt s7⟩
    have np : ∀ id, ¬ Sm id → id ≠ p := fun id q e => q (by rw [e]; exact mt.self)
    have D2 := hd h.next (.inr (.inl rfl))
    have D3 := hd (h.next + 1) (.inr (.inr (.inl rfl)))
    have Db := hd h3.next (.inr (.inr (.inr (.inl rfl))))
    have Dw1 := hd w1 (.inr (.inr (.inr (.inr (.inl rfl)))))
    have Dw2 := hd w2 (.inr (.inr (.inr (.inr (.inr (.inl rfl))))))
    have Dsl : ∀ id, idOf (.slice sla _ slc) id → ¬ Sm id := fun id q => hd id (.inr (.inr (.inr (.inr (.inr (.inr q))))))
    have slt : ∀ id, idOf (.slice sla _ slc) id → id < h6.next := fun id q => o.lt q
    have k27 := fr7.get k2 (np _ D2)
    have k37 := fr7.get k3 (np _ D3)
    have kw17 := fr7.get kw1 (np _ Dw1)
    have kw27 := fr7.get kw2 (np _ Dw2)
    have kb7 := fr7.get kb (np _ Db)
    have ks7 := ks.frp (T := fun id => id = p) (fun a c e => by
      cases e
      exact ⟨fun id q => np id (hd id (.inl (hvB id (.inl q)))), fun id q => np id (hd id (.inl (hvB id (.inr q))))⟩) fr7
    have o7 := o.fr fr7 (fun id q => np id (Dsl id q))
    have kg7 := fr7.get kg (show ¬ GW = p by omega)
    have gbx7 := fr7.get gbx (show ¬ bx = p by omega)
    have frh7 := fr.trans fr7
    have hnA : ∀ id, A id → ¬ id = p := fun id q e => by have := hA6 id q; omega
    have hdis7 : ∀ id, B id ∨ id = h.next ∨ id = h.next + 1 ∨ id = h3.next ∨ id = w1 ∨ id = w2 → ¬ Sm7 id := fun id q s7 => by
      rcases hsub id s7 with s' | s'
      · exact hd id (by
          rcases q with q | q | q | q | q | q
          · exact .inl q
          · exact .inr (.inl q)
          · exact .inr (.inr (.inl q))
          · exact .inr (.inr (.inr (.inl q)))
          · exact .inr (.inr (.inr (.inr (.inl q))))
          · exact .inr (.inr (.inr (.inr (.inr (.inl q)))))) s'
      · rcases q with q | q | q | q | q | q
        · have := hBlt id q; omega
        all_goals omega
    cases hmy : may L s q
    · rw [hmy] at htf
      simp only [Bool.false_eq_true, if_false, List.append_nil] at htf
      (first | (simp (maxSteps := 1000000) (disch := first | omega | (simp only [AM.DB, List.length_set, List.length_map]; first | done | omega)) only [AM.RB, Nat.reduceAdd, Nat.reduceMul, Nat.reduceEqDiff, reduceCtorEq, b43_PC6]) | skip)
      rw [htf]
      refine ⟨by omega, by omega, fun id q1 q2 => fr7.old id q1 (hnA id q2), by omega, hA6, fun id => S id ∨ (h6.next ≤ id ∧ id < h7.next), ⟨Sm7, _, mt7, fun id s7 => ?_, fun id q s7 => ?_, k27, k37, ks7, kw17, kw27, kb7, o7, fun id q => ⟨.inl (hsl id q).1, (hsl id q).2⟩, kg7, frh7⟩, fun id q => ?_⟩
      · rcases hsub id s7 with s' | s'
        · exact (hm id s').imp (fun q => q) .inl
        · exact .inr (.inr s')
      · rcases q with q | q | q | q | q | q | q
        · exact hdis7 id (.inl q) s7
        · exact hdis7 id (.inr (.inl q)) s7
        · exact hdis7 id (.inr (.inr (.inl q))) s7
        · exact hdis7 id (.inr (.inr (.inr (.inl q)))) s7
        · exact hdis7 id (.inr (.inr (.inr (.inr (.inl q))))) s7
        · exact hdis7 id (.inr (.inr (.inr (.inr (.inr q))))) s7
        · rcases hsub id s7 with s' | s'
          · exact Dsl id q s'
          · have := slt id q; omega
      · rcases q with q | q
        · exact ⟨by have := (hS6 id q).1; omega, (hS6 id q).2⟩
        · exact ⟨q.2, fun qa => by have := (hA1 id qa).2; omega⟩
    · rw [hmy] at htf
      simp only [if_true] at htf
      have hXl : X.length ≤ 3 * (64 * 1024) := by
        rw [← hX, preK_len]
        exact Nat.mul_le_mul_left _ (Nat.mul_le_mul h64 (Nat.le_trans (allP_len _ _) f.k1024))
      have hll : ((X.take i).filter (may L s)).length ≤ 196608 := Nat.le_trans (List.length_filter_le _ _) (Nat.le_trans (List.length_take_le' _ _) hXl)
      generalize (X.take i).filter (may L s) = l at *
      (first | (simp (maxSteps := 1000000) (disch := first | omega | (simp only [AM.DB, List.length_set, List.length_map]; first | done | omega)) only [AM.RB, Nat.reduceAdd, Nat.reduceMul, Nat.reduceEqDiff, reduceCtorEq, b43_PC6, kb7, gbx7]) | skip)
      generalize hE_ : AHeap.alloc h7 _ = h8; obtain ⟨g8, fr8, n8, l8⟩ := AM.new_get hE_; clear hE_
      have nx8 := fr8.next
      have lw8 := fr8.low
      refine AM.appends_w ap_70 ap_70 (o7.fr0 fr8) (AM.Rd.whole (n := 1) (c := encS q) g8 rfl) rfl (by omega) (AM.fits (by omega) (by omega)) (AM.fits' (by omega)) fun v' h9 o9 fr9 hid9 => ?_
      have nx9 := fr9.next
      have lw9 := fr9.low
      have nsl : ∀ id, id < h5.next → ¬ idOf (.slice sla l.length slc) id := fun id q1 q2 => by have := (hsl id q2).2; omega
      have ns7 : ∀ id, Sm7 id → ¬ idOf (.slice sla l.length slc) id := fun id s7 q => by
        rcases hsub id s7 with s' | s'
        · exact Dsl id q s'
        · have := slt id q; omega
      have mt9 := (mt7.fr0 fr8).fr fr9 ns7
      have ks9 := (ks7.fr0 fr8).frp (T := idOf (.slice sla l.length slc)) (fun a c e => by
        cases e
        exact ⟨fun id q => nsl id (hvlt id (.inl q)), fun id q => nsl id (hvlt id (.inr q))⟩) fr9
      have k29 := fr9.get (k27.fr0 fr8) (nsl _ (by omega))
      have k39 := fr9.get (k37.fr0 fr8) (nsl _ (by omega))
      have kw19 := fr9.get (kw17.fr0 fr8) (nsl _ (by omega))
      have kw29 := fr9.get (kw27.fr0 fr8) (nsl _ (by omega))
      have kb9 := fr9.get (kb7.fr0 fr8) (nsl _ (by omega))
      have kg9 := fr9.get (kg7.fr0 fr8) (nsl _ (by omega))
      have ltb9 := AM.get_some_lt kb9
      obtain ⟨va', vc', rfl⟩ := o9.form
      (first | (simp (maxSteps := 1000000) (disch := first | omega | (simp only [AM.DB, List.length_set, List.length_map]; first | done | omega)) only [AM.RB, Nat.reduceAdd, Nat.reduceMul, Nat.reduceEqDiff, reduceCtorEq, b43_PC6, kb9]) | skip)
      generalize hE_ : AHeap.put h9 _ _ = h10; obtain ⟨g10, fr10, n10, l10⟩ := AM.put_get hE_ ltb9; clear hE_
      have e10 : ∀ id, id ≠ h3.next → ¬ id = h3.next := fun _ q => q
      have o10 := o9.fr fr10 (fun id q e => by
        have e : id = h3.next := e
        rcases hid9 id q with q | q
        · have := (hsl id q).2; omega
        · omega)
      have ks10 := ks9.frp (T := fun id => id = h3.next) (fun a c e => by
        cases e
        exact ⟨fun id q e => by have e : id = h3.next := e; have := hBlt id (hvB id (.inl q)); omega, fun id q e => by have e : id = h3.next := e; have := hBlt id (hvB id (.inr q)); omega⟩) fr10
      have frh10 := ((frh7.trans (fr8.mono fun _ _ q => q.elim)).then fr9 (fun id q1 q2 => by have := (hsl id q2).2; omega)).then fr10 (fun id q1 q2 => by have q2 : id = h3.next := q2; omega)
      rw [htf]
      refine ⟨by omega, by omega, fun id q1 q2 => ?_, by omega, hA6, fun id => S id ∨ (h6.next ≤ id ∧ id < h10.next), ⟨Sm7, _, mt9.fr fr10 (fun id s7 e => hdis7 id (.inr (.inr (.inr (.inl e)))) s7), fun id s7 => ?_, fun id q s7 => ?_, fr10.get k29 (by omega), fr10.get k39 (by omega), ks10, fr10.get kw19 (by omega), fr10.get kw29 (by omega), g10, ?_, fun id q => ?_, fr10.get kg9 (by omega), frh10⟩, fun id q => ?_⟩
      · rw [fr10.old id (by omega) (fun e => by have e : id = h3.next := e; have := hA6 id q2; omega), fr9.old id (by omega) (fun e => (hS6 id (hsl id e).1).2 q2), fr8.old id (by omega) (fun e => e), fr7.old id q1 (hnA id q2)]
      · rcases hsub id s7 with s' | s'
        · exact (hm id s').imp (fun q => q) .inl
        · exact .inr (.inr ⟨s'.1, by omega⟩)
      · rcases q with q | q | q | q | q | q | q
        · exact hdis7 id (.inl q) s7
        · exact hdis7 id (.inr (.inl q)) s7
        · exact hdis7 id (.inr (.inr (.inl q))) s7
        · exact hdis7 id (.inr (.inr (.inr (.inl q)))) s7
        · exact hdis7 id (.inr (.inr (.inr (.inr (.inl q))))) s7
        · exact hdis7 id (.inr (.inr (.inr (.inr (.inr q))))) s7
        · rcases hid9 id q with q | q
          · exact ns7 id s7 q
          · have := mt7.lt s7; omega
      · rw [List.length_append, List.flatMap_append]
        simpa using o10
      · rcases hid9 id q with q' | q'
        · exact ⟨.inl (hsl id q').1, (hsl id q').2⟩
        · have := o10.lt q
          exact ⟨.inr ⟨by omega, this⟩, by omega⟩
      · rcases q with q | q
        · exact ⟨by have := (hS6 id q).1; omega, (hS6 id q).2⟩
        · exact ⟨q.2, fun qa => by have := (hA1 id qa).2; omega⟩
  · rintro A h6 ⟨hB6, hA6, S, ⟨Sm, sl, mt, hm, hd, k2, k3, ks, kw1, kw2, kb, o, hsl, kg, fr⟩, hS6⟩ hA1 hn6 hl6
    rw [List.length_map, List.take_length, ← hX, preK_steps] at o
    obtain ⟨sla, slc, rfl⟩ := o.form
    (first | (simp (maxSteps := 1000000) (disch := first | omega | (simp only [AM.DB, List.length_set, List.length_map]; first | done | omega)) only [AM.RB, Nat.reduceAdd, Nat.reduceMul, Nat.reduceEqDiff, reduceCtorEq, b43_PC6, kb]) | skip)
    exact hq _ _ o ⟨⟨Sm, mt, fun id q => hd id (.inl q)⟩, fun id q => by have := hBlt id q; omega⟩ fr (fun id q => by have := (hsl id q).2; omega)
  · exact fun _ _ _ q => q.elim

end Go.Proofs.YtbaohngkapmhlaaDoor
