/- Walks of this claim's functions, and plain laws. -/
import Derived.Test.YtodcnfabnlojdaaWa
set_option linter.unusedSimpArgs false
set_option linter.unusedVariables false
namespace Go.Proofs.Ytodcnfabnlojdaa
open Go.AM
set_option maxRecDepth 8000
theorem b71_Y1 : type_of% (And.intro (@AM.bin_neq) (@AM.op_binOp)) := And.intro (@AM.bin_neq) (@AM.op_binOp)
theorem b72_Y1 : type_of% (And.intro (@AM.bin_neq) (@AM.op_binOp)) := And.intro (@AM.bin_neq) (@AM.op_binOp)
theorem b56_Y1 : type_of% (And.intro (@AM.bin_gtr) (And.intro (@AM.bin_lss) (And.intro (@AM.op_binOp) (@AM.op_call)))) := And.intro (@AM.bin_gtr) (And.intro (@AM.bin_lss) (And.intro (@AM.op_binOp) (@AM.op_call)))
theorem b57_Y1 : type_of% (And.intro (@AM.bin_gtr) (And.intro (@AM.bin_lss) (And.intro (@AM.op_binOp) (@AM.op_call)))) := And.intro (@AM.bin_gtr) (And.intro (@AM.bin_lss) (And.intro (@AM.op_binOp) (@AM.op_call)))
theorem b20_Y1 : type_of% (And.intro (@AM.aMax_int) (And.intro (@AM.aMin_int) (And.intro (@AM.bin_shl) (And.intro (@AM.op_binOp) (And.intro (@AM.op_max2) (@AM.op_min2)))))) := And.intro (@AM.aMax_int) (And.intro (@AM.aMin_int) (And.intro (@AM.bin_shl) (And.intro (@AM.op_binOp) (And.intro (@AM.op_max2) (@AM.op_min2)))))
theorem b21_Y1 : type_of% (And.intro (@AM.bin_add) (And.intro (@AM.bin_rem) (And.intro (@AM.op_binOp) (@AM.op_call)))) := And.intro (@AM.bin_add) (And.intro (@AM.bin_rem) (And.intro (@AM.op_binOp) (@AM.op_call)))
theorem b55_Y1 : type_of% (And.intro (@AM.bin_add) (And.intro (@AM.bin_lss) (And.intro (@AM.bin_neq) (And.intro (@AM.iaO_ok) (And.intro (AM.ia_slice el_22) (And.intro (@AM.ldO_agg) (And.intro (@AM.ldO_one) (And.intro (@AM.ld_ptr) (And.intro (AM.len_slice ul_22) (And.intro (@lk_3) (And.intro (@AM.op_binOp) (And.intro (@AM.op_indexAddr) (And.intro (@AM.op_len) (@AM.op_load)))))))))))))) := And.intro (@AM.bin_add) (And.intro (@AM.bin_lss) (And.intro (@AM.bin_neq) (And.intro (@AM.iaO_ok) (And.intro (AM.ia_slice el_22) (And.intro (@AM.ldO_agg) (And.intro (@AM.ldO_one) (And.intro (@AM.ld_ptr) (And.intro (AM.len_slice ul_22) (And.intro (@lk_3) (And.intro (@AM.op_binOp) (And.intro (@AM.op_indexAddr) (And.intro (@AM.op_len) (@AM.op_load)))))))))))))
theorem b54_Y1 : type_of% (And.intro (@AM.boxK_agg) (And.intro (@AM.boxK_bool) (And.intro (@AM.boxK_func) (And.intro (@AM.boxK_int) (And.intro (@AM.boxK_map) (And.intro (@AM.boxK_pointer) (And.intro (@AM.boxK_slice) (And.intro (@AM.boxK_string) (And.intro (AM.bsW_int bs_22) (And.intro (AM.bsW_int3 bs_22) (And.intro (AM.bsW_nil bs_22) (And.intro (AM.bsW_slice bs_22) (And.intro (AM.bsW_string bs_22) (And.intro (@AM.fa_ptr) (And.intro (@fd_33_0) (And.intro (@fd_33_1) (And.intro (@fd_33_2) (And.intro (@AM.ldO_agg) (And.intro (@AM.ldO_one) (And.intro (@AM.ld_ptr) (And.intro (@lk_29) (And.intro (@lk_3) (And.intro (@AM.op_box) (And.intro (@AM.op_buildSlice) (And.intro (@AM.op_call) (And.intro (@AM.op_fieldAddr) (@AM.op_load))))))))))))))))))))))))))) := And.intro (@AM.boxK_agg) (And.intro (@AM.boxK_bool) (And.intro (@AM.boxK_func) (And.intro (@AM.boxK_int) (And.intro (@AM.boxK_map) (And.intro (@AM.boxK_pointer) (And.intro (@AM.boxK_slice) (And.intro (@AM.boxK_string) (And.intro (AM.bsW_int bs_22) (And.intro (AM.bsW_int3 bs_22) (And.intro (AM.bsW_nil bs_22) (And.intro (AM.bsW_slice bs_22) (And.intro (AM.bsW_string bs_22) (And.intro (@AM.fa_ptr) (And.intro (@fd_33_0) (And.intro (@fd_33_1) (And.intro (@fd_33_2) (And.intro (@AM.ldO_agg) (And.intro (@AM.ldO_one) (And.intro (@AM.ld_ptr) (And.intro (@lk_29) (And.intro (@lk_3) (And.intro (@AM.op_box) (And.intro (@AM.op_buildSlice) (And.intro (@AM.op_call) (And.intro (@AM.op_fieldAddr) (@AM.op_load))))))))))))))))))))))))))
theorem b53_Y1 : type_of% (And.intro (@AM.alK_some) (And.intro (@al_33) (And.intro (@AM.bin_add) (And.intro (@AM.bin_lss) (And.intro (@AM.iaO_ok) (And.intro (AM.ia_slice el_30) (And.intro (@AM.ldO_agg) (And.intro (@AM.ldO_one) (And.intro (@AM.ld_ptr) (And.intro (AM.len_slice ul_30) (And.intro (@lk_33) (And.intro (@AM.op_alloc) (And.intro (@AM.op_binOp) (And.intro (@AM.op_call) (And.intro (@AM.op_indexAddr) (And.intro (@AM.op_len) (And.intro (@AM.op_load) (And.intro (@AM.op_makeInterface) (And.intro (@AM.op_store) (And.intro (@AM.res_cell) (And.intro (@AM.stO_agg) (And.intro (@AM.stO_bool) (And.intro (@AM.stO_int) (And.intro (@AM.stO_map) (And.intro (@AM.stO_pointer) (And.intro (@AM.stO_slice) (And.intro (@AM.stO_string) (And.intro (@AM.st_ptr) (@sz_33))))))))))))))))))))))))))))) := And.intro (@AM.alK_some) (And.intro (@al_33) (And.intro (@AM.bin_add) (And.intro (@AM.bin_lss) (And.intro (@AM.iaO_ok) (And.intro (AM.ia_slice el_30) (And.intro (@AM.ldO_agg) (And.intro (@AM.ldO_one) (And.intro (@AM.ld_ptr) (And.intro (AM.len_slice ul_30) (And.intro (@lk_33) (And.intro (@AM.op_alloc) (And.intro (@AM.op_binOp) (And.intro (@AM.op_call) (And.intro (@AM.op_indexAddr) (And.intro (@AM.op_len) (And.intro (@AM.op_load) (And.intro (@AM.op_makeInterface) (And.intro (@AM.op_store) (And.intro (@AM.res_cell) (And.intro (@AM.stO_agg) (And.intro (@AM.stO_bool) (And.intro (@AM.stO_int) (And.intro (@AM.stO_map) (And.intro (@AM.stO_pointer) (And.intro (@AM.stO_slice) (And.intro (@AM.stO_string) (And.intro (@AM.st_ptr) (@sz_33))))))))))))))))))))))))))))
theorem b18_Y1 : type_of% (And.intro (@AM.alK_some) (And.intro (@al_33) (And.intro (@AM.bdV_some) (And.intro (@bd_33) (And.intro (@AM.bin_eql) (And.intro (@AM.fillL_cons) (And.intro (@AM.fillL_nil) (And.intro (@AM.fillS_agg) (And.intro (@AM.fillS_bool) (And.intro (@AM.fillS_func) (And.intro (@AM.fillS_int) (And.intro (@AM.fillS_map) (And.intro (@AM.fillS_pointer) (And.intro (@AM.fillS_slice) (And.intro (@AM.fillS_string) (And.intro (@AM.ldO_agg) (And.intro (@AM.ldO_one) (And.intro (@AM.ld_ptr) (And.intro (AM.len_slice ul_30) (And.intro (@lk_33) (And.intro (@AM.op_alloc) (And.intro (@AM.op_binOp) (And.intro (@AM.op_build) (And.intro (@AM.op_call) (And.intro (@AM.op_len) (And.intro (@AM.op_store) (And.intro (@AM.resL_two) (And.intro (@AM.res_cell) (And.intro (@AM.stO_agg) (And.intro (@AM.stO_bool) (And.intro (@AM.stO_int) (And.intro (@AM.stO_map) (And.intro (@AM.stO_pointer) (And.intro (@AM.stO_slice) (And.intro (@AM.stO_string) (And.intro (@AM.st_ptr) (@sz_33))))))))))))))))))))))))))))))))))))) := And.intro (@AM.alK_some) (And.intro (@al_33) (And.intro (@AM.bdV_some) (And.intro (@bd_33) (And.intro (@AM.bin_eql) (And.intro (@AM.fillL_cons) (And.intro (@AM.fillL_nil) (And.intro (@AM.fillS_agg) (And.intro (@AM.fillS_bool) (And.intro (@AM.fillS_func) (And.intro (@AM.fillS_int) (And.intro (@AM.fillS_map) (And.intro (@AM.fillS_pointer) (And.intro (@AM.fillS_slice) (And.intro (@AM.fillS_string) (And.intro (@AM.ldO_agg) (And.intro (@AM.ldO_one) (And.intro (@AM.ld_ptr) (And.intro (AM.len_slice ul_30) (And.intro (@lk_33) (And.intro (@AM.op_alloc) (And.intro (@AM.op_binOp) (And.intro (@AM.op_build) (And.intro (@AM.op_call) (And.intro (@AM.op_len) (And.intro (@AM.op_store) (And.intro (@AM.resL_two) (And.intro (@AM.res_cell) (And.intro (@AM.stO_agg) (And.intro (@AM.stO_bool) (And.intro (@AM.stO_int) (And.intro (@AM.stO_map) (And.intro (@AM.stO_pointer) (And.intro (@AM.stO_slice) (And.intro (@AM.stO_string) (And.intro (@AM.st_ptr) (@sz_33))))))))))))))))))))))))))))))))))))
abbrev Wt := Int × Int × Int
def encW (w : Wt) : List Value := [.int .i64 w.1, .int .u64 w.2.1, .int .i64 w.2.2]
def cmpI (a b : Int) : Int := if a < b then -1 else if b < a then 1 else 0
def orI (a b c : Int) : Int := if a = 0 then (if b = 0 then c else b) else a
def cmpW (a b : Wt) : Int := orI (cmpI a.2.2 b.2.2) (cmpI b.2.1 a.2.1) (cmpI b.1 a.1)

theorem isNaN_w (a : Int) (h : AHeap) (Q : VQ) (hq : Q (.bool false) h) : W 71 [.int .i64 a] h Q := by
  refine AM.enter hp (fn := Try.f71) (rs := [.tmp 2]) (nt := 6) (by kernel_rfl) Try.func71 rfl rfl rfl (by kernel_rfl) ?_
  (first | (simp (maxSteps := 1000000) (disch := first | omega | (simp only [AM.DB, List.length_set, List.length_map]; first | done | omega)) only [AM.RB, Nat.reduceAdd, Nat.reduceMul, Nat.reduceEqDiff, reduceCtorEq, b71_Y1]) | skip); (repeat' (first | ((first | refine AM.guard_spl ?_ ?_ | refine AM.cond_spl ?_ ?_ | refine AM.guard_b ?_ ?_ | refine AM.cond_b ?_ ?_) <;> (intro hd hp_; simp (maxSteps := 1000000) (disch := first | omega | (simp only [AM.DB, List.length_set, List.length_map]; first | done | omega)) only [AM.RB, Nat.reduceAdd, Nat.reduceMul, Nat.reduceEqDiff, reduceCtorEq, b71_Y1, hd])) | ((first | refine AM.drawW_fine hp (by kernel_rfl) (by kernel_rfl) (by kernel_rfl) ?_ | refine AM.opW_tied (by kernel_rfl) ?_ | refine AM.opW_untied (by kernel_rfl) ?_ | refine AM.build_w ?_); simp (maxSteps := 1000000) (disch := first | omega | (simp only [AM.DB, List.length_set, List.length_map]; first | done | omega)) only [AM.RB, Nat.reduceAdd, Nat.reduceMul, Nat.reduceEqDiff, reduceCtorEq, b71_Y1])))
  exact hq
theorem isNaNu_w (a : Int) (h : AHeap) (Q : VQ) (hq : Q (.bool false) h) : W 72 [.int .u64 a] h Q := by
  refine AM.enter hp (fn := Try.f72) (rs := [.tmp 2]) (nt := 6) (by kernel_rfl) Try.func72 rfl rfl rfl (by kernel_rfl) ?_
  (first | (simp (maxSteps := 1000000) (disch := first | omega | (simp only [AM.DB, List.length_set, List.length_map]; first | done | omega)) only [AM.RB, Nat.reduceAdd, Nat.reduceMul, Nat.reduceEqDiff, reduceCtorEq, b72_Y1]) | skip); (repeat' (first | ((first | refine AM.guard_spl ?_ ?_ | refine AM.cond_spl ?_ ?_ | refine AM.guard_b ?_ ?_ | refine AM.cond_b ?_ ?_) <;> (intro hd hp_; simp (maxSteps := 1000000) (disch := first | omega | (simp only [AM.DB, List.length_set, List.length_map]; first | done | omega)) only [AM.RB, Nat.reduceAdd, Nat.reduceMul, Nat.reduceEqDiff, reduceCtorEq, b72_Y1, hd])) | ((first | refine AM.drawW_fine hp (by kernel_rfl) (by kernel_rfl) (by kernel_rfl) ?_ | refine AM.opW_tied (by kernel_rfl) ?_ | refine AM.opW_untied (by kernel_rfl) ?_ | refine AM.build_w ?_); simp (maxSteps := 1000000) (disch := first | omega | (simp only [AM.DB, List.length_set, List.length_map]; first | done | omega)) only [AM.RB, Nat.reduceAdd, Nat.reduceMul, Nat.reduceEqDiff, reduceCtorEq, b72_Y1])))
  exact hq

theorem compare_w (a b : Int) (h : AHeap) (Q : VQ) (hq : Q (.int .i64 (cmpI a b)) h) : W 56 [.int .i64 a, .int .i64 b] h Q := by
  refine AM.enter hp (fn := Try.f56) (rs := [.tmp 4]) (nt := 20) (by kernel_rfl) Try.func56 rfl rfl rfl (by kernel_rfl) ?_
  simp (maxSteps := 1000000) (disch := first | omega | (simp only [AM.DB, List.length_set, List.length_map]; first | done | omega)) only [AM.RB, Nat.reduceAdd, Nat.reduceMul, Nat.reduceEqDiff, reduceCtorEq, b56_Y1]
  refine isNaN_w _ _ _ ?_
  simp (maxSteps := 1000000) (disch := first | omega | (simp only [AM.DB, List.length_set, List.length_map]; first | done | omega)) only [AM.RB, Nat.reduceAdd, Nat.reduceMul, Nat.reduceEqDiff, reduceCtorEq, b56_Y1]
  refine isNaN_w _ _ _ ?_
  (first | (simp (maxSteps := 1000000) (disch := first | omega | (simp only [AM.DB, List.length_set, List.length_map]; first | done | omega)) only [AM.RB, Nat.reduceAdd, Nat.reduceMul, Nat.reduceEqDiff, reduceCtorEq, b56_Y1]) | skip); (repeat' (first | ((first | refine AM.guard_spl ?_ ?_ | refine AM.cond_spl ?_ ?_ | refine AM.guard_b ?_ ?_ | refine AM.cond_b ?_ ?_) <;> (intro hd hp_; simp (maxSteps := 1000000) (disch := first | omega | (simp only [AM.DB, List.length_set, List.length_map]; first | done | omega)) only [AM.RB, Nat.reduceAdd, Nat.reduceMul, Nat.reduceEqDiff, reduceCtorEq, b56_Y1, hd])) | ((first | refine AM.drawW_fine hp (by kernel_rfl) (by kernel_rfl) (by kernel_rfl) ?_ | refine AM.opW_tied (by kernel_rfl) ?_ | refine AM.opW_untied (by kernel_rfl) ?_ | refine AM.build_w ?_); simp (maxSteps := 1000000) (disch := first | omega | (simp only [AM.DB, List.length_set, List.length_map]; first | done | omega)) only [AM.RB, Nat.reduceAdd, Nat.reduceMul, Nat.reduceEqDiff, reduceCtorEq, b56_Y1])))
  all_goals (unfold cmpI at hq; simpa [*] using hq)
theorem compareu_w (a b : Int) (h : AHeap) (Q : VQ) (hq : Q (.int .i64 (cmpI a b)) h) : W 57 [.int .u64 a, .int .u64 b] h Q := by
  refine AM.enter hp (fn := Try.f57) (rs := [.tmp 4]) (nt := 20) (by kernel_rfl) Try.func57 rfl rfl rfl (by kernel_rfl) ?_
  simp (maxSteps := 1000000) (disch := first | omega | (simp only [AM.DB, List.length_set, List.length_map]; first | done | omega)) only [AM.RB, Nat.reduceAdd, Nat.reduceMul, Nat.reduceEqDiff, reduceCtorEq, b57_Y1]
  refine isNaNu_w _ _ _ ?_
  simp (maxSteps := 1000000) (disch := first | omega | (simp only [AM.DB, List.length_set, List.length_map]; first | done | omega)) only [AM.RB, Nat.reduceAdd, Nat.reduceMul, Nat.reduceEqDiff, reduceCtorEq, b57_Y1]
  refine isNaNu_w _ _ _ ?_
  (first | (simp (maxSteps := 1000000) (disch := first | omega | (simp only [AM.DB, List.length_set, List.length_map]; first | done | omega)) only [AM.RB, Nat.reduceAdd, Nat.reduceMul, Nat.reduceEqDiff, reduceCtorEq, b57_Y1]) | skip); (repeat' (first | ((first | refine AM.guard_spl ?_ ?_ | refine AM.cond_spl ?_ ?_ | refine AM.guard_b ?_ ?_ | refine AM.cond_b ?_ ?_) <;> (intro hd hp_; simp (maxSteps := 1000000) (disch := first | omega | (simp only [AM.DB, List.length_set, List.length_map]; first | done | omega)) only [AM.RB, Nat.reduceAdd, Nat.reduceMul, Nat.reduceEqDiff, reduceCtorEq, b57_Y1, hd])) | ((first | refine AM.drawW_fine hp (by kernel_rfl) (by kernel_rfl) (by kernel_rfl) ?_ | refine AM.opW_tied (by kernel_rfl) ?_ | refine AM.opW_untied (by kernel_rfl) ?_ | refine AM.build_w ?_); simp (maxSteps := 1000000) (disch := first | omega | (simp only [AM.DB, List.length_set, List.length_map]; first | done | omega)) only [AM.RB, Nat.reduceAdd, Nat.reduceMul, Nat.reduceEqDiff, reduceCtorEq, b57_Y1])))
  all_goals (unfold cmpI at hq; simpa [*] using hq)

def spanI (t : Int) : Int := 4 * 2 ^ (min (max t 0) 6).toNat
theorem spanI_cases (t : Int) : ∃ k : Nat, k ≤ 6 ∧ (min (max t 0) 6).toNat = k ∧ spanI t = 4 * 2 ^ k := ⟨_, by omega, rfl, rfl⟩
theorem spanI_bounds (t : Int) : 4 ≤ spanI t ∧ spanI t ≤ 256 := by
  obtain ⟨k, hk, _, e⟩ := spanI_cases t
  rw [e]
  have : k = 0 ∨ k = 1 ∨ k = 2 ∨ k = 3 ∨ k = 4 ∨ k = 5 ∨ k = 6 := by omega
  rcases this with rfl | rfl | rfl | rfl | rfl | rfl | rfl <;> decide
theorem span_w (t : Int) (h : AHeap) (Q : VQ) (hq : Q (.int .u64 (spanI t)) h) : W 20 [.int .i64 t] h Q := by
  refine AM.enter hp (fn := Try.f20) (rs := [.tmp 2]) (nt := 7) (by kernel_rfl) Try.func20 rfl rfl rfl (by kernel_rfl) ?_
  simp (maxSteps := 1000000) (disch := first | omega | (simp only [AM.DB, List.length_set, List.length_map]; first | done | omega)) only [AM.RB, Nat.reduceAdd, Nat.reduceMul, Nat.reduceEqDiff, reduceCtorEq, b20_Y1, AM.bin_shl]
  have e1 : min (min (max t 0) 6).toNat IntKind.u64.bits = (min (max t 0) 6).toNat := by
    show min _ 64 = _; omega
  have hb := spanI_bounds t
  rw [e1, AM.wrap_u64 (n := 4 * 2 ^ (min (max t 0) 6).toNat) (by unfold spanI at hb; omega) (by unfold spanI at hb; omega)]
  exact hq
theorem backoff_w (t d : Int) (hd : 0 ≤ d ∧ d < 18446744073709551616) (h : AHeap) (Q : VQ) (hq : Q (.int .u64 (IntKind.u64.wrap (spanI t + d.tmod (spanI t)))) h) : W 21 [.int .i64 t, .int .u64 d] h Q := by
  refine AM.enter hp (fn := Try.f21) (rs := [.tmp 4]) (nt := 12) (by kernel_rfl) Try.func21 rfl rfl rfl (by kernel_rfl) ?_
  simp (maxSteps := 1000000) (disch := first | omega | (simp only [AM.DB, List.length_set, List.length_map]; first | done | omega)) only [AM.RB, Nat.reduceAdd, Nat.reduceMul, Nat.reduceEqDiff, reduceCtorEq, b21_Y1]
  refine span_w _ _ _ ?_
  simp (maxSteps := 1000000) (disch := first | omega | (simp only [AM.DB, List.length_set, List.length_map]; first | done | omega)) only [AM.RB, Nat.reduceAdd, Nat.reduceMul, Nat.reduceEqDiff, reduceCtorEq, b21_Y1]
  refine span_w _ _ _ ?_
  have hb := spanI_bounds t
  simp (maxSteps := 1000000) (disch := first | omega | (simp only [AM.DB, List.length_set, List.length_map]; first | done | omega)) only [AM.RB, Nat.reduceAdd, Nat.reduceMul, Nat.reduceEqDiff, reduceCtorEq, b21_Y1, AM.bin_rem]
  exact hq

/-- A comparison of waiters. -/
def CmpF (f : Value) (c : Wt → Wt → Int) : Prop := ∀ (a b : Wt) (h : AHeap) (Q : VQ), (∀ h', Fr none' h h' → h'.low = h.low → Q (.int .i64 (c a b)) h') → CallW Try.prog prims f [.agg (encW a).toArray, .agg (encW b).toArray] h Q

theorem or_w (a b c : Int) (s : Value) (h : AHeap) (hs : Rd h 3 1 s 3 [.int .i64 a, .int .i64 b, .int .i64 c]) (Q : VQ) (hq : Q (.int .i64 (orI a b c)) h) : W 55 [s] h Q := by
  obtain ⟨aa, cap, rfl⟩ := hs.form
  have hs' : Rd h 3 1 (.slice aa 3 cap) 3 ([a, b, c].map (.int .i64)) := hs
  refine AM.enter hp (fn := Try.f55) (rs := [.tmp 2]) (nt := 18) (by kernel_rfl) Try.func55 rfl rfl rfl (by kernel_rfl) ?_
  simp (maxSteps := 1000000) (disch := first | omega | (simp only [AM.DB, List.length_set, List.length_map]; first | done | omega)) only [AM.RB, Nat.reduceAdd, Nat.reduceMul, Nat.reduceEqDiff, reduceCtorEq, b55_Y1]
  refine AM.loop_w hp 18 (fun i : Nat => [(3, .int .i64 0), (6, .slice aa 3 cap), (7, .int .i64 3), (8, .int .i64 i)])
    (fun i h' => h' = h ∧ i ≤ 3 ∧ ∀ j, j < i → [a, b, c].getD j 0 = 0) (fun i => 3 - i) (by kernel_rfl) 0 ?_ ?_ ?_
  · simp (maxSteps := 1000000) (disch := first | omega | (simp only [AM.DB, List.length_set, List.length_map]; first | done | omega)) only [AM.RB, Nat.reduceAdd, Nat.reduceMul, Nat.reduceEqDiff, reduceCtorEq, b55_Y1]
  · exact ⟨rfl, by omega, fun j hj => by omega⟩
  rintro i h1 ρ ⟨rfl, hi, hall⟩
  (first | (simp (maxSteps := 1000000) (disch := first | omega | (simp only [AM.DB, List.length_set, List.length_map]; first | done | omega)) only [AM.RB, Nat.reduceAdd, Nat.reduceMul, Nat.reduceEqDiff, reduceCtorEq, b55_Y1, hs'.ia el_22, hs'.ldi lk_3, AM.wrap_i64]) | skip); (repeat' (first | ((first | refine AM.guard_spl ?_ ?_ | refine AM.cond_spl ?_ ?_ | refine AM.guard_b ?_ ?_ | refine AM.cond_b ?_ ?_) <;> (intro hd hp_; simp (maxSteps := 1000000) (disch := first | omega | (simp only [AM.DB, List.length_set, List.length_map]; first | done | omega)) only [AM.RB, Nat.reduceAdd, Nat.reduceMul, Nat.reduceEqDiff, reduceCtorEq, b55_Y1, hd, hs'.ia el_22, hs'.ldi lk_3, AM.wrap_i64])) | ((first | refine AM.drawW_fine hp (by kernel_rfl) (by kernel_rfl) (by kernel_rfl) ?_ | refine AM.opW_tied (by kernel_rfl) ?_ | refine AM.opW_untied (by kernel_rfl) ?_ | refine AM.build_w ?_); simp (maxSteps := 1000000) (disch := first | omega | (simp only [AM.DB, List.length_set, List.length_map]; first | done | omega)) only [AM.RB, Nat.reduceAdd, Nat.reduceMul, Nat.reduceEqDiff, reduceCtorEq, b55_Y1, hs'.ia el_22, hs'.ldi lk_3, AM.wrap_i64])))
  · refine ⟨i + 1, by omega, by simp, by omega, fun j hj => ?_⟩
    by_cases e : j = i
    · subst e; simpa using hp_
    · exact hall j (by omega)
  · have : i = 0 ∨ i = 1 ∨ i = 2 := by omega
    rcases this with rfl | rfl | rfl
    · have h0 : a ≠ 0 := hp_
      have : orI a b c = a := by unfold orI; rw [if_neg h0]
      rw [this] at hq; exact hq
    · have h0 : a = 0 := hall 0 (by omega)
      have h1' : b ≠ 0 := hp_
      have : orI a b c = b := by unfold orI; rw [if_pos h0, if_neg h1']
      rw [this] at hq; exact hq
    · have h0 : a = 0 := hall 0 (by omega)
      have h1' : b = 0 := hall 1 (by omega)
      have : orI a b c = c := by unfold orI; rw [if_pos h0, if_pos h1']
      rw [this] at hq; exact hq
  · obtain rfl : i = 3 := by omega
    have h0 : a = 0 := hall 0 (by omega)
    have h1' : b = 0 := hall 1 (by omega)
    have h2' : c = 0 := hall 2 (by omega)
    have : orI a b c = 0 := by unfold orI; rw [if_pos h0, if_pos h1', h2']
    rw [this] at hq; exact hq

theorem first1_w : CmpF (.func (.func 54) #[] #[]) cmpW := by
  rintro ⟨r1, s1, p1⟩ ⟨r2, s2, p2⟩ h Q hq
  refine AM.enter hp (fn := Try.f54) (rs := [.tmp 4]) (nt := 22) (by kernel_rfl) Try.func54 rfl rfl rfl (by kernel_rfl) ?_
  simp (maxSteps := 1000000) (disch := first | omega | (simp only [AM.DB, List.length_set, List.length_map]; first | done | omega)) only [AM.RB, Nat.reduceAdd, Nat.reduceMul, Nat.reduceEqDiff, reduceCtorEq, b54_Y1, encW]
  refine AM.drawW_loose hp (by kernel_rfl) (by kernel_rfl) ?_
  (repeat' (first | (simp (maxSteps := 1000000) (disch := first | omega | (simp only [AM.DB, List.length_set, List.length_map]; first | done | omega)) only [AM.RB, Nat.reduceAdd, Nat.reduceMul, Nat.reduceEqDiff, reduceCtorEq, b54_Y1]) | refine AM.drawW_loose (id := 1) hp (by kernel_rfl) (by kernel_rfl) ?_ | refine AM.opW_tied (by kernel_rfl) ?_ | refine AM.opW_untied (by kernel_rfl) ?_))
  refine compare_w _ _ _ _ ?_
  (repeat' (first | (simp (maxSteps := 1000000) (disch := first | omega | (simp only [AM.DB, List.length_set, List.length_map]; first | done | omega)) only [AM.RB, Nat.reduceAdd, Nat.reduceMul, Nat.reduceEqDiff, reduceCtorEq, b54_Y1]) | refine AM.drawW_loose (id := 1) hp (by kernel_rfl) (by kernel_rfl) ?_ | refine AM.opW_tied (by kernel_rfl) ?_ | refine AM.opW_untied (by kernel_rfl) ?_))
  refine compareu_w _ _ _ _ ?_
  (repeat' (first | (simp (maxSteps := 1000000) (disch := first | omega | (simp only [AM.DB, List.length_set, List.length_map]; first | done | omega)) only [AM.RB, Nat.reduceAdd, Nat.reduceMul, Nat.reduceEqDiff, reduceCtorEq, b54_Y1]) | refine AM.drawW_loose (id := 1) hp (by kernel_rfl) (by kernel_rfl) ?_ | refine AM.opW_tied (by kernel_rfl) ?_ | refine AM.opW_untied (by kernel_rfl) ?_))
  refine compare_w _ _ _ _ ?_
  (repeat' (first | (simp (maxSteps := 1000000) (disch := first | omega | (simp only [AM.DB, List.length_set, List.length_map]; first | done | omega)) only [AM.RB, Nat.reduceAdd, Nat.reduceMul, Nat.reduceEqDiff, reduceCtorEq, b54_Y1]) | refine AM.drawW_loose (id := 1) hp (by kernel_rfl) (by kernel_rfl) ?_ | refine AM.opW_tied (by kernel_rfl) ?_ | refine AM.opW_untied (by kernel_rfl) ?_))
  refine or_w _ _ _ _ _ (AM.Rd.whole (n := 3) (c := [.int .i64 (cmpI p1 p2), .int .i64 (cmpI s2 s1), .int .i64 (cmpI r2 r1)]) (o := false) (AM.get_alloc_self (by simp only [AM.nx_alloc])) rfl) _ ?_
  (repeat' (first | (simp (maxSteps := 1000000) (disch := first | omega | (simp only [AM.DB, List.length_set, List.length_map]; first | done | omega)) only [AM.RB, Nat.reduceAdd, Nat.reduceMul, Nat.reduceEqDiff, reduceCtorEq, b54_Y1]) | refine AM.drawW_loose (id := 1) hp (by kernel_rfl) (by kernel_rfl) ?_ | refine AM.opW_tied (by kernel_rfl) ?_ | refine AM.opW_untied (by kernel_rfl) ?_))
  refine ⟨AM.looseOk_by [(6, [0, 5]), (8, [0, 5]), (11, [0, 5, 10]), (13, [0, 5, 10])] (by kernel_rfl) ?_, ?_⟩
  · simp (maxSteps := 1000000) (disch := first | omega | (simp only [AM.DB, List.length_set, List.length_map]; first | done | omega)) only [AM.RB, Nat.reduceAdd, Nat.reduceMul, Nat.reduceEqDiff, reduceCtorEq, b54_Y1]
    (repeat' apply And.intro) <;> (first | (refine AM.stable_len _ _ _ _ _ _ (fun _ => ?_); (simp (maxSteps := 1000000) (disch := first | omega | (simp only [AM.DB, List.length_set, List.length_map]; first | done | omega)) only [AM.RB, Nat.reduceAdd, Nat.reduceMul, Nat.reduceEqDiff, reduceCtorEq, b54_Y1])) | (refine AM.stable_load _ _ _ _ _ _ ?_; (first | (simp (maxSteps := 1000000) (disch := first | omega | (simp only [AM.DB, List.length_set, List.length_map]; first | done | omega)) only [AM.RB, Nat.reduceAdd, Nat.reduceMul, Nat.reduceEqDiff, reduceCtorEq, b54_Y1]) | skip); (first | (refine AM.stabL_int (by omega) ?_; (simp (maxSteps := 1000000) (disch := first | omega | (simp only [AM.DB, List.length_set, List.length_map]; first | done | omega)) only [AM.RB, Nat.reduceAdd, Nat.reduceMul, Nat.reduceEqDiff, reduceCtorEq, b54_Y1])) | (refine AM.stabL_ptr (by omega) (by omega) ?_; (simp (maxSteps := 1000000) (disch := first | omega | (simp only [AM.DB, List.length_set, List.length_map]; first | done | omega)) only [AM.RB, Nat.reduceAdd, Nat.reduceMul, Nat.reduceEqDiff, reduceCtorEq, b54_Y1])) | (refine AM.stabL_string (by omega) ?_; (simp (maxSteps := 1000000) (disch := first | omega | (simp only [AM.DB, List.length_set, List.length_map]; first | done | omega)) only [AM.RB, Nat.reduceAdd, Nat.reduceMul, Nat.reduceEqDiff, reduceCtorEq, b54_Y1])) | (refine AM.stabL_bool (by omega) ?_; (simp (maxSteps := 1000000) (disch := first | omega | (simp only [AM.DB, List.length_set, List.length_map]; first | done | omega)) only [AM.RB, Nat.reduceAdd, Nat.reduceMul, Nat.reduceEqDiff, reduceCtorEq, b54_Y1])))))
  · refine hq _ ((((Fr.refl _ _).alloc _).alloc _).alloc _) rfl

def mnW (c : Wt → Wt → Int) (l : List Wt) : Nat → Wt
  | 0 => l.getD 0 (0, 0, 0)
  | k + 1 => if c (l.getD (k + 1) (0, 0, 0)) (mnW c l k) < 0 then l.getD (k + 1) (0, 0, 0) else mnW c l k
theorem encW_len (w : Wt) : (encW w).length = 3 := rfl

theorem minFunc_w {f : Value} {c : Wt → Wt → Int} (hf : CmpF f c) {s : Value} {n : Nat} {l : List Wt} {h : AHeap} (hs : Rd h 33 3 s n (l.flatMap encW)) (hln : l.length = n) (h1 : 1 ≤ n) (hn : n ≤ 4000000000) (hl : h.low ≤ h.next) {Q : VQ}
    (hq : ∀ h', Fr none' h h' → Q (.agg (encW (mnW c l (n - 1))).toArray) h') : W 53 [s, f] h Q := by
  obtain ⟨a, cap, rfl⟩ := hs.form
  have ld : ∀ h', Fr none' h h' → ∀ j, j < n → aLoad Try.prog h' 33 (elP (.slice a n cap) 3 j) = some (.agg (encW (l.getD j (0, 0, 0))).toArray) := fun h' fr j hj => (hs.fr0 fr).lds encW_len lk_33 hln _ j hj
  refine AM.enter hp (fn := Try.f53) (rs := [.cell 4 33]) (nt := 33) (by kernel_rfl) Try.func53 rfl rfl rfl (by kernel_rfl) ?_
  simp (maxSteps := 1000000) (disch := first | omega | (simp only [AM.DB, List.length_set, List.length_map]; first | done | omega)) only [AM.RB, Nat.reduceAdd, Nat.reduceMul, Nat.reduceEqDiff, reduceCtorEq, b53_Y1]
  refine AM.condV_split (fun hlt => by omega) (fun hlt => ?_)
  simp (maxSteps := 1000000) (disch := first | omega | (simp only [AM.DB, List.length_set, List.length_map]; first | done | omega)) only [AM.RB, Nat.reduceAdd, Nat.reduceMul, Nat.reduceEqDiff, reduceCtorEq, b53_Y1, hs.ia el_30]
  rw [show (0 : Int).toNat = 0 from rfl, ld _ ((Fr.refl _ _).alloc _) 0 (by omega)]
  simp (maxSteps := 1000000) (disch := first | omega | (simp only [AM.DB, List.length_set, List.length_map]; first | done | omega)) only [AM.RB, Nat.reduceAdd, Nat.reduceMul, Nat.reduceEqDiff, reduceCtorEq, b53_Y1, encW]
  refine AM.loop_w hp 33 (fun i : Nat => [(0, .slice a n cap), (1, f), (4, .pointer (some ⟨h.next, 0, none⟩)), (5, .pointer (some ⟨h.next + 1, 0, none⟩)), (6, .int .i64 i)])
    (fun i h' => 1 ≤ i ∧ i ≤ n ∧ Fr none' h h' ∧ h'.get h.next = some (.cells [.int .i64 0, .int .u64 0, .int .i64 0] 33 false) ∧ h'.get (h.next + 1) = some (.cells (encW (mnW c l (i - 1))) 33 false)) (fun i => n - i) (by kernel_rfl) 1 ?_ ?_ ?_
  · simp (maxSteps := 1000000) (disch := first | omega | (simp only [AM.DB, List.length_set, List.length_map]; first | done | omega)) only [AM.RB, Nat.reduceAdd, Nat.reduceMul, Nat.reduceEqDiff, reduceCtorEq, b53_Y1]
  · refine ⟨Nat.le_refl _, h1, (((Fr.refl _ _).alloc _).alloc _).put _ (.inl (Nat.le_succ _)), ?_, ?_⟩
    · simp (maxSteps := 1000000) (disch := first | omega | (simp only [AM.DB, List.length_set, List.length_map]; first | done | omega)) only [AM.RB, Nat.reduceAdd, Nat.reduceMul, Nat.reduceEqDiff, reduceCtorEq, b53_Y1]
    · simp (maxSteps := 1000000) (disch := first | omega | (simp only [AM.DB, List.length_set, List.length_map]; first | done | omega)) only [AM.RB, Nat.reduceAdd, Nat.reduceMul, Nat.reduceEqDiff, reduceCtorEq, b53_Y1, encW, Nat.sub_self, mnW]
  rintro i h2 ρ ⟨hi1, hi, fr, g1, g2⟩
  have l1 := AM.get_some_lt g1
  have l2 := AM.get_some_lt g2
  have hl2 := fr.hl hl
  have lo2 := fr.low
  have hs2 := hs.fr0 fr
  simp (maxSteps := 1000000) (disch := first | omega | (simp only [AM.DB, List.length_set, List.length_map]; first | done | omega)) only [AM.RB, Nat.reduceAdd, Nat.reduceMul, Nat.reduceEqDiff, reduceCtorEq, b53_Y1]
  refine AM.condV_split (fun hlt => ?_) (fun hlt => ?_)
  · (repeat' (first | (simp (maxSteps := 1000000) (disch := first | omega | (simp only [AM.DB, List.length_set, List.length_map]; first | done | omega)) only [AM.RB, Nat.reduceAdd, Nat.reduceMul, Nat.reduceEqDiff, reduceCtorEq, b53_Y1, hs2.ia el_30, hs2.lds encW_len lk_33 hln (0, 0, 0), g2, encW]) | refine AM.drawW_fine hp (by kernel_rfl) (by kernel_rfl) (by kernel_rfl) ?_ | refine AM.opW_tied (by kernel_rfl) ?_ | refine AM.opW_untied (by kernel_rfl) ?_))
    simp only [Int.toNat_natCast]
    refine hf (l.getD i (0, 0, 0)) (mnW c l (i - 1)) _ _ fun h3 fr3 hl3 => ?_
    have g1' := fr3.get g1 (fun q => q)
    have g2' := fr3.get g2 (fun q => q)
    have l1' := AM.get_some_lt g1'
    have l2' := AM.get_some_lt g2'
    have hs3 := hs2.fr0 fr3
    have em : mnW c l i = if c (l.getD i (0, 0, 0)) (mnW c l (i - 1)) < 0 then l.getD i (0, 0, 0) else mnW c l (i - 1) := by
      obtain ⟨k, rfl⟩ : ∃ k, i = k + 1 := ⟨i - 1, by omega⟩
      rfl
    (first | (simp (maxSteps := 1000000) (disch := first | omega | (simp only [AM.DB, List.length_set, List.length_map]; first | done | omega)) only [AM.RB, Nat.reduceAdd, Nat.reduceMul, Nat.reduceEqDiff, reduceCtorEq, b53_Y1, hs3.ia el_30, hs3.lds encW_len lk_33 hln (0, 0, 0), g2', AM.wrap_i64, encW]) | skip); (repeat' (first | ((first | refine AM.guard_spl ?_ ?_ | refine AM.cond_spl ?_ ?_ | refine AM.guard_b ?_ ?_ | refine AM.cond_b ?_ ?_) <;> (intro hd hp_; simp (maxSteps := 1000000) (disch := first | omega | (simp only [AM.DB, List.length_set, List.length_map]; first | done | omega)) only [AM.RB, Nat.reduceAdd, Nat.reduceMul, Nat.reduceEqDiff, reduceCtorEq, b53_Y1, hd, hs3.ia el_30, hs3.lds encW_len lk_33 hln (0, 0, 0), g2', AM.wrap_i64, encW])) | ((first | refine AM.drawW_fine hp (by kernel_rfl) (by kernel_rfl) (by kernel_rfl) ?_ | refine AM.opW_tied (by kernel_rfl) ?_ | refine AM.opW_untied (by kernel_rfl) ?_ | refine AM.build_w ?_); simp (maxSteps := 1000000) (disch := first | omega | (simp only [AM.DB, List.length_set, List.length_map]; first | done | omega)) only [AM.RB, Nat.reduceAdd, Nat.reduceMul, Nat.reduceEqDiff, reduceCtorEq, b53_Y1, hs3.ia el_30, hs3.lds encW_len lk_33 hln (0, 0, 0), g2', AM.wrap_i64, encW])))
    · refine ⟨i + 1, by omega, by simp, by omega, by omega, ((fr.trans fr3).put _ (.inl (Nat.le_succ _))), ?_, ?_⟩
      · exact g1'
      · simp only [Nat.add_sub_cancel, em, if_pos hp_, Int.toNat_natCast]
    · refine ⟨i + 1, by omega, by simp, by omega, by omega, fr.trans fr3, g1', ?_⟩
      rw [Nat.add_sub_cancel, em, if_neg hp_]
      first | done | exact g2'
  · obtain rfl : i = n := by omega
    (repeat' (first | (simp (maxSteps := 1000000) (disch := first | omega | (simp only [AM.DB, List.length_set, List.length_map]; first | done | omega)) only [AM.RB, Nat.reduceAdd, Nat.reduceMul, Nat.reduceEqDiff, reduceCtorEq, b53_Y1, g1, g2, encW]) | refine AM.drawW_fine hp (by kernel_rfl) (by kernel_rfl) (by kernel_rfl) ?_ | refine AM.opW_tied (by kernel_rfl) ?_ | refine AM.opW_untied (by kernel_rfl) ?_))
    exact hq _ (fr.put _ (.inl (Nat.le_refl _)))

theorem first_w {s : Value} {n : Nat} {l : List Wt} {h : AHeap} (hs : Rd h 33 3 s n (l.flatMap encW)) (hln : l.length = n) (hn : n ≤ 4000000000) (hl : h.low ≤ h.next) {Q : VQ}
    (hq : ∀ h', Fr none' h h' → Q (.tuple #[.agg (encW (if n = 0 then (0, 0, 0) else mnW cmpW l (n - 1))).toArray, .bool (decide (0 < n))]) h') : W 18 [s] h Q := by
  obtain ⟨a, cap, rfl⟩ := hs.form
  refine AM.enter hp (fn := Try.f18) (rs := [.cell 2 33, .tmp 3]) (nt := 10) (by kernel_rfl) Try.func18 rfl rfl rfl (by kernel_rfl) ?_
  have fr1 : Fr none' h (h.alloc (.cells [.int .i64 0, .int .u64 0, .int .i64 0] 33 false)) := (Fr.refl _ _).alloc _
  (first | (simp (maxSteps := 1000000) (disch := first | omega | (simp only [AM.DB, List.length_set, List.length_map]; first | done | omega)) only [AM.RB, Nat.reduceAdd, Nat.reduceMul, Nat.reduceEqDiff, reduceCtorEq, b18_Y1]) | skip); (repeat' (first | ((first | refine AM.guard_spl ?_ ?_ | refine AM.cond_spl ?_ ?_ | refine AM.guard_b ?_ ?_ | refine AM.cond_b ?_ ?_) <;> (intro hd hp_; simp (maxSteps := 1000000) (disch := first | omega | (simp only [AM.DB, List.length_set, List.length_map]; first | done | omega)) only [AM.RB, Nat.reduceAdd, Nat.reduceMul, Nat.reduceEqDiff, reduceCtorEq, b18_Y1, hd])) | ((first | refine AM.drawW_fine hp (by kernel_rfl) (by kernel_rfl) (by kernel_rfl) ?_ | refine AM.opW_tied (by kernel_rfl) ?_ | refine AM.opW_untied (by kernel_rfl) ?_ | refine AM.build_w ?_); simp (maxSteps := 1000000) (disch := first | omega | (simp only [AM.DB, List.length_set, List.length_map]; first | done | omega)) only [AM.RB, Nat.reduceAdd, Nat.reduceMul, Nat.reduceEqDiff, reduceCtorEq, b18_Y1])))
  · obtain rfl : n = 0 := by omega
    exact hq _ (fr1.put _ (.inl (Nat.le_refl _)))
  · refine minFunc_w first1_w (hs.fr0 fr1) hln (by omega) hn (fr1.hl hl) fun h2 fr2 => ?_
    have g := fr2.get (AM.get_alloc_self rfl) (fun q => q)
    have lo := fr2.low
    have l2 := AM.get_some_lt g
    simp only [AM.lw_alloc] at lo
    (repeat' (first | (simp (maxSteps := 1000000) (disch := first | omega | (simp only [AM.DB, List.length_set, List.length_map]; first | done | omega)) only [AM.RB, Nat.reduceAdd, Nat.reduceMul, Nat.reduceEqDiff, reduceCtorEq, b18_Y1, encW, g]) | refine AM.build_w ?_))
    rw [if_neg (by omega)] at hq
    have hd2 : decide (0 < n) = true := by simp; omega
    rw [hd2] at hq
    exact hq _ ((fr1.trans fr2).put _ (.inl (Nat.le_refl _)))

theorem cmp_lt (a b : Wt) : cmpW a b < 0 ↔ a.2.2 < b.2.2 ∨ a.2.2 = b.2.2 ∧ (b.2.1 < a.2.1 ∨ b.2.1 = a.2.1 ∧ b.1 < a.1) := by
  unfold cmpW orI cmpI
  repeat' split
  all_goals omega
end Go.Proofs.Ytodcnfabnlojdaa

namespace Go.Proofs.Ytodcnfabnlojdaa
open Go.AM

/-! ### What robots gave: robots, each once, and priorities -/
abbrev IL := List (Int × Int)
def vL (L : IL) : List (Int × Value) := L.map fun q => (q.1, .int .i64 q.2)
def getI : IL → Int → Option Int
  | [], _ => none
  | (k, v) :: l, x => if x = k then some v else getI l x
def setI : IL → Int → Int → IL
  | [], x, v => [(x, v)]
  | (k, w) :: l, x, v => if x = k then (x, v) :: l else (k, w) :: setI l x v
/-- Robots and priorities that may be. -/
def fitI (q : Int × Int) : Prop := (0 ≤ q.1 ∧ q.1 < 64) ∧ 0 ≤ q.2 ∧ q.2 ≤ 15
def okI (L : IL) : Prop := (∀ q ∈ L, fitI q) ∧ (L.map (·.1)).Nodup
theorem setI_keys : ∀ (L : IL) (x v : Int), (setI L x v).map (·.1) = if x ∈ L.map (·.1) then L.map (·.1) else L.map (·.1) ++ [x]
  | [], x, v => by simp [setI]
  | (k, w) :: l, x, v => by
    unfold setI
    split
    · rename_i e; subst e; simp
    · rename_i e
      rw [List.map_cons, setI_keys l x v]
      by_cases h : x ∈ l.map (·.1)
      · rw [if_pos h, if_pos (by simp only [List.map_cons, List.mem_cons]; exact .inr h)]; rfl
      · rw [if_neg h, if_neg (by simp only [List.map_cons, List.mem_cons]; exact fun q => q.elim e h)]; rfl
theorem setI_mem : ∀ {L : IL} {x v : Int} {q : Int × Int}, q ∈ setI L x v → q ∈ L ∨ q = (x, v)
  | [], x, v, q, h => by simp [setI] at h; exact .inr h
  | (k, w) :: l, x, v, q, h => by
    unfold setI at h
    split at h
    · rcases List.mem_cons.1 h with h | h
      · exact .inr h
      · exact .inl (List.mem_cons_of_mem _ h)
    · rcases List.mem_cons.1 h with h | h
      · exact .inl (by rw [h]; exact List.mem_cons_self)
      · exact (setI_mem h).imp (List.mem_cons_of_mem _) id
theorem okI.set {L : IL} (ok : okI L) {x v : Int} (hx : fitI (x, v)) : okI (setI L x v) := by
  refine ⟨fun q hq => (setI_mem hq).elim (ok.1 q) (fun e => by rw [e]; exact hx), ?_⟩
  rw [setI_keys]
  split
  · exact ok.2
  · rename_i h
    rw [List.nodup_append]
    exact ⟨ok.2, by simp, fun a ha b hb e => by simp at hb; subst hb; exact h (e ▸ ha)⟩
/-- No more than 64. -/
theorem okI.len {L : IL} (ok : okI L) : L.length ≤ 64 := by
  have h1 : (L.map (·.1)).Perm (((List.range 64).map Int.ofNat).filter fun x => decide (x ∈ L.map (·.1))) := by
    refine (List.perm_ext_iff_of_nodup ok.2 ?_).2 fun x => ?_
    · exact List.filter_sublist.nodup (by decide)
    · simp only [List.mem_filter, decide_eq_true_eq]
      refine ⟨fun hx => ⟨?_, hx⟩, fun h => h.2⟩
      obtain ⟨q, hq, rfl⟩ := List.mem_map.1 hx
      have := (ok.1 q hq).1
      exact List.mem_map.2 ⟨q.1.toNat, List.mem_range.2 (by omega), by show ((q.1.toNat : Nat) : Int) = q.1; omega⟩
  have h2 := h1.length_eq
  have h3 := List.length_filter_le (fun x => decide (x ∈ L.map (·.1))) ((List.range 64).map Int.ofNat)
  simp only [List.length_map, List.length_range] at h2 h3
  omega
theorem okI.es {L : IL} (ok : okI L) : okEs (encM (vL L)) = true := by
  have h1 := ok.len
  unfold okEs
  simp only [Bool.and_eq_true, decide_eq_true_eq, List.all_eq_true]
  refine ⟨by simp [encM, vL]; unfold roomy; omega, fun p hp => ?_⟩
  simp only [encM, vL, List.map_map, List.mem_map, Function.comp] at hp
  obtain ⟨q, hq, rfl⟩ := hp
  obtain ⟨⟨a, b⟩, c, d⟩ := ok.1 q hq
  have w : ∀ n : Int, 0 ≤ n → n < 64 → isW64 (.int .i64 n) = true := fun n h0 h1 => by
    have e1 : IntKind.i64.min = -9223372036854775808 := by decide
    have e2 : IntKind.i64.max = 9223372036854775807 := by decide
    unfold isW64
    simp only [Lit.wf, e1, e2, Bool.and_eq_true, decide_eq_true_eq]
    omega
  exact ⟨w _ a b, w _ c (by omega)⟩
end Go.Proofs.Ytodcnfabnlojdaa

namespace Go.Proofs.Ytodcnfabnlojdaa
open Go.AM
set_option maxRecDepth 8000
/-- A holder in memory: where its map lies, if it has one. -/
def own (p : Nat) (mo : Option Nat) (id : Nat) : Prop := id = p ∨ mo = some id
def Hd (h : AHeap) (p : Nat) (mo : Option Nat) (o : Int) (L : IL) : Prop :=
  h.get p = some (.cells [.int .i64 o, .map mo] 45 false) ∧ h.low ≤ p ∧ mo ≠ some p ∧
    match mo with
    | none => L = []
    | some m => h.get m = some (.map (encM (vL L))) ∧ h.low ≤ m
theorem Hd.fr {S : Nat → Prop} {h h' : AHeap} {p : Nat} {mo : Option Nat} {o : Int} {L : IL} (x : Hd h p mo o L) (fr : Fr S h h') (hS : ∀ id, own p mo id → ¬ S id) : Hd h' p mo o L := by
  obtain ⟨g, hl, hne, hm⟩ := x
  refine ⟨fr.get g (hS p (.inl rfl)), by rw [fr.low]; exact hl, hne, ?_⟩
  cases mo with
  | none => exact hm
  | some m => exact ⟨fr.get hm.1 (hS m (.inr rfl)), by rw [fr.low]; exact hm.2⟩
theorem Hd.fr0 {h h' : AHeap} {p : Nat} {mo : Option Nat} {o : Int} {L : IL} (x : Hd h p mo o L) (fr : Fr none' h h') : Hd h' p mo o L := x.fr fr fun _ _ q => q
theorem Hd.lt {h : AHeap} {p : Nat} {mo : Option Nat} {o : Int} {L : IL} (x : Hd h p mo o L) {id : Nat} (hi : own p mo id) : id < h.next := by
  obtain ⟨g, hl, hne, hm⟩ := x
  rcases hi with rfl | rfl
  · exact AM.get_some_lt g
  · exact AM.get_some_lt hm.1

/-- What a call of a holder leaves. -/
def HdTo (h : AHeap) (p : Nat) (mo : Option Nat) (o : Int) (L : IL) (K : AHeap → Prop) : Prop :=
  ∀ h' mo', Hd h' p mo' o L → Fr (own p mo) h h' → (∀ id, mo' = some id → mo = some id ∨ h.next ≤ id) → K h'

theorem two_new (h : AHeap) (c1 c2 : List Value) (e1 e2 : TypeId) : ∃ h2, (h.alloc (.cells c1 e1 false)).alloc (.cells c2 e2 false) = h2 ∧ h2.get h.next = some (.cells c1 e1 false) ∧ h2.get (h.next + 1) = some (.cells c2 e2 false) ∧ Fr none' h h2 ∧ h2.next = h.next + 2 ∧ h2.low = h.low := by
  refine ⟨_, rfl, ?_, ?_, ((Fr.refl _ _).alloc _).alloc _, rfl, rfl⟩
  · rw [AM.get_alloc_ne (by simp), AM.get_alloc_self rfl]
  · rw [AM.get_alloc_self (by simp)]
theorem HdTo.mono {h : AHeap} {p : Nat} {mo : Option Nat} {o : Int} {L : IL} {K K' : AHeap → Prop} (hk : HdTo h p mo o L K) (h1 : ∀ h', K h' → K' h') : HdTo h p mo o L K' :=
  fun h' mo' x fr' hm => h1 _ (hk h' mo' x fr' hm)

end Go.Proofs.Ytodcnfabnlojdaa

namespace Go.Proofs.Ytodcnfabnlojdaa
open Go.AM
set_option maxRecDepth 8000
/-! ### Bans in memory: cells, each once, and until when -/
def vU (L : IL) : List (Int × Value) := L.map fun q => (q.1, .int .u64 q.2)
theorem vU_get : ∀ (L : IL) (x : Int), mgetL (vU L) x = (getI L x).map (Value.int .u64)
  | [], _ => rfl
  | (k, v) :: l, x => by
    show mgetL ((k, .int .u64 v) :: vU l) x = _
    unfold mgetL getI
    split
    · rfl
    · exact vU_get l x
theorem vU_set : ∀ (L : IL) (x v : Int), msetL (vU L) x (.int .u64 v) = vU (setI L x v)
  | [], _, _ => rfl
  | (k, w) :: l, x, v => by
    show msetL ((k, .int .u64 w) :: vU l) x _ = _
    unfold msetL setI
    split
    · rfl
    · show _ = (k, Value.int .u64 w) :: vU (setI l x v)
      rw [← vU_set l x v]
def fitU (q : Int × Int) : Prop := (0 ≤ q.1 ∧ q.1 < 1024) ∧ 0 ≤ q.2 ∧ q.2 < 18446744073709551616
def okU (L : IL) : Prop := (∀ q ∈ L, fitU q) ∧ (L.map (·.1)).Nodup ∧ L.length ≤ 64
theorem okU_nil : okU [] := ⟨by simp, by simp, by simp⟩
theorem prU_vU (L : IL) : (encM (vU L)).map prU = L := by
  simp only [encM, vU, List.map_map]
  exact (List.map_congr_left fun q _ => rfl).trans (List.map_id _)
theorem filt_vU (now : Int) (L : IL) : ((encM (vU L)).filter fun p => onP now (prU p)) = encM (vU (L.filter (onP now))) := by
  simp only [encM, vU, List.map_map, List.filter_map]
  rfl
theorem isW64_n {n : Int} (h0 : 0 ≤ n) (h1 : n < 1024) : isW64 (.int .i64 n) = true := by
  have e1 : IntKind.i64.min = -9223372036854775808 := by decide
  have e2 : IntKind.i64.max = 9223372036854775807 := by decide
  unfold isW64
  simp only [Lit.wf, e1, e2, Bool.and_eq_true, decide_eq_true_eq]
  omega
theorem isWU_n {n : Int} (h0 : 0 ≤ n) (h1 : n < 18446744073709551616) : isWU (.int .u64 n) = true := by
  have e1 : IntKind.u64.min = 0 := by decide
  have e2 : IntKind.u64.max = 18446744073709551615 := by decide
  unfold isWU
  simp only [Lit.wf, e1, e2, Bool.and_eq_true, decide_eq_true_eq]
  omega
theorem okU.es {L : IL} (ok : okU L) : okEsU (encM (vU L)) = true := by
  have h1 := ok.2.2
  unfold okEsU
  simp only [Bool.and_eq_true, decide_eq_true_eq, List.all_eq_true]
  refine ⟨by simp [encM, vU]; unfold roomy; omega, fun p hp => ?_⟩
  simp only [encM, vU, List.map_map, List.mem_map, Function.comp] at hp
  obtain ⟨q, hq, rfl⟩ := hp
  obtain ⟨⟨a, b⟩, c, d⟩ := ok.1 q hq
  exact ⟨isW64_n a b, isWU_n c d⟩
theorem okU.filter {L : IL} (ok : okU L) (f : Int × Int → Bool) : okU (L.filter f) :=
  ⟨fun q hq => ok.1 q (List.mem_filter.1 hq).1, (List.filter_sublist.map _).nodup ok.2.1, Nat.le_trans (List.length_filter_le _ _) ok.2.2⟩
theorem getI_mem : ∀ {L : IL} {x v : Int}, getI L x = some v → (x, v) ∈ L
  | (k, w) :: l, x, v, h => by
    unfold getI at h
    split at h
    · rename_i e; subst e; cases h; exact List.mem_cons_self
    · exact List.mem_cons_of_mem _ (getI_mem h)
theorem getI_none_iff : ∀ {L : IL} {x : Int}, getI L x = none ↔ x ∉ L.map (·.1)
  | [], x => by simp [getI]
  | (k, w) :: l, x => by
    unfold getI
    split
    · rename_i e; subst e; simp
    · rename_i e; rw [getI_none_iff]; simp [e]
theorem okU.set {L : IL} (ok : okU L) {x v : Int} (hx : fitU (x, v)) (hl : ¬ (getI L x = none ∧ 64 ≤ L.length)) : okU (setI L x v) := by
  have hlen : (setI L x v).length = ((setI L x v).map (·.1)).length := by simp
  refine ⟨fun q hq => (setI_mem hq).elim (ok.1 q) (fun e => by rw [e]; exact hx), ?_, ?_⟩
  · rw [setI_keys]
    split
    · exact ok.2.1
    · rename_i h
      rw [List.nodup_append]
      exact ⟨ok.2.1, by simp, fun a ha b hb e => by simp at hb; subst hb; exact h (e ▸ ha)⟩
  · rw [hlen, setI_keys]
    split
    · simpa using ok.2.2
    · rename_i h
      rw [← getI_none_iff] at h
      have := ok.2.2
      simp only [List.length_append, List.length_map, List.length_cons, List.length_nil]
      have : ¬ 64 ≤ L.length := fun q => hl ⟨h, q⟩
      omega

/-- Bans in memory: where the map lies, if there is one. -/
def Bd (h : AHeap) (p : Nat) (mo : Option Nat) (L : IL) : Prop :=
  h.get p = some (.cells [.map mo] 58 false) ∧ h.low ≤ p ∧ mo ≠ some p ∧
    match mo with
    | none => L = []
    | some m => h.get m = some (.map (encM (vU L))) ∧ h.low ≤ m
theorem Bd.fr {S : Nat → Prop} {h h' : AHeap} {p : Nat} {mo : Option Nat} {L : IL} (x : Bd h p mo L) (fr : Fr S h h') (hS : ∀ id, own p mo id → ¬ S id) : Bd h' p mo L := by
  obtain ⟨g, hl, hne, hm⟩ := x
  refine ⟨fr.get g (hS p (.inl rfl)), by rw [fr.low]; exact hl, hne, ?_⟩
  cases mo with
  | none => exact hm
  | some m => exact ⟨fr.get hm.1 (hS m (.inr rfl)), by rw [fr.low]; exact hm.2⟩
theorem Bd.fr0 {h h' : AHeap} {p : Nat} {mo : Option Nat} {L : IL} (x : Bd h p mo L) (fr : Fr none' h h') : Bd h' p mo L := x.fr fr fun _ _ q => q
theorem Bd.lt {h : AHeap} {p : Nat} {mo : Option Nat} {L : IL} (x : Bd h p mo L) {id : Nat} (hi : own p mo id) : id < h.next := by
  obtain ⟨g, hl, hne, hm⟩ := x
  rcases hi with rfl | rfl
  · exact AM.get_some_lt g
  · exact AM.get_some_lt hm.1
/-- What a call leaves of bans. -/
def BdTo (h : AHeap) (p : Nat) (mo : Option Nat) (L : IL) (K : AHeap → Prop) : Prop :=
  ∀ h' mo', Bd h' p mo' L → Fr (own p mo) h h' → (∀ id, mo' = some id → mo = some id ∨ h.next ≤ id) → K h'

theorem next_w {h : AHeap} {p : Nat} {mo : Option Nat} {L : IL} {now : Int} (x : Bd h p mo L) (ok : okU L) {Q : VQ} (hq : Q (.tuple #[.int .u64 (nxtP (L.filter (onP now))).1, .bool (nxtP (L.filter (onP now))).2]) h) : W 36 [pv p, .int .u64 now] h Q := by
  obtain ⟨g, hl, hne, hm⟩ := x
  refine AM.callW_prim hp (p := pNext) (by unfold prims; rfl) ⟨0, ?_⟩ hq
  show pNext _ _ _ = _
  unfold pNext
  have hl' := hl
  cases mo with
  | none =>
    subst hm
    simp only [Array.toList_empty, List.nil_append, List.append_nil, pv, g]
    simp [hl', nxtP]
  | some m =>
    simp only [Array.toList_empty, List.nil_append, List.append_nil, pv, g]
    simp only [List.getElem?_cons_zero, hm.1, hl', ok.es, and_self, if_true, prU_vU]
def bannedL (now : Int) (L : IL) : List Int := ((L.filter (onP now)).map (·.1)).mergeSort Go.leI
theorem bannedL_len (now : Int) (L : IL) : (bannedL now L).length = (L.filter (onP now)).length := by simp [bannedL]
theorem banned_w {h : AHeap} {p : Nat} {mo : Option Nat} {L : IL} {now : Int} (x : Bd h p mo L) (ok : okU L) {Q : VQ}
    (hq : ∀ v h', Ow h' 3 1 v (bannedL now L).length ((bannedL now L).map (.int .i64)) → Fr none' h h' → (∀ id, idOf v id → h.next ≤ id) → Q v h') : W 33 [pv p, .int .u64 now] h Q := by
  obtain ⟨g, hl, hne, hm⟩ := x
  have hlow : h.low ≤ h.next := by have := AM.get_some_lt g; omega
  have key : ∃ v h', pBanned (callE Try.prog prims 0) [pv p, .int .u64 now] h = some (v, h') ∧ Q v h' := by
    unfold pBanned
    have hl' := hl
    rw [bannedL_len] at hq
    cases mo with
    | none =>
      subst hm
      refine ⟨.slice none 0 0, h, ?_, hq _ _ (by simpa [bannedL] using Ow.nil h 3 1) (Fr.refl _ _) (fun id q => q.elim)⟩
      simp only [pv, g]
      simp [hl']
    | some m =>
      by_cases h0 : (L.filter (onP now)).length = 0
      · have e0 := List.eq_nil_of_length_eq_zero h0
        refine ⟨.slice none 0 0, h, ?_, hq _ _ (by simpa [bannedL, e0] using Ow.nil h 3 1) (Fr.refl _ _) (fun id q => q.elim)⟩
        simp only [pv, g]
        simp only [List.getElem?_cons_zero, hm.1, hl', ok.es, and_self, if_true, prU_vU, h0]
      · refine ⟨sliceTo h.next 0 (L.filter (onP now)).length (L.filter (onP now)).length, h.alloc (.cells ((bannedL now L).map (.int .i64)) 3 true), ?_, hq _ _ ?_ ((Fr.refl _ _).alloc _) (fun id q => ?_)⟩
        · simp only [pv, g]
          simp only [List.getElem?_cons_zero, hm.1, hl', ok.es, and_self, if_true, prU_vU, h0, if_false, bannedL]
        · have hfl := bannedL_len now L
          refine .inr ⟨h.next, 0, (L.filter (onP now)).length, (bannedL now L).map (.int .i64), true, rfl, Nat.le_refl _, by rw [AHeap.get_alloc, if_pos rfl], by simp [hfl], by simp [List.take_of_length_le, hfl], hlow⟩
        · have q : id = h.next := q; omega
  obtain ⟨v, h', e1, e2⟩ := key
  exact AM.callW_prim hp (p := pBanned) (by unfold prims; rfl) ⟨0, e1⟩ e2

end Go.Proofs.Ytodcnfabnlojdaa

namespace Go.AM
variable {P : Program}
theorem len_enc {h : AHeap} {t k e : TypeId} (hu : P.underlying t = some (.map k e)) {id : Nat} {l : List (Int × Value)} (hg : h.get id = some (.map (encM l))) : aLen P h t (.map (some id)) = some (.int .i64 l.length) := by
  unfold aLen; rw [hu]; simp [hg, encM]
end Go.AM
namespace Go.Proofs.Ytodcnfabnlojdaa
open Go.AM
set_option maxRecDepth 8000
theorem b65_IY9 : type_of% (And.intro (@List.map_toArray.{0,0}) (And.intro (@AM.boxK_agg) (And.intro (@AM.boxK_bool) (And.intro (@AM.boxK_func) (And.intro (@AM.boxK_int) (And.intro (@AM.boxK_map) (And.intro (@AM.boxK_pointer) (And.intro (@AM.boxK_slice) (And.intro (@AM.boxK_string) (And.intro (@AM.op_box) (@AM.op_makeFunc))))))))))) := And.intro (@List.map_toArray.{0,0}) (And.intro (@AM.boxK_agg) (And.intro (@AM.boxK_bool) (And.intro (@AM.boxK_func) (And.intro (@AM.boxK_int) (And.intro (@AM.boxK_map) (And.intro (@AM.boxK_pointer) (And.intro (@AM.boxK_slice) (And.intro (@AM.boxK_string) (And.intro (@AM.op_box) (@AM.op_makeFunc))))))))))
theorem b29_IY9 : type_of% (And.intro (@Option.isNone_none.{0}) (And.intro (@Option.isNone_some.{0}) (And.intro (@AM.aMax_int) (And.intro (@AM.aMin_int) (And.intro (@AM.bin_add) (And.intro (@AM.bin_geq) (And.intro (@AM.bin_gtr) (And.intro (@AM.bin_lss) (And.intro (AM.bin_pnil ul_55) (And.intro (@AM.bin_sub) (And.intro (@AM.ex_tuple) (And.intro (@AM.fa_ptr) (And.intro (@fd_58_0) (And.intro (@AM.ldO_agg) (And.intro (@AM.ldO_one) (And.intro (@AM.ld_ptr) (And.intro (@lk_56) (And.intro (@AM.op_binOp) (And.intro (@AM.op_call) (And.intro (@AM.op_extract) (And.intro (@AM.op_fieldAddr) (And.intro (@AM.op_len) (And.intro (@AM.op_load) (And.intro (@AM.op_lookup) (And.intro (@AM.op_mapUpdate) (And.intro (@AM.op_max2) (And.intro (@AM.op_min2) (And.intro (@AM.op_nilCheck) (And.intro (@AM.op_store) (And.intro (@AM.op_unOp) (And.intro (@AM.stO_agg) (And.intro (@AM.stO_bool) (And.intro (@AM.stO_int) (And.intro (@AM.stO_map) (And.intro (@AM.stO_pointer) (And.intro (@AM.stO_slice) (And.intro (@AM.stO_string) (And.intro (@AM.st_ptr) (And.intro (@sz_56) (And.intro (@AM.un_neg) (@AM.un_not))))))))))))))))))))))))))))))))))))))))) := And.intro (@Option.isNone_none.{0}) (And.intro (@Option.isNone_some.{0}) (And.intro (@AM.aMax_int) (And.intro (@AM.aMin_int) (And.intro (@AM.bin_add) (And.intro (@AM.bin_geq) (And.intro (@AM.bin_gtr) (And.intro (@AM.bin_lss) (And.intro (AM.bin_pnil ul_55) (And.intro (@AM.bin_sub) (And.intro (@AM.ex_tuple) (And.intro (@AM.fa_ptr) (And.intro (@fd_58_0) (And.intro (@AM.ldO_agg) (And.intro (@AM.ldO_one) (And.intro (@AM.ld_ptr) (And.intro (@lk_56) (And.intro (@AM.op_binOp) (And.intro (@AM.op_call) (And.intro (@AM.op_extract) (And.intro (@AM.op_fieldAddr) (And.intro (@AM.op_len) (And.intro (@AM.op_load) (And.intro (@AM.op_lookup) (And.intro (@AM.op_mapUpdate) (And.intro (@AM.op_max2) (And.intro (@AM.op_min2) (And.intro (@AM.op_nilCheck) (And.intro (@AM.op_store) (And.intro (@AM.op_unOp) (And.intro (@AM.stO_agg) (And.intro (@AM.stO_bool) (And.intro (@AM.stO_int) (And.intro (@AM.stO_map) (And.intro (@AM.stO_pointer) (And.intro (@AM.stO_slice) (And.intro (@AM.stO_string) (And.intro (@AM.st_ptr) (And.intro (@sz_56) (And.intro (@AM.un_neg) (@AM.un_not))))))))))))))))))))))))))))))))))))))))


theorem vU_len (L : IL) : (vU L).length = L.length := by simp [vU]
theorem all_w {h : AHeap} {p : Nat} {now : Int} {Q : VQ} (hq : ∀ h2, h2.get h.next = some (.cells [pv p] 55 false) → h2.get (h.next + 1) = some (.cells [.int .u64 now] 29 false) → Fr none' h h2 → h2.next = h.next + 2 → h2.low = h.low →
    Q (.func (.func 76) #[] #[pv h.next, pv (h.next + 1)]) h2) : W 65 [pv p, .int .u64 now] h Q := by
  obtain ⟨h2, e2, ga, gb, fr2, n2, l2⟩ := two_new h [pv p] [.int .u64 now] 55 29
  refine AM.enter hp (fn := Try.f65) (rs := [.tmp 4]) (nt := 6) (by kernel_rfl) Try.func65 rfl rfl rfl (by kernel_rfl) ?_
  simp (maxSteps := 1000000) (disch := first | omega | (simp only [AM.DB, List.length_set, List.length_map]; first | done | omega)) only [AM.RB, Nat.reduceAdd, Nat.reduceMul, Nat.reduceEqDiff, reduceCtorEq, b65_IY9]
  rw [e2]
  exact hq h2 ga gb fr2 n2 l2
theorem collect_w {h : AHeap} {p a b : Nat} {mo : Option Nat} {L : IL} {now : Int} {ea eb : TypeId} (x : Bd h p mo L) (ok : okU L) (ga : h.get a = some (.cells [pv p] ea false)) (gb : h.get b = some (.cells [.int .u64 now] eb false)) (la : h.low ≤ a) (lb : h.low ≤ b) {Q : VQ}
    (hq : Q (.map (some h.next)) (h.alloc (.map (encM (vU (L.filter (onP now))))))) : W 64 [.func (.func 76) #[] #[pv a, pv b]] h Q := by
  obtain ⟨g, hl, hne, hm⟩ := x
  refine AM.callW_prim hp (p := pCollect) (by unfold prims; rfl) ⟨0, ?_⟩ hq
  show pCollect _ _ _ = _
  unfold pCollect
  cases mo with
  | none =>
    obtain rfl : L = [] := hm
    simp [pv, ga, gb, g, la, lb, hl, encM, vU]
  | some m =>
    simp only [Array.toList_empty, List.nil_append, List.append_nil, pv, ga, gb, g]
    simp only [List.getElem?_cons_zero, hm.1, hl, la, lb, ok.es, and_self, if_true, filt_vU]

/-- What Ban answers, and leaves. -/
def banP (now c t : Int) (L : IL) : Int × IL :=
  if ¬ (0 ≤ c ∧ c < 1024) then (2, L)
  else if getI (L.filter (onP now)) c = none ∧ 64 ≤ (L.filter (onP now)).length then (180, L.filter (onP now))
  else (0, if 0 < t then setI (L.filter (onP now)) c (max ((getI (L.filter (onP now)) c).getD 0) (now + min t (18446744073709551615 - now))) else L.filter (onP now))
theorem getI_fit {L : IL} (ok : okU L) (c : Int) : 0 ≤ (getI L c).getD 0 ∧ (getI L c).getD 0 < 18446744073709551616 := by
  cases hg : getI L c with
  | none => simp
  | some v => exact (ok.1 _ (getI_mem hg)).2
theorem banP_ok {L : IL} (ok : okU L) {now c t : Int} (hn : 0 ≤ now ∧ now < 18446744073709551616) (ht : 0 ≤ t) : okU (banP now c t L).2 := by
  unfold banP
  split
  · exact ok
  · rename_i hc
    split
    · exact ok.filter _
    · rename_i h
      simp only
      split
      · refine (ok.filter _).set ⟨by omega, ?_⟩ h
        have := getI_fit (ok.filter (onP now)) c
        simp only
        omega
      · exact ok.filter _

theorem ban_w {h : AHeap} {p : Nat} {mo : Option Nat} {L : IL} {now c t : Int} (x : Bd h p mo L) (ok : okU L) (hn : 0 ≤ now ∧ now < 18446744073709551616) (ht : 0 ≤ t ∧ t < 18446744073709551616) {Q : VQ}
    (hq : BdTo h p mo (banP now c t L).2 fun h' => Q (.int .i64 (banP now c t L).1) h') : W 29 [pv p, .int .u64 now, .int .i64 c, .int .u64 t] h Q := by
  have hlt0 := AM.get_some_lt x.1
  refine AM.enter hp (fn := Try.f29) (rs := [.tmp 8]) (nt := 67) (by kernel_rfl) Try.func29 rfl rfl rfl (by kernel_rfl) ?_
  by_cases c0 : c < 0
  · have d0 : decide (c < 0) = true := decide_eq_true c0
    (repeat' (first | (simp (maxSteps := 1000000) (disch := first | omega | (simp only [AM.DB, List.length_set, List.length_map]; first | done | omega)) only [AM.RB, Nat.reduceAdd, Nat.reduceMul, Nat.reduceEqDiff, reduceCtorEq, b29_IY9, d0]) | refine AM.drawW_fine hp (by kernel_rfl) (by kernel_rfl) (by kernel_rfl) ?_ | refine AM.opW_tied (by kernel_rfl) ?_ | refine AM.opW_untied (by kernel_rfl) ?_))
    rw [show banP now c t L = (2, L) by unfold banP; rw [if_pos (by omega)]] at hq
    exact hq _ mo x (Fr.refl _ _) (fun id e => .inl e)
  have d0 : decide (c < 0) = false := decide_eq_false c0
  by_cases c1 : 1024 ≤ c
  · have d1 : decide (1024 ≤ c) = true := decide_eq_true c1
    (repeat' (first | (simp (maxSteps := 1000000) (disch := first | omega | (simp only [AM.DB, List.length_set, List.length_map]; first | done | omega)) only [AM.RB, Nat.reduceAdd, Nat.reduceMul, Nat.reduceEqDiff, reduceCtorEq, b29_IY9, d0, d1]) | refine AM.drawW_fine hp (by kernel_rfl) (by kernel_rfl) (by kernel_rfl) ?_ | refine AM.opW_tied (by kernel_rfl) ?_ | refine AM.opW_untied (by kernel_rfl) ?_))
    rw [show banP now c t L = (2, L) by unfold banP; rw [if_pos (by omega)]] at hq
    exact hq _ mo x (Fr.refl _ _) (fun id e => .inl e)
  have d1 : decide (1024 ≤ c) = false := decide_eq_false c1
  (repeat' (first | (simp (maxSteps := 1000000) (disch := first | omega | (simp only [AM.DB, List.length_set, List.length_map]; first | done | omega)) only [AM.RB, Nat.reduceAdd, Nat.reduceMul, Nat.reduceEqDiff, reduceCtorEq, b29_IY9, d0, d1]) | refine AM.drawW_fine hp (by kernel_rfl) (by kernel_rfl) (by kernel_rfl) ?_ | refine AM.opW_tied (by kernel_rfl) ?_ | refine AM.opW_untied (by kernel_rfl) ?_))
  refine all_w fun h2 ga gb fr2 n2 l2 => ?_
  have x2 := x.fr0 fr2
  have lw := x.2.1
  (repeat' (first | (simp (maxSteps := 1000000) (disch := first | omega | (simp only [AM.DB, List.length_set, List.length_map]; first | done | omega)) only [AM.RB, Nat.reduceAdd, Nat.reduceMul, Nat.reduceEqDiff, reduceCtorEq, b29_IY9]) | refine AM.drawW_fine hp (by kernel_rfl) (by kernel_rfl) (by kernel_rfl) ?_ | refine AM.opW_tied (by kernel_rfl) ?_ | refine AM.opW_untied (by kernel_rfl) ?_))
  refine collect_w x2 ok ga gb (by omega) (by omega) ?_
  have g2 := x2.1
  have gn : (h2.alloc (.map (encM (vU (L.filter (onP now)))))).get p = some (.cells [.map mo] 58 false) := by rw [AM.get_alloc_ne (Nat.ne_of_lt (AM.get_some_lt g2))]; exact g2
  have gm := AM.get_alloc_self (h := h2) (o := .map (encM (vU (L.filter (onP now))))) rfl
  have hlp : (h2.alloc (.map (encM (vU (L.filter (onP now)))))).low ≤ p := by rw [AHeap.low_alloc]; omega
  have hlm : (h2.alloc (.map (encM (vU (L.filter (onP now)))))).low ≤ h2.next := by rw [AHeap.low_alloc]; omega
  have frm : Fr none' h (h2.alloc (.map (encM (vU (L.filter (onP now)))))) := fr2.alloc _
  have nxm : (h2.alloc (.map (encM (vU (L.filter (onP now)))))).next = h2.next + 1 := rfl
  generalize h2.alloc (.map (encM (vU (L.filter (onP now))))) = h3 at *
  have lt3 := AM.get_some_lt gn
  obtain ⟨h4, e4⟩ : ∃ h4, h3.put p (some (.cells [.map (some h2.next)] 58 false)) = h4 := ⟨_, rfl⟩
  obtain ⟨gp, fr4, n4, l4⟩ := AM.put_get e4 lt3
  have hne : h2.next ≠ p := by omega
  have gm4 := fr4.get gm hne
  have lm4 : h4.low ≤ h2.next := by omega
  have lp4 : h4.low ≤ p := by omega
  have okF := ok.filter (onP now)
  have hc0 : ¬ ¬ (0 ≤ c ∧ c < 1024) := by omega
  unfold banP at hq
  rw [if_neg hc0] at hq
  generalize L.filter (onP now) = P at *
  have fr04 : Fr (own p mo) h h4 := frm.weak.then fr4 fun id _ q => .inl q
  have e1 : ∀ z, ((getI P z).map (Value.int .u64)).getD (.int .u64 0) = .int .u64 ((getI P z).getD 0) := fun z => by cases getI P z <;> rfl
  have bnd := getI_fit okF c
  have b4 : Bd h4 p (some h2.next) P := ⟨gp, lp4, fun e => hne (by cases e; rfl), gm4, lm4⟩
  have nw : ∀ id, some h2.next = some id → mo = some id ∨ h.next ≤ id := fun id e => .inr (by cases e; omega)
  (repeat' (first | (simp (maxSteps := 1000000) (disch := first | omega | (simp only [AM.DB, List.length_set, List.length_map]; first | done | omega)) only [AM.RB, Nat.reduceAdd, Nat.reduceMul, Nat.reduceEqDiff, reduceCtorEq, b29_IY9, gn]) | refine AM.drawW_fine hp (by kernel_rfl) (by kernel_rfl) (by kernel_rfl) ?_ | refine AM.opW_tied (by kernel_rfl) ?_ | refine AM.opW_untied (by kernel_rfl) ?_))
  rw [e4]
  have is1 : ((getI P c).map (Value.int .u64)).isSome = (getI P c).isSome := by cases getI P c <;> rfl
  by_cases hf : getI P c = none ∧ 64 ≤ P.length
  · have di : (getI P c).isSome = false := by rw [hf.1]; rfl
    have dl : decide ((64 : Int) ≤ P.length) = true := decide_eq_true (by omega)
    rw [if_pos hf] at hq
    (repeat' (first | (simp (maxSteps := 1000000) (disch := first | omega | (simp only [AM.DB, List.length_set, List.length_map]; first | done | omega)) only [AM.RB, Nat.reduceAdd, Nat.reduceMul, Nat.reduceEqDiff, reduceCtorEq, b29_IY9, gp, AM.lookup_enc2 mp_56 gm4, vU_get, e1, is1, di, AM.len_enc ul_56 gm4, vU_len, dl]) | refine AM.drawW_fine hp (by kernel_rfl) (by kernel_rfl) (by kernel_rfl) ?_ | refine AM.opW_tied (by kernel_rfl) ?_ | refine AM.opW_untied (by kernel_rfl) ?_))
    exact hq _ _ b4 fr04 nw
  rw [if_neg hf] at hq
  have m0 := AM.lookup_enc2 mp_56 gm4 c
  rw [vU_get, e1, is1] at m0
  have m1 := AM.lookup_enc mp_56 gm4 c
  rw [vU_get, e1] at m1
  have w1 : IntKind.u64.wrap (18446744073709551615 - now) = 18446744073709551615 - now := AM.wrap_u64 (by omega) (by omega)
  have mn : (if 18446744073709551615 - now < t then 18446744073709551615 - now else t) = min t (18446744073709551615 - now) := by split <;> omega
  have w2 : IntKind.u64.wrap (now + min t (18446744073709551615 - now)) = now + min t (18446744073709551615 - now) := AM.wrap_u64 (by omega) (by omega)
  have lt4 := AM.get_some_lt gm4
  have fin : ∀ P' : IL, Bd (h4.put h2.next (some (.map (encM (vU P'))))) p (some h2.next) P' ∧ Fr (own p mo) h (h4.put h2.next (some (.map (encM (vU P'))))) := fun P' =>
    ⟨⟨by rw [AM.get_put_ne (fun e => hne e.symm)]; exact gp, lp4, b4.2.2.1, AM.get_put_self rfl lt4, lm4⟩, fr04.put _ (.inl (by omega))⟩
  cases his : (getI P c).isSome with
  | true =>
    rw [his] at m0
    by_cases t0 : 0 < t
    · have dt : decide (0 < t) = true := decide_eq_true t0
      rw [if_pos t0] at hq
      (repeat' (first | (simp (maxSteps := 1000000) (disch := first | omega | (simp only [AM.DB, List.length_set, List.length_map]; first | done | omega)) only [AM.RB, Nat.reduceAdd, Nat.reduceMul, Nat.reduceEqDiff, reduceCtorEq, b29_IY9, gp, m0, dt, m1, w1, mn, w2, AM.update_enc mp_56 gm4 lm4, vU_set]) | refine AM.drawW_fine hp (by kernel_rfl) (by kernel_rfl) (by kernel_rfl) ?_ | refine AM.opW_tied (by kernel_rfl) ?_ | refine AM.opW_untied (by kernel_rfl) ?_))
      exact hq _ _ (fin _).1 (fin _).2 nw
    · have dt : decide (0 < t) = false := decide_eq_false t0
      rw [if_neg t0] at hq
      (repeat' (first | (simp (maxSteps := 1000000) (disch := first | omega | (simp only [AM.DB, List.length_set, List.length_map]; first | done | omega)) only [AM.RB, Nat.reduceAdd, Nat.reduceMul, Nat.reduceEqDiff, reduceCtorEq, b29_IY9, gp, m0, dt]) | refine AM.drawW_fine hp (by kernel_rfl) (by kernel_rfl) (by kernel_rfl) ?_ | refine AM.opW_tied (by kernel_rfl) ?_ | refine AM.opW_untied (by kernel_rfl) ?_))
      exact hq _ _ b4 fr04 nw
  | false =>
    rw [his] at m0
    have hn0 : getI P c = none := Option.isNone_iff_eq_none.1 (by rw [← Option.not_isSome, his]; rfl)
    have dl : decide ((64 : Int) ≤ P.length) = false := decide_eq_false (fun q => hf ⟨hn0, by omega⟩)
    by_cases t0 : 0 < t
    · have dt : decide (0 < t) = true := decide_eq_true t0
      rw [if_pos t0] at hq
      (repeat' (first | (simp (maxSteps := 1000000) (disch := first | omega | (simp only [AM.DB, List.length_set, List.length_map]; first | done | omega)) only [AM.RB, Nat.reduceAdd, Nat.reduceMul, Nat.reduceEqDiff, reduceCtorEq, b29_IY9, gp, m0, AM.len_enc ul_56 gm4, vU_len, dl, dt, m1, w1, mn, w2, AM.update_enc mp_56 gm4 lm4, vU_set]) | refine AM.drawW_fine hp (by kernel_rfl) (by kernel_rfl) (by kernel_rfl) ?_ | refine AM.opW_tied (by kernel_rfl) ?_ | refine AM.opW_untied (by kernel_rfl) ?_))
      exact hq _ _ (fin _).1 (fin _).2 nw
    · have dt : decide (0 < t) = false := decide_eq_false t0
      rw [if_neg t0] at hq
      (repeat' (first | (simp (maxSteps := 1000000) (disch := first | omega | (simp only [AM.DB, List.length_set, List.length_map]; first | done | omega)) only [AM.RB, Nat.reduceAdd, Nat.reduceMul, Nat.reduceEqDiff, reduceCtorEq, b29_IY9, gp, m0, AM.len_enc ul_56 gm4, vU_len, dl, dt]) | refine AM.drawW_fine hp (by kernel_rfl) (by kernel_rfl) (by kernel_rfl) ?_ | refine AM.opW_tied (by kernel_rfl) ?_ | refine AM.opW_untied (by kernel_rfl) ?_))
      exact hq _ _ b4 fr04 nw
end Go.Proofs.Ytodcnfabnlojdaa

namespace Go.Proofs.Ytodcnfabnlojdaa
open Go.AM
set_option maxRecDepth 8000
theorem b38_IY10 : type_of% (And.intro (@AM.bin_add) (And.intro (@AM.bin_lss) (And.intro (@AM.bin_neq) (And.intro (@AM.iaO_ok) (And.intro (AM.ia_slice el_22) (And.intro (@AM.ldO_agg) (And.intro (@AM.ldO_one) (And.intro (@AM.ld_ptr) (And.intro (AM.len_slice ul_22) (And.intro (@lk_3) (And.intro (@AM.op_binOp) (And.intro (@AM.op_indexAddr) (And.intro (@AM.op_len) (@AM.op_load)))))))))))))) := And.intro (@AM.bin_add) (And.intro (@AM.bin_lss) (And.intro (@AM.bin_neq) (And.intro (@AM.iaO_ok) (And.intro (AM.ia_slice el_22) (And.intro (@AM.ldO_agg) (And.intro (@AM.ldO_one) (And.intro (@AM.ld_ptr) (And.intro (AM.len_slice ul_22) (And.intro (@lk_3) (And.intro (@AM.op_binOp) (And.intro (@AM.op_indexAddr) (And.intro (@AM.op_len) (@AM.op_load)))))))))))))
theorem b22_IY10 : type_of% (And.intro (@AM.alK_some) (And.intro (@al_58) (And.intro (@AM.bin_eql) (And.intro (AM.bsW_int bs_22) (And.intro (AM.bsW_int2 bs_22) (And.intro (AM.bsW_nil bs_22) (And.intro (AM.bsW_slice bs_22) (And.intro (AM.bsW_string bs_22) (And.intro (@AM.ex_tuple) (And.intro (@AM.op_alloc) (And.intro (@AM.op_binOp) (And.intro (@AM.op_buildSlice) (And.intro (@AM.op_call) (@AM.op_extract)))))))))))))) := And.intro (@AM.alK_some) (And.intro (@al_58) (And.intro (@AM.bin_eql) (And.intro (AM.bsW_int bs_22) (And.intro (AM.bsW_int2 bs_22) (And.intro (AM.bsW_nil bs_22) (And.intro (AM.bsW_slice bs_22) (And.intro (AM.bsW_string bs_22) (And.intro (@AM.ex_tuple) (And.intro (@AM.op_alloc) (And.intro (@AM.op_binOp) (And.intro (@AM.op_buildSlice) (And.intro (@AM.op_call) (@AM.op_extract)))))))))))))


theorem sameY_w {sa sb : Value} {na nb : Nat} {la lb : List Int} {h : AHeap} (ha : Rd h 3 1 sa na (la.map (.int .i64))) (hb : Rd h 3 1 sb nb (lb.map (.int .i64))) (hn : na ≤ 4000000000) {Q : VQ}
    (hq : Q (.bool (decide (la = lb))) h) : W 38 [sa, sb] h Q := by
  obtain ⟨aa, ca, rfl⟩ := ha.form
  obtain ⟨ab, cb, rfl⟩ := hb.form
  have hla : la.length = na := by simpa using ha.length
  have hlb : lb.length = nb := by simpa using hb.length
  refine AM.enter hp (fn := Try.f38) (rs := [.tmp 4]) (nt := 26) (by kernel_rfl) Try.func38 rfl rfl rfl (by kernel_rfl) ?_
  simp (maxSteps := 1000000) (disch := first | omega | (simp only [AM.DB, List.length_set, List.length_map]; first | done | omega)) only [AM.RB, Nat.reduceAdd, Nat.reduceMul, Nat.reduceEqDiff, reduceCtorEq, b38_IY10]
  refine AM.condV_split (fun he => ?_) (fun he => ?_)
  case' refine_2 =>
    simp (maxSteps := 1000000) (disch := first | omega | (simp only [AM.DB, List.length_set, List.length_map]; first | done | omega)) only [AM.RB, Nat.reduceAdd, Nat.reduceMul, Nat.reduceEqDiff, reduceCtorEq, b38_IY10]
    have : decide (la = lb) = false := by
      rw [decide_eq_false_iff_not]; rintro rfl; omega
    rw [this] at hq; exact hq
  have he' : na = nb := by omega
  subst he'
  simp (maxSteps := 1000000) (disch := first | omega | (simp only [AM.DB, List.length_set, List.length_map]; first | done | omega)) only [AM.RB, Nat.reduceAdd, Nat.reduceMul, Nat.reduceEqDiff, reduceCtorEq, b38_IY10]
  refine AM.loop_w hp 26 (fun i : Nat => [(0, .slice aa na ca), (1, .slice ab na cb), (12, .int .i64 na), (13, .int .i64 i)])
    (fun i h' => i ≤ na ∧ h' = h ∧ ∀ j, j < i → la.getD j 0 = lb.getD j 0) (fun i => na - i) (by kernel_rfl) 0 ?_ ?_ ?_
  · simp (maxSteps := 1000000) (disch := first | omega | (simp only [AM.DB, List.length_set, List.length_map]; first | done | omega)) only [AM.RB, Nat.reduceAdd, Nat.reduceMul, Nat.reduceEqDiff, reduceCtorEq, b38_IY10]
  · exact ⟨Nat.zero_le _, rfl, fun j hj => by omega⟩
  · rintro i h1 ρ ⟨hi, rfl, hall⟩
    simp (maxSteps := 1000000) (disch := first | omega | (simp only [AM.DB, List.length_set, List.length_map]; first | done | omega)) only [AM.RB, Nat.reduceAdd, Nat.reduceMul, Nat.reduceEqDiff, reduceCtorEq, b38_IY10]
    refine AM.condV_split (fun hlt => ?_) (fun hlt => ?_)
    · simp (maxSteps := 1000000) (disch := first | omega | (simp only [AM.DB, List.length_set, List.length_map]; first | done | omega)) only [AM.RB, Nat.reduceAdd, Nat.reduceMul, Nat.reduceEqDiff, reduceCtorEq, b38_IY10]
      refine AM.drawW_fine hp (by kernel_rfl) (by kernel_rfl) (by kernel_rfl) ?_
      simp (maxSteps := 1000000) (disch := first | omega | (simp only [AM.DB, List.length_set, List.length_map]; first | done | omega)) only [AM.RB, Nat.reduceAdd, Nat.reduceMul, Nat.reduceEqDiff, reduceCtorEq, b38_IY10, ha.ia el_22, ha.ldi lk_3, hb.ia el_22, hb.ldi lk_3]
      refine AM.condV_split (fun heq => ?_) (fun heq => ?_)
      · simp (maxSteps := 1000000) (disch := first | omega | (simp only [AM.DB, List.length_set, List.length_map]; first | done | omega)) only [AM.RB, Nat.reduceAdd, Nat.reduceMul, Nat.reduceEqDiff, reduceCtorEq, b38_IY10, AM.wrap_i64]
        refine ⟨i + 1, by omega, ?_, by omega, fun j hj => ?_⟩
        · simp (maxSteps := 1000000) (disch := first | omega | (simp only [AM.DB, List.length_set, List.length_map]; first | done | omega)) only [AM.RB, Nat.reduceAdd, Nat.reduceMul, Nat.reduceEqDiff, reduceCtorEq, b38_IY10]
        · by_cases e : j = i
          · subst e; simpa using heq
          · exact hall j (by omega)
      · simp (maxSteps := 1000000) (disch := first | omega | (simp only [AM.DB, List.length_set, List.length_map]; first | done | omega)) only [AM.RB, Nat.reduceAdd, Nat.reduceMul, Nat.reduceEqDiff, reduceCtorEq, b38_IY10]
        have : decide (la = lb) = false := by
          rw [decide_eq_false_iff_not]; rintro rfl; exact heq rfl
        rw [this] at hq; exact hq
    · simp (maxSteps := 1000000) (disch := first | omega | (simp only [AM.DB, List.length_set, List.length_map]; first | done | omega)) only [AM.RB, Nat.reduceAdd, Nat.reduceMul, Nat.reduceEqDiff, reduceCtorEq, b38_IY10]
      have : decide (la = lb) = true := by
        rw [decide_eq_true_iff]
        refine List.ext_getElem (by omega) fun j h2 h3 => ?_
        have := hall j (by omega)
        simpa [List.getD, h2, h3] using this
      rw [this] at hq; exact hq

/-- Bans made since h0. -/
def Bz (h0 h : AHeap) (p : Nat) (mo : Option Nat) (L : IL) : Prop := Bd h p mo L ∧ Fr none' h0 h ∧ ∀ id, own p mo id → h0.next ≤ id
theorem Bz.step {h0 h : AHeap} {p : Nat} {mo : Option Nat} {L L' : IL} (x : Bz h0 h p mo L) {K : AHeap → Prop} (k : ∀ h' mo', Bz h0 h' p mo' L' → K h') : BdTo h p mo L' K :=
  fun h' mo' x' fr' hm => k h' mo' ⟨x', x.2.1.fresh fr' x.2.2, fun id q => q.elim (fun e => x.2.2 id (.inl e)) fun e => (hm id e).elim (fun e' => x.2.2 id (.inr e')) (fun e' => Nat.le_trans x.2.1.next e')⟩
theorem Bz.fr0 {h0 h h' : AHeap} {p : Nat} {mo : Option Nat} {L : IL} (x : Bz h0 h p mo L) (fr : Fr none' h h') : Bz h0 h' p mo L := ⟨x.1.fr0 fr, x.2.1.trans fr, x.2.2⟩
theorem Bz.new (h : AHeap) (hl : h.low ≤ h.next) : Bz h (h.alloc (.cells [.map none] 58 false)) h.next none [] :=
  ⟨⟨AM.get_alloc_self rfl, hl, by simp, rfl⟩, (Fr.refl _ _).alloc _, fun id q => q.elim (fun e => by omega) (fun e => by cases e)⟩

theorem banned37 : bannedL 12 [(7, 15), (3, 13)] = [3, 7] := by
  have h1 : bannedL 12 [(7, 15), (3, 13)] = bannedL 12 [(3, 13), (7, 15)] := Go.mergeSort_of_perm_i (List.Perm.swap _ _ _)
  rw [h1]
  exact List.mergeSort_of_pairwise (by simp)
theorem banned7 : bannedL 13 [(7, 15), (3, 13)] = [7] := List.mergeSort_of_pairwise (by simp)

/-- The chapter's first examples. -/
theorem aliveY_w {h : AHeap} (hl : h.low ≤ h.next) {Q : VQ} (hq : ∀ h', Fr none' h h' → Q (.bool true) h') : W 22 [] h Q := by
  refine AM.enter hp (fn := Try.f22) (rs := [.tmp 0]) (nt := 55) (by kernel_rfl) Try.func22 rfl rfl rfl (by kernel_rfl) ?_
  simp (maxSteps := 1000000) (disch := first | omega | (simp only [AM.DB, List.length_set, List.length_map]; first | done | omega)) only [AM.RB, Nat.reduceAdd, Nat.reduceMul, Nat.reduceEqDiff, reduceCtorEq, b22_IY10]
  have x0 := Bz.new h hl
  generalize h.alloc (.cells [.map none] 58 false) = h1 at x0
  have e1 : banP 10 7 5 [] = (0, [(7, 15)]) := by decide
  have e2 : banP 12 3 1 [(7, 15)] = (0, [(7, 15), (3, 13)]) := by decide
  have ok1 : okU [(7, 15)] := by have := banP_ok okU_nil (now := 10) (c := 7) (t := 5) (by omega) (by omega); rwa [e1] at this
  have ok2 : okU [(7, 15), (3, 13)] := by have := banP_ok ok1 (now := 12) (c := 3) (t := 1) (by omega) (by omega); rwa [e2] at this
  refine ban_w x0.1 okU_nil (by omega) (by omega) (x0.step fun h2 m2 x2 => ?_)
  rw [e1] at x2 ⊢
  (first | (simp (maxSteps := 1000000) (disch := first | omega | (simp only [AM.DB, List.length_set, List.length_map]; first | done | omega)) only [AM.RB, Nat.reduceAdd, Nat.reduceMul, Nat.reduceEqDiff, reduceCtorEq, b22_IY10]) | skip)
  refine ban_w x2.1 ok1 (by omega) (by omega) (x2.step fun h3 m3 x3 => ?_)
  rw [e2] at x3 ⊢
  (first | (simp (maxSteps := 1000000) (disch := first | omega | (simp only [AM.DB, List.length_set, List.length_map]; first | done | omega)) only [AM.RB, Nat.reduceAdd, Nat.reduceMul, Nat.reduceEqDiff, reduceCtorEq, b22_IY10]) | skip)
  refine next_w x3.1 ok2 ?_
  have e3 : nxtP ([((7 : Int), (15 : Int)), (3, 13)].filter (onP 12)) = (13, true) := by decide
  rw [e3]
  (first | (simp (maxSteps := 1000000) (disch := first | omega | (simp only [AM.DB, List.length_set, List.length_map]; first | done | omega)) only [AM.RB, Nat.reduceAdd, Nat.reduceMul, Nat.reduceEqDiff, reduceCtorEq, b22_IY10]) | skip)
  refine span_w _ _ _ ?_
  rw [show spanI 0 = 4 by decide]
  (first | (simp (maxSteps := 1000000) (disch := first | omega | (simp only [AM.DB, List.length_set, List.length_map]; first | done | omega)) only [AM.RB, Nat.reduceAdd, Nat.reduceMul, Nat.reduceEqDiff, reduceCtorEq, b22_IY10]) | skip)
  refine span_w _ _ _ ?_
  rw [show spanI 3 = 32 by decide]
  (first | (simp (maxSteps := 1000000) (disch := first | omega | (simp only [AM.DB, List.length_set, List.length_map]; first | done | omega)) only [AM.RB, Nat.reduceAdd, Nat.reduceMul, Nat.reduceEqDiff, reduceCtorEq, b22_IY10]) | skip)
  refine span_w _ _ _ ?_
  rw [show spanI 99 = 256 by decide]
  (first | (simp (maxSteps := 1000000) (disch := first | omega | (simp only [AM.DB, List.length_set, List.length_map]; first | done | omega)) only [AM.RB, Nat.reduceAdd, Nat.reduceMul, Nat.reduceEqDiff, reduceCtorEq, b22_IY10]) | skip)
  refine span_w _ _ _ ?_
  rw [show spanI (-1) = 4 by decide]
  (first | (simp (maxSteps := 1000000) (disch := first | omega | (simp only [AM.DB, List.length_set, List.length_map]; first | done | omega)) only [AM.RB, Nat.reduceAdd, Nat.reduceMul, Nat.reduceEqDiff, reduceCtorEq, b22_IY10]) | skip)
  refine backoff_w _ _ (by omega) _ _ ?_
  rw [show IntKind.u64.wrap (spanI 1 + Int.tmod 21 (spanI 1)) = 13 by decide]
  (first | (simp (maxSteps := 1000000) (disch := first | omega | (simp only [AM.DB, List.length_set, List.length_map]; first | done | omega)) only [AM.RB, Nat.reduceAdd, Nat.reduceMul, Nat.reduceEqDiff, reduceCtorEq, b22_IY10]) | skip)
  refine banned_w x3.1 ok2 fun v h5 ow fr5 _ => ?_
  rw [banned37] at ow
  have x5 := x3.fr0 fr5
  (first | (simp (maxSteps := 1000000) (disch := first | omega | (simp only [AM.DB, List.length_set, List.length_map]; first | done | omega)) only [AM.RB, Nat.reduceAdd, Nat.reduceMul, Nat.reduceEqDiff, reduceCtorEq, b22_IY10]) | skip)
  generalize hE_ : h5.alloc (.cells [.int .i64 3, .int .i64 7] 3 false) = h6
  have fr6 : Fr none' h5 h6 := by rw [← hE_]; exact (Fr.refl _ _).alloc _
  have g6 : h6.get h5.next = some (.cells [.int .i64 3, .int .i64 7] 3 false) := by rw [← hE_]; exact AM.get_alloc_self rfl
  refine sameY_w (la := [3, 7]) (lb := [3, 7]) (ow.rd.fr0 fr6) (.inr ⟨h5.next, 0, 2, _, _, false, rfl, Nat.le_refl _, g6, by simp, rfl, .inr rfl⟩) (by decide) ?_
  clear hE_
  have x6 := x5.fr0 fr6
  (first | (simp (maxSteps := 1000000) (disch := first | omega | (simp only [AM.DB, List.length_set, List.length_map]; first | done | omega)) only [AM.RB, Nat.reduceAdd, Nat.reduceMul, Nat.reduceEqDiff, reduceCtorEq, b22_IY10]) | skip)
  refine banned_w x6.1 ok2 fun v h7 ow fr7 _ => ?_
  rw [banned7] at ow
  have x7 := x6.fr0 fr7
  (first | (simp (maxSteps := 1000000) (disch := first | omega | (simp only [AM.DB, List.length_set, List.length_map]; first | done | omega)) only [AM.RB, Nat.reduceAdd, Nat.reduceMul, Nat.reduceEqDiff, reduceCtorEq, b22_IY10]) | skip)
  generalize hE_ : h7.alloc (.cells [.int .i64 7] 3 false) = h8
  have fr8 : Fr none' h7 h8 := by rw [← hE_]; exact (Fr.refl _ _).alloc _
  have g8 : h8.get h7.next = some (.cells [.int .i64 7] 3 false) := by rw [← hE_]; exact AM.get_alloc_self rfl
  refine sameY_w (la := [7]) (lb := [7]) (ow.rd.fr0 fr8) (.inr ⟨h7.next, 0, 1, _, _, false, rfl, Nat.le_refl _, g8, by simp, rfl, .inr rfl⟩) (by decide) ?_
  (first | (simp (maxSteps := 1000000) (disch := first | omega | (simp only [AM.DB, List.length_set, List.length_map]; first | done | omega)) only [AM.RB, Nat.reduceAdd, Nat.reduceMul, Nat.reduceEqDiff, reduceCtorEq, b22_IY10]) | skip)
  exact hq _ (x7.2.1.trans fr8)
end Go.Proofs.Ytodcnfabnlojdaa

namespace Go.Proofs.Ytodcnfabnlojdaa
open Go.AM
set_option maxRecDepth 8000
theorem b11_IY12 : type_of% (And.intro (@AM.alK_some) (And.intro (@al_33) (And.intro (@AM.andO_some) (And.intro (@AM.bin_add) (And.intro (AM.bin_agg_eql se_33) (And.intro (AM.bin_bne ul_4) (And.intro (@AM.bin_eql) (And.intro (@AM.bin_gtr) (And.intro (@AM.bin_lss) (And.intro (@AM.eqL_cons) (And.intro (@AM.eqL_nil) (And.intro (@AM.eqS_bool) (And.intro (@AM.eqS_int) (And.intro (@AM.eqS_string) (And.intro (@AM.ex_tuple) (And.intro (@AM.fa_ptr) (And.intro (@fd_33_1) (And.intro (@fd_33_2) (And.intro (@AM.iaO_ok) (And.intro (AM.ia_slice el_30) (And.intro (@AM.ldO_agg) (And.intro (@AM.ldO_one) (And.intro (@AM.ld_ptr) (And.intro (AM.len_slice ul_30) (And.intro (@lk_29) (And.intro (@lk_3) (And.intro (@lk_33) (And.intro (@AM.op_alloc) (And.intro (@AM.op_binOp) (And.intro (@AM.op_call) (And.intro (@AM.op_extract) (And.intro (@AM.op_fieldAddr) (And.intro (@AM.op_indexAddr) (And.intro (@AM.op_len) (And.intro (@AM.op_load) (And.intro (@AM.op_store) (And.intro (@AM.op_unOp) (And.intro (@AM.stO_agg) (And.intro (@AM.stO_bool) (And.intro (@AM.stO_int) (And.intro (@AM.stO_map) (And.intro (@AM.stO_pointer) (And.intro (@AM.stO_slice) (And.intro (@AM.stO_string) (And.intro (@AM.st_ptr) (And.intro (@sz_33) (And.intro (@AM.un_neg) (@AM.un_not)))))))))))))))))))))))))))))))))))))))))))))))) := And.intro (@AM.alK_some) (And.intro (@al_33) (And.intro (@AM.andO_some) (And.intro (@AM.bin_add) (And.intro (AM.bin_agg_eql se_33) (And.intro (AM.bin_bne ul_4) (And.intro (@AM.bin_eql) (And.intro (@AM.bin_gtr) (And.intro (@AM.bin_lss) (And.intro (@AM.eqL_cons) (And.intro (@AM.eqL_nil) (And.intro (@AM.eqS_bool) (And.intro (@AM.eqS_int) (And.intro (@AM.eqS_string) (And.intro (@AM.ex_tuple) (And.intro (@AM.fa_ptr) (And.intro (@fd_33_1) (And.intro (@fd_33_2) (And.intro (@AM.iaO_ok) (And.intro (AM.ia_slice el_30) (And.intro (@AM.ldO_agg) (And.intro (@AM.ldO_one) (And.intro (@AM.ld_ptr) (And.intro (AM.len_slice ul_30) (And.intro (@lk_29) (And.intro (@lk_3) (And.intro (@lk_33) (And.intro (@AM.op_alloc) (And.intro (@AM.op_binOp) (And.intro (@AM.op_call) (And.intro (@AM.op_extract) (And.intro (@AM.op_fieldAddr) (And.intro (@AM.op_indexAddr) (And.intro (@AM.op_len) (And.intro (@AM.op_load) (And.intro (@AM.op_store) (And.intro (@AM.op_unOp) (And.intro (@AM.stO_agg) (And.intro (@AM.stO_bool) (And.intro (@AM.stO_int) (And.intro (@AM.stO_map) (And.intro (@AM.stO_pointer) (And.intro (@AM.stO_slice) (And.intro (@AM.stO_string) (And.intro (@AM.st_ptr) (And.intro (@sz_33) (And.intro (@AM.un_neg) (@AM.un_not)))))))))))))))))))))))))))))))))))))))))))))))


theorem cmp_irr (a : Wt) : ¬ cmpW a a < 0 := by rw [cmp_lt]; omega
theorem cmp_trans {a b c : Wt} (h1 : cmpW a b < 0) (h2 : ¬ cmpW c b < 0) : ¬ cmpW c a < 0 := by
  rw [cmp_lt] at *; omega
theorem mn_mem (l : List Wt) : ∀ k, ∃ j, j ≤ k ∧ mnW cmpW l k = l.getD j (0, 0, 0)
  | 0 => ⟨0, Nat.le_refl _, rfl⟩
  | k + 1 => by
    obtain ⟨j, h1, h2⟩ := mn_mem l k
    unfold mnW
    split
    · exact ⟨k + 1, Nat.le_refl _, rfl⟩
    · exact ⟨j, by omega, h2⟩
theorem mn_least (l : List Wt) : ∀ k j, j ≤ k → ¬ cmpW (l.getD j (0, 0, 0)) (mnW cmpW l k) < 0
  | 0, j, h => by obtain rfl : j = 0 := by omega
                  exact cmp_irr _
  | k + 1, j, h => by
    unfold mnW
    split
    · rename_i hc
      by_cases e : j = k + 1
      · subst e; exact cmp_irr _
      · exact cmp_trans hc (mn_least l k j (by omega))
    · rename_i hc
      by_cases e : j = k + 1
      · subst e; exact hc
      · exact mn_least l k j (by omega)
/-- Is one among the first? -/
def fndW (m : Wt) (l : List Wt) : Nat → Bool
  | 0 => false
  | i + 1 => fndW m l i || decide (l.getD i (0, 0, 0) = m)
theorem fnd_mono (m : Wt) (l : List Wt) : ∀ {i j : Nat}, j < i → l.getD j (0, 0, 0) = m → fndW m l i = true
  | i + 1, j, h, e => by
    unfold fndW
    by_cases q : j = i
    · subst q; rw [decide_eq_true e, Bool.or_true]
    · rw [fnd_mono m l (show j < i by omega) e]; rfl
theorem wt_eq (a b : Wt) : (a.1 == b.1 && (a.2.1 == b.2.1 && a.2.2 == b.2.2)) = decide (a = b) := by
  obtain ⟨a1, a2, a3⟩ := a
  obtain ⟨b1, b2, b3⟩ := b
  by_cases h : (a1, a2, a3) = (b1, b2, b3)
  · rw [decide_eq_true h]; cases h; simp
  · rw [decide_eq_false h]
    simp only [Prod.mk.injEq] at h
    simp only [Bool.and_eq_false_iff, beq_eq_false_iff_ne, ne_eq]
    by_cases h1 : a1 = b1 <;> by_cases h2 : a2 = b2 <;> by_cases h3 : a3 = b3 <;> simp_all

theorem firstLaw_w {s : Value} {n : Nat} {l : List Wt} {h : AHeap} (hs : Rd h 33 3 s n (l.flatMap encW)) (hln : l.length = n) (hl : h.low ≤ h.next) :
    W 11 [s] h fun v _ => v = .bool true := by
  obtain ⟨a, cap, rfl⟩ := hs.form
  refine AM.enter hp (fn := Try.f11) (rs := [.tmp 2]) (nt := 76) (by kernel_rfl) Try.func11 rfl rfl rfl (by kernel_rfl) ?_
  simp (maxSteps := 1000000) (disch := first | omega | (simp only [AM.DB, List.length_set, List.length_map]; first | done | omega)) only [AM.RB, Nat.reduceAdd, Nat.reduceMul, Nat.reduceEqDiff, reduceCtorEq, b11_IY12]
  refine aliveY_w hl fun h0 fr0 => ?_
  have hl0 := fr0.hl hl
  have hs0 := hs.fr0 fr0
  by_cases h100 : (100 : Int) < n
  · have d0 := decide_eq_true h100
    (repeat' (first | (simp (maxSteps := 1000000) (disch := first | omega | (simp only [AM.DB, List.length_set, List.length_map]; first | done | omega)) only [AM.RB, Nat.reduceAdd, Nat.reduceMul, Nat.reduceEqDiff, reduceCtorEq, b11_IY12, d0]) | refine AM.drawW_fine hp (by kernel_rfl) (by kernel_rfl) (by kernel_rfl) ?_ | refine AM.opW_tied (by kernel_rfl) ?_ | refine AM.opW_untied (by kernel_rfl) ?_))
  have d0 := decide_eq_false h100
  have hn : n ≤ 4000000000 := by omega
  (repeat' (first | (simp (maxSteps := 1000000) (disch := first | omega | (simp only [AM.DB, List.length_set, List.length_map]; first | done | omega)) only [AM.RB, Nat.reduceAdd, Nat.reduceMul, Nat.reduceEqDiff, reduceCtorEq, b11_IY12, d0]) | refine AM.drawW_fine hp (by kernel_rfl) (by kernel_rfl) (by kernel_rfl) ?_ | refine AM.opW_tied (by kernel_rfl) ?_ | refine AM.opW_untied (by kernel_rfl) ?_))
  refine first_w hs0 hln hn hl0 fun h1 fr1 => ?_
  have hl1 := fr1.hl hl0
  generalize hm : (if n = 0 then (0, 0, 0) else mnW cmpW l (n - 1)) = m
  (repeat' (first | (simp (maxSteps := 1000000) (disch := first | omega | (simp only [AM.DB, List.length_set, List.length_map]; first | done | omega)) only [AM.RB, Nat.reduceAdd, Nat.reduceMul, Nat.reduceEqDiff, reduceCtorEq, b11_IY12, encW]) | refine AM.drawW_fine hp (by kernel_rfl) (by kernel_rfl) (by kernel_rfl) ?_ | refine AM.opW_tied (by kernel_rfl) ?_ | refine AM.opW_untied (by kernel_rfl) ?_))
  generalize hE_ : AHeap.put (AHeap.alloc h1 _) _ _ = h2
  obtain ⟨g2, fr2, n2, l2⟩ := AM.box_get hE_ (by omega)
  clear hE_
  have hs2 := (hs0.fr0 fr1).fr0 fr2
  have gm : h2.get h1.next = some (.cells (encW m) 33 false) := by simpa [encW] using g2
  have dn : decide ((0 : Int) < n) = decide (0 < n) := by simp
  rw [dn, decide_eq_true (show decide (0 < n) = decide (0 < n) from rfl)]
  simp (maxSteps := 1000000) (disch := first | omega | (simp only [AM.DB, List.length_set, List.length_map]; first | done | omega)) only [AM.RB, Nat.reduceAdd, Nat.reduceMul, Nat.reduceEqDiff, reduceCtorEq, b11_IY12]
  have hlow2 : h2.low ≤ h2.next := fr2.hl hl1
  refine AM.loop_w hp 76 (fun i : Nat => [(0, .slice a n cap), (3, .bool true), (4, pv h1.next), (6, .bool (!decide (0 < n) || fndW m l i)), (30, .int .i64 n), (31, .int .i64 i)])
    (fun i h' => h' = h2 ∧ i ≤ n) (fun i => n - i) (by kernel_rfl) 0 ?_ ?_ ?_
  · simp (maxSteps := 1000000) (disch := first | omega | (simp only [AM.DB, List.length_set, List.length_map]; first | done | omega)) only [AM.RB, Nat.reduceAdd, Nat.reduceMul, Nat.reduceEqDiff, reduceCtorEq, b11_IY12]
    simp [fndW]
  · exact ⟨rfl, Nat.zero_le _⟩
  rintro i hh ρ ⟨rfl, hi⟩
  simp (maxSteps := 1000000) (disch := first | omega | (simp only [AM.DB, List.length_set, List.length_map]; first | done | omega)) only [AM.RB, Nat.reduceAdd, Nat.reduceMul, Nat.reduceEqDiff, reduceCtorEq, b11_IY12]
  refine AM.condV_split (fun hlt => ?_) (fun hlt => ?_)
  · have hin : i < n := by omega
    have d0n : decide (0 < n) = true := decide_eq_true (by omega)
    rw [if_neg (by omega)] at hm
    have hle := mn_least l (n - 1) i (by omega)
    rw [hm, cmp_lt] at hle
    have hstep : fndW m l (i + 1) = (fndW m l i || decide (l.getD i (0, 0, 0) = m)) := rfl
    generalize hx : l.getD i (0, 0, 0) = x at *
    have hxw := wt_eq x m
    rw [d0n]
    simp only [Bool.not_true, Bool.false_or]
    have p1 : decide (x.2.2 < m.2.2) = false := decide_eq_false (by omega)
    by_cases hpe : x.2.2 = m.2.2
    · have p2 : decide (x.2.2 = m.2.2) = true := decide_eq_true hpe
      have p3 : decide (m.2.1 < x.2.1) = false := decide_eq_false (by omega)
      cases hf : fndW m l i with
      | true =>
        (repeat' (first | (simp (maxSteps := 1000000) (disch := first | omega | (simp only [AM.DB, List.length_set, List.length_map]; first | done | omega)) only [AM.RB, Nat.reduceAdd, Nat.reduceMul, Nat.reduceEqDiff, reduceCtorEq, b11_IY12, hf, hs2.ia el_30, hs2.fa fd_33_1, hs2.fa fd_33_2, hs2.lds encW_len lk_33 hln (0, 0, 0), hs2.ldsF encW_len lk_3 hln (0, 0, 0), hs2.ldsF encW_len lk_29 hln (0, 0, 0), Int.toNat_natCast, hx, gm, encW, p1, p2, p3, AM.wrap_i64]) | refine AM.drawW_fine hp (by kernel_rfl) (by kernel_rfl) (by kernel_rfl) ?_ | refine AM.opW_tied (by kernel_rfl) ?_ | refine AM.opW_untied (by kernel_rfl) ?_))
        refine ⟨i + 1, by omega, ?_, by omega⟩
        rw [hstep, hf]
        simp (maxSteps := 1000000) (disch := first | omega | (simp only [AM.DB, List.length_set, List.length_map]; first | done | omega)) only [AM.RB, Nat.reduceAdd, Nat.reduceMul, Nat.reduceEqDiff, reduceCtorEq, b11_IY12]
        first | rfl | skip
      | false =>
        (repeat' (first | (simp (maxSteps := 1000000) (disch := first | omega | (simp only [AM.DB, List.length_set, List.length_map]; first | done | omega)) only [AM.RB, Nat.reduceAdd, Nat.reduceMul, Nat.reduceEqDiff, reduceCtorEq, b11_IY12, hf, hs2.ia el_30, hs2.fa fd_33_1, hs2.fa fd_33_2, hs2.lds encW_len lk_33 hln (0, 0, 0), hs2.ldsF encW_len lk_3 hln (0, 0, 0), hs2.ldsF encW_len lk_29 hln (0, 0, 0), Int.toNat_natCast, hx, gm, encW, p1, p2, p3, AM.wrap_i64]) | refine AM.drawW_fine hp (by kernel_rfl) (by kernel_rfl) (by kernel_rfl) ?_ | refine AM.opW_tied (by kernel_rfl) ?_ | refine AM.opW_untied (by kernel_rfl) ?_))
        refine ⟨i + 1, by omega, ⟨?_, by simp⟩, by omega⟩
        rw [hstep, hf, ← hxw]
        simp [hpe, BEq.beq]
    · have p2 : decide (x.2.2 = m.2.2) = false := decide_eq_false hpe
      have p3 := p1
      cases hf : fndW m l i with
      | true =>
        (repeat' (first | (simp (maxSteps := 1000000) (disch := first | omega | (simp only [AM.DB, List.length_set, List.length_map]; first | done | omega)) only [AM.RB, Nat.reduceAdd, Nat.reduceMul, Nat.reduceEqDiff, reduceCtorEq, b11_IY12, hf, hs2.ia el_30, hs2.fa fd_33_1, hs2.fa fd_33_2, hs2.lds encW_len lk_33 hln (0, 0, 0), hs2.ldsF encW_len lk_3 hln (0, 0, 0), hs2.ldsF encW_len lk_29 hln (0, 0, 0), Int.toNat_natCast, hx, gm, encW, p1, p2, p3, AM.wrap_i64]) | refine AM.drawW_fine hp (by kernel_rfl) (by kernel_rfl) (by kernel_rfl) ?_ | refine AM.opW_tied (by kernel_rfl) ?_ | refine AM.opW_untied (by kernel_rfl) ?_))
        refine ⟨i + 1, by omega, ?_, by omega⟩
        rw [hstep, hf]
        simp (maxSteps := 1000000) (disch := first | omega | (simp only [AM.DB, List.length_set, List.length_map]; first | done | omega)) only [AM.RB, Nat.reduceAdd, Nat.reduceMul, Nat.reduceEqDiff, reduceCtorEq, b11_IY12]
        first | rfl | skip
      | false =>
        (repeat' (first | (simp (maxSteps := 1000000) (disch := first | omega | (simp only [AM.DB, List.length_set, List.length_map]; first | done | omega)) only [AM.RB, Nat.reduceAdd, Nat.reduceMul, Nat.reduceEqDiff, reduceCtorEq, b11_IY12, hf, hs2.ia el_30, hs2.fa fd_33_1, hs2.fa fd_33_2, hs2.lds encW_len lk_33 hln (0, 0, 0), hs2.ldsF encW_len lk_3 hln (0, 0, 0), hs2.ldsF encW_len lk_29 hln (0, 0, 0), Int.toNat_natCast, hx, gm, encW, p1, p2, p3, AM.wrap_i64]) | refine AM.drawW_fine hp (by kernel_rfl) (by kernel_rfl) (by kernel_rfl) ?_ | refine AM.opW_tied (by kernel_rfl) ?_ | refine AM.opW_untied (by kernel_rfl) ?_))
        refine ⟨i + 1, by omega, ⟨?_, by simp⟩, by omega⟩
        rw [hstep, hf, ← hxw]
        simp [hpe, BEq.beq]
  · obtain rfl : i = n := by omega
    have hend : (!decide (0 < i) || fndW m l i) = true := by
      by_cases h0 : i = 0
      · subst h0; rfl
      · rw [if_neg h0] at hm
        obtain ⟨j, hj, e⟩ := mn_mem l (i - 1)
        rw [hm] at e
        rw [fnd_mono m l (show j < i by omega) e.symm, Bool.or_true]
    (repeat' (first | (simp (maxSteps := 1000000) (disch := first | omega | (simp only [AM.DB, List.length_set, List.length_map]; first | done | omega)) only [AM.RB, Nat.reduceAdd, Nat.reduceMul, Nat.reduceEqDiff, reduceCtorEq, b11_IY12, hend]) | refine AM.drawW_fine hp (by kernel_rfl) (by kernel_rfl) (by kernel_rfl) ?_ | refine AM.opW_tied (by kernel_rfl) ?_ | refine AM.opW_untied (by kernel_rfl) ?_))
end Go.Proofs.Ytodcnfabnlojdaa
