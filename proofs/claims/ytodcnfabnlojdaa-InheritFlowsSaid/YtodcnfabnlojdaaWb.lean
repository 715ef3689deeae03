/- Walks of this claim's functions, and plain laws. -/
import Derived.Test.YtodcnfabnlojdaaWa
set_option linter.unusedSimpArgs false
set_option linter.unusedVariables false
namespace Go.Proofs.Ytodcnfabnlojdaa
open Go.AM
set_option maxRecDepth 8000
theorem b12_IH9 : type_of% (And.intro (@AM.bin_add) (And.intro (@AM.bin_eql) (And.intro (@AM.bin_geq) (And.intro (@AM.bin_lss) (And.intro (@AM.bin_neq) (And.intro (@AM.ex_tuple) (And.intro (@AM.iaO_ok) (And.intro (AM.ia_slice el_22) (And.intro (@AM.ldO_agg) (And.intro (@AM.ldO_one) (And.intro (@AM.ld_ptr) (And.intro (AM.len_slice ul_22) (And.intro (@lk_3) (And.intro (@AM.op_binOp) (And.intro (@AM.op_call) (And.intro (@AM.op_extract) (And.intro (@AM.op_indexAddr) (And.intro (@AM.op_len) (And.intro (@AM.op_load) (And.intro (@AM.op_unOp) (And.intro (@AM.un_neg) (@AM.un_not)))))))))))))))))))))) := And.intro (@AM.bin_add) (And.intro (@AM.bin_eql) (And.intro (@AM.bin_geq) (And.intro (@AM.bin_lss) (And.intro (@AM.bin_neq) (And.intro (@AM.ex_tuple) (And.intro (@AM.iaO_ok) (And.intro (AM.ia_slice el_22) (And.intro (@AM.ldO_agg) (And.intro (@AM.ldO_one) (And.intro (@AM.ld_ptr) (And.intro (AM.len_slice ul_22) (And.intro (@lk_3) (And.intro (@AM.op_binOp) (And.intro (@AM.op_call) (And.intro (@AM.op_extract) (And.intro (@AM.op_indexAddr) (And.intro (@AM.op_len) (And.intro (@AM.op_load) (And.intro (@AM.op_unOp) (And.intro (@AM.un_neg) (@AM.un_not)))))))))))))))))))))


/-- Is one of the first k that number? -/
def someL (own : List Int) (x : Int) : Nat → Bool
  | 0 => false
  | k + 1 => someL own x k || decide (own.getD k 0 = x)
theorem someL_true {own : List Int} {x : Int} : ∀ {n k : Nat}, k < n → own.getD k 0 = x → someL own x n = true
  | n + 1, k, hk, e => by
    unfold someL
    by_cases q : k = n
    · subst q; rw [decide_eq_true e, Bool.or_true]
    · rw [someL_true (n := n) (by omega) e]; rfl
set_option maxHeartbeats 2000000 in
theorem flows_w {so sw : Value} {n m : Nat} {own waits : List Int} {h : AHeap} (ho : Rd h 3 1 so n (own.map (.int .i64))) (hw : Rd h 3 1 sw m (waits.map (.int .i64))) (hl : h.low ≤ h.next) :
    W 12 [so, sw] h fun v _ => v = .bool true := by
  obtain ⟨ao, co, rfl⟩ := ho.form
  obtain ⟨aw, cw, rfl⟩ := hw.form
  have hlo : own.length = n := by simpa using ho.length
  have hlw : waits.length = m := by simpa using hw.length
  refine AM.enter hp (fn := Try.f12) (rs := [.tmp 4]) (nt := 99) (by kernel_rfl) Try.func12 rfl rfl rfl (by kernel_rfl) ?_
  simp (maxSteps := 1000000) (disch := first | omega | (simp only [AM.DB, List.length_set, List.length_map]; first | done | omega)) only [AM.RB, Nat.reduceAdd, Nat.reduceMul, Nat.reduceEqDiff, reduceCtorEq, b12_IH9]
  refine alive_w hl fun h1 fr1 => ?_
  simp (maxSteps := 1000000) (disch := first | omega | (simp only [AM.DB, List.length_set, List.length_map]; first | done | omega)) only [AM.RB, Nat.reduceAdd, Nat.reduceMul, Nat.reduceEqDiff, reduceCtorEq, b12_IH9]
  refine all_w (ho.fr0 fr1) (hw.fr0 fr1) (fr1.hl hl) (fun hb h3 fr3 => ?_) (fun hok v h3 hv3 fr3 _ => ?_)
  · have d20 : decide ((2 : Int) = 0) = false := rfl
    have d00 : decide ((0 : Int) = 0) = true := rfl
    (repeat' (first | (simp (maxSteps := 1000000) (disch := first | omega | (simp only [AM.DB, List.length_set, List.length_map]; first | done | omega)) only [AM.RB, Nat.reduceAdd, Nat.reduceMul, Nat.reduceEqDiff, reduceCtorEq, b12_IH9, d20, d00]) | refine AM.drawW_fine hp (by kernel_rfl) (by kernel_rfl) (by kernel_rfl) ?_ | refine AM.opW_tied (by kernel_rfl) ?_ | refine AM.opW_untied (by kernel_rfl) ?_))
  · obtain ⟨av, cv, rfl⟩ := hv3.form
    have fr := fr1.trans fr3
    have hO := ho.fr0 fr
    have hW := hw.fr0 fr
    have hV := hv3.rd
    have hok' := hok
    unfold okAll at hok'
    simp only [Bool.and_eq_true, beq_iff_eq, decide_eq_true_eq] at hok'
    have hnm : n = m := by omega
    have hn64 : n ≤ 64 := by omega
    subst hnm
    have hll : (allL own waits n).length = n := by rw [allL_length]; exact hlo
    (repeat' (first | (simp (maxSteps := 1000000) (disch := first | omega | (simp only [AM.DB, List.length_set, List.length_map]; first | done | omega)) only [AM.RB, Nat.reduceAdd, Nat.reduceMul, Nat.reduceEqDiff, reduceCtorEq, b12_IH9]) | refine AM.drawW_fine hp (by kernel_rfl) (by kernel_rfl) (by kernel_rfl) ?_ | refine AM.opW_tied (by kernel_rfl) ?_ | refine AM.opW_untied (by kernel_rfl) ?_))
    refine AM.loop_w hp 99 (fun i : Nat => [(0, .slice ao n co), (1, .slice aw n cw), (5, .bool true), (6, .slice av n cv), (32, .int .i64 n), (33, .int .i64 i)])
      (fun i h' => i ≤ n ∧ h' = h3) (fun i => n - i) (by kernel_rfl) 0 ?_ ?_ ?_
    · simp (maxSteps := 1000000) (disch := first | omega | (simp only [AM.DB, List.length_set, List.length_map]; first | done | omega)) only [AM.RB, Nat.reduceAdd, Nat.reduceMul, Nat.reduceEqDiff, reduceCtorEq, b12_IH9]
    · exact ⟨Nat.zero_le _, rfl⟩
    rintro i h' ρ ⟨hi, rfl⟩
    simp (maxSteps := 1000000) (disch := first | omega | (simp only [AM.DB, List.length_set, List.length_map]; first | done | omega)) only [AM.RB, Nat.reduceAdd, Nat.reduceMul, Nat.reduceEqDiff, reduceCtorEq, b12_IH9]
    refine AM.condV_split (fun hlt => ?_) (fun hlt => ?_)
    · have hin : i < n := by omega
      obtain ⟨f1, f2, k0, hk0, f3⟩ := flows own waits hok (r := i) (by omega)
      rw [hlo] at f1 f2 f3
      have d1 : decide ((allL own waits n).getD i 0 < own.getD i 0) = false := decide_eq_false (by omega)
      have key : decide (0 ≤ waits.getD i 0) = false ∨ (0 ≤ waits.getD i 0 ∧ decide (waits.getD i 0 < n) = false) ∨ (0 ≤ waits.getD i 0 ∧ waits.getD i 0 < n ∧ decide ((allL own waits n).getD (waits.getD i 0).toNat 0 < (allL own waits n).getD i 0) = false) := by
        by_cases q0 : 0 ≤ waits.getD i 0
        · by_cases q1 : waits.getD i 0 < n
          · exact .inr (.inr ⟨q0, q1, decide_eq_false (by have := f2 q0 (by omega); omega)⟩)
          · exact .inr (.inl ⟨q0, decide_eq_false q1⟩)
        · exact .inl (decide_eq_false q0)
      have rest : True := trivial
      rcases key with q | ⟨q, q'⟩ | ⟨q, q', q''⟩
      case' inl =>
        (repeat' (first | (simp (maxSteps := 1000000) (disch := first | omega | (simp only [AM.DB, List.length_set, List.length_map]; first | done | omega)) only [AM.RB, Nat.reduceAdd, Nat.reduceMul, Nat.reduceEqDiff, reduceCtorEq, b12_IH9, hO.ia el_22, Rd.ldi hO lk_3, hW.ia el_22, Rd.ldi hW lk_3, hV.ia el_22, Rd.ldi hV lk_3, Int.toNat_natCast, d1, q]) | refine AM.drawW_fine hp (by kernel_rfl) (by kernel_rfl) (by kernel_rfl) ?_ | refine AM.opW_tied (by kernel_rfl) ?_ | refine AM.opW_untied (by kernel_rfl) ?_))
      case' inr.inl =>
        have d2 := decide_eq_true q
        (repeat' (first | (simp (maxSteps := 1000000) (disch := first | omega | (simp only [AM.DB, List.length_set, List.length_map]; first | done | omega)) only [AM.RB, Nat.reduceAdd, Nat.reduceMul, Nat.reduceEqDiff, reduceCtorEq, b12_IH9, hO.ia el_22, Rd.ldi hO lk_3, hW.ia el_22, Rd.ldi hW lk_3, hV.ia el_22, Rd.ldi hV lk_3, Int.toNat_natCast, d1, d2, q']) | refine AM.drawW_fine hp (by kernel_rfl) (by kernel_rfl) (by kernel_rfl) ?_ | refine AM.opW_tied (by kernel_rfl) ?_ | refine AM.opW_untied (by kernel_rfl) ?_))
      case' inr.inr =>
        have d2 := decide_eq_true q
        have d3 := decide_eq_true q'
        have hix : (waits.getD i 0).toNat < n := by omega
        (repeat' (first | (simp (maxSteps := 1000000) (disch := first | omega | (simp only [AM.DB, List.length_set, List.length_map]; first | done | omega)) only [AM.RB, Nat.reduceAdd, Nat.reduceMul, Nat.reduceEqDiff, reduceCtorEq, b12_IH9, hO.ia el_22, Rd.ldi hO lk_3, hW.ia el_22, Rd.ldi hW lk_3, hV.ia el_22, Rd.ldi hV lk_3, Int.toNat_natCast, d1, d2, d3, q'']) | refine AM.drawW_fine hp (by kernel_rfl) (by kernel_rfl) (by kernel_rfl) ?_ | refine AM.opW_tied (by kernel_rfl) ?_ | refine AM.opW_untied (by kernel_rfl) ?_))
      all_goals
        refine AM.loop_w hp 99 (fun k : Nat => [(0, .slice ao n co), (1, .slice aw n cw), (5, .bool true), (6, .slice av n cv), (8, .int .i64 i), (10, .bool (someL own ((allL own waits n).getD i 0) k)), (32, .int .i64 n), (33, .int .i64 i), (71, .int .i64 n), (72, .int .i64 k)])
          (fun k h2 => k ≤ n ∧ h2 = h') (fun k => n - k) (by kernel_rfl) 0 ?_ ?_ ?_
        · simp (maxSteps := 1000000) (disch := first | omega | (simp only [AM.DB, List.length_set, List.length_map]; first | done | omega)) only [AM.RB, Nat.reduceAdd, Nat.reduceMul, Nat.reduceEqDiff, reduceCtorEq, b12_IH9]
          first | rfl | skip
        · exact ⟨Nat.zero_le _, rfl⟩
        rintro k h2 ρ2 ⟨hk, rfl⟩
        simp (maxSteps := 1000000) (disch := first | omega | (simp only [AM.DB, List.length_set, List.length_map]; first | done | omega)) only [AM.RB, Nat.reduceAdd, Nat.reduceMul, Nat.reduceEqDiff, reduceCtorEq, b12_IH9]
        refine AM.condV_split (fun hlk => ?_) (fun hlk => ?_)
        · have hkn : k < n := by omega
          have hnext : someL own ((allL own waits n).getD i 0) (k + 1) = (someL own ((allL own waits n).getD i 0) k || decide (own.getD k 0 = (allL own waits n).getD i 0)) := rfl
          cases hsm : someL own ((allL own waits n).getD i 0) k
          · (repeat' (first | (simp (maxSteps := 1000000) (disch := first | omega | (simp only [AM.DB, List.length_set, List.length_map]; first | done | omega)) only [AM.RB, Nat.reduceAdd, Nat.reduceMul, Nat.reduceEqDiff, reduceCtorEq, b12_IH9, hO.ia el_22, Rd.ldi hO lk_3, hV.ia el_22, Rd.ldi hV lk_3, Int.toNat_natCast, AM.wrap_i64]) | refine AM.drawW_fine hp (by kernel_rfl) (by kernel_rfl) (by kernel_rfl) ?_ | refine AM.opW_tied (by kernel_rfl) ?_ | refine AM.opW_untied (by kernel_rfl) ?_))
            exact ⟨k + 1, by omega, ⟨by rw [hnext, hsm, Bool.false_or], congrArg _ (by omega)⟩, by omega⟩
          · (repeat' (first | (simp (maxSteps := 1000000) (disch := first | omega | (simp only [AM.DB, List.length_set, List.length_map]; first | done | omega)) only [AM.RB, Nat.reduceAdd, Nat.reduceMul, Nat.reduceEqDiff, reduceCtorEq, b12_IH9, AM.wrap_i64]) | refine AM.drawW_fine hp (by kernel_rfl) (by kernel_rfl) (by kernel_rfl) ?_ | refine AM.opW_tied (by kernel_rfl) ?_ | refine AM.opW_untied (by kernel_rfl) ?_))
            exact ⟨k + 1, by omega, ⟨by rw [hnext, hsm, Bool.true_or], congrArg _ (by omega)⟩, by omega⟩
        · have hke : k = n := by omega
          have hs : someL own ((allL own waits n).getD i 0) k = true := by rw [hke]; exact someL_true (by omega) f3
          (repeat' (first | (simp (maxSteps := 1000000) (disch := first | omega | (simp only [AM.DB, List.length_set, List.length_map]; first | done | omega)) only [AM.RB, Nat.reduceAdd, Nat.reduceMul, Nat.reduceEqDiff, reduceCtorEq, b12_IH9, hs, AM.wrap_i64]) | refine AM.drawW_fine hp (by kernel_rfl) (by kernel_rfl) (by kernel_rfl) ?_ | refine AM.opW_tied (by kernel_rfl) ?_ | refine AM.opW_untied (by kernel_rfl) ?_))
          exact ⟨i + 1, by omega, congrArg _ (by omega), by omega⟩
    · have d00 : decide ((0 : Int) = 0) = true := rfl
      (repeat' (first | (simp (maxSteps := 1000000) (disch := first | omega | (simp only [AM.DB, List.length_set, List.length_map]; first | done | omega)) only [AM.RB, Nat.reduceAdd, Nat.reduceMul, Nat.reduceEqDiff, reduceCtorEq, b12_IH9, d00]) | refine AM.drawW_fine hp (by kernel_rfl) (by kernel_rfl) (by kernel_rfl) ?_ | refine AM.opW_tied (by kernel_rfl) ?_ | refine AM.opW_untied (by kernel_rfl) ?_))
end Go.Proofs.Ytodcnfabnlojdaa
