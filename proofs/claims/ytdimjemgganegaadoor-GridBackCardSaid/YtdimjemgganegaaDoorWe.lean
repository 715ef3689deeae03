/- Walks of this claim's functions, and plain laws. -/
import Derived.Test.YtdimjemgganegaaDoorWd
set_option linter.unusedSimpArgs false
set_option linter.unusedVariables false
namespace Go.Proofs.YtdimjemgganegaaDoor
open Go.AM
set_option maxRecDepth 8000
theorem b23_G20 : type_of% (And.intro (@AM.bin_eql) (And.intro (@AM.bin_gtr) (And.intro (@AM.bin_lss) (And.intro (@AM.bin_neq) (And.intro (@AM.bin_quo) (And.intro (@AM.bin_sub) (And.intro (@AM.op_binOp) (And.intro (@AM.op_call) (And.intro (@AM.op_unOp) (And.intro (@AM.un_neg) (@AM.un_not))))))))))) := And.intro (@AM.bin_eql) (And.intro (@AM.bin_gtr) (And.intro (@AM.bin_lss) (And.intro (@AM.bin_neq) (And.intro (@AM.bin_quo) (And.intro (@AM.bin_sub) (And.intro (@AM.op_binOp) (And.intro (@AM.op_call) (And.intro (@AM.op_unOp) (And.intro (@AM.un_neg) (@AM.un_not))))))))))
theorem b20_G20 : type_of% (And.intro (@AM.bin_add) (And.intro (@AM.bin_lss) (And.intro (AM.bsW_int bs_29) (And.intro (AM.bsW_nil bs_29) (And.intro (AM.bsW_slice bs_29) (And.intro (AM.bsW_string bs_29) (And.intro (@AM.op_append) (And.intro (@AM.op_binOp) (And.intro (@AM.op_buildSlice) (@AM.op_call)))))))))) := And.intro (@AM.bin_add) (And.intro (@AM.bin_lss) (And.intro (AM.bsW_int bs_29) (And.intro (AM.bsW_nil bs_29) (And.intro (AM.bsW_slice bs_29) (And.intro (AM.bsW_string bs_29) (And.intro (@AM.op_append) (And.intro (@AM.op_binOp) (And.intro (@AM.op_buildSlice) (@AM.op_call)))))))))
theorem b22_G20 : type_of% (And.intro (@AM.bin_add) (And.intro (@AM.bin_lss) (And.intro (AM.bsW_int bs_29) (And.intro (AM.bsW_nil bs_29) (And.intro (AM.bsW_slice bs_29) (And.intro (AM.bsW_string bs_29) (And.intro (@AM.op_append) (And.intro (@AM.op_binOp) (And.intro (@AM.op_buildSlice) (@AM.op_call)))))))))) := And.intro (@AM.bin_add) (And.intro (@AM.bin_lss) (And.intro (AM.bsW_int bs_29) (And.intro (AM.bsW_nil bs_29) (And.intro (AM.bsW_slice bs_29) (And.intro (AM.bsW_string bs_29) (And.intro (@AM.op_append) (And.intro (@AM.op_binOp) (And.intro (@AM.op_buildSlice) (@AM.op_call)))))))))


def edgeL (L : List (List UInt8)) (a b : Int) : Bool := decide ((0 ≤ a ∧ a < L.flatten.length) ∧ 0 ≤ b ∧ b < L.flatten.length) && edgeN L.flatten (L.getD 0 []).length a.toNat b.toNat
set_option maxHeartbeats 4000000 in
theorem refEdge_w {h : AHeap} {p : Nat} {lv : Value} {L : List (List UInt8)} {l : List UInt8} (r : Rp h p lv L) (G : Good l L) (a b : Int) {Q : VQ} (hq : Q (.bool (edgeL L a b)) h) : W 23 [pv p, .int .i64 a, .int .i64 b] h Q := by
  have hK := G.fit.k1024
  have hC := G.cols
  have g32 := G.r32
  have gc32 := G.c32
  have hbd : L.length ≤ 4000000 ∧ (L.getD 0 []).length ≤ 4000000 := by omega
  unfold edgeL at hq
  refine AM.enter hp (fn := Tryd.f23) (rs := [.tmp 6]) (nt := 80) (by kernel_rfl) Tryd.func23 rfl rfl rfl (by kernel_rfl) ?_
  (first | (simp (maxSteps := 1000000) (disch := first | omega | (simp only [AM.DB, List.length_set, List.length_map]; first | done | omega)) only [AM.RB, Nat.reduceAdd, Nat.reduceMul, Nat.reduceEqDiff, reduceCtorEq, b23_G20]) | skip); (repeat' ((first | refine AM.drawW_fine hp (by kernel_rfl) (by kernel_rfl) ?_ | refine AM.opW_tied (by kernel_rfl) ?_ | refine AM.opW_untied (by kernel_rfl) ?_ | refine AM.build_w ?_); simp (maxSteps := 1000000) (disch := first | omega | (simp only [AM.DB, List.length_set, List.length_map]; first | done | omega)) only [AM.RB, Nat.reduceAdd, Nat.reduceMul, Nat.reduceEqDiff, reduceCtorEq, b23_G20]))
  refine refFree_w r G.rows hbd G.all a ?_
  rw [G.free]
  have hfr : ∀ i : Int, freeP L.flatten i = (decide (0 ≤ i ∧ i < L.flatten.length) && !decide (((L.flatten.getD i.toNat 0).toNat : Int) = 35)) := fun i => by
    unfold freeP kindP
    by_cases hi : 0 ≤ i ∧ i < L.flatten.length
    · rw [if_pos hi.1, show decide (((L.flatten.getD i.toNat 0).toNat : Int) = 35) = decide (L.flatten.getD i.toNat 0 = 35) from u8_lit _ 35 (by omega)]
    · rw [decide_eq_false hi]; rfl
  have hkd : ∀ i : Int, 0 ≤ i → rkind L i = L.flatten.getD i.toNat 0 := fun i hi => by rw [G.kind]; unfold kindP; rw [if_pos hi]
  cases hfa : freeP L.flatten a
  · have e : (decide ((0 ≤ a ∧ a < L.flatten.length) ∧ 0 ≤ b ∧ b < L.flatten.length) && edgeN L.flatten (L.getD 0 []).length a.toNat b.toNat) = false := by
      rw [hfr] at hfa
      unfold edgeN
      by_cases hi : 0 ≤ a ∧ a < L.flatten.length
      · rw [decide_eq_true hi, Bool.true_and] at hfa
        rw [hfa]; simp
      · rw [decide_eq_false (fun q => hi q.1)]; rfl
    rw [e] at hq
    (first | (simp (maxSteps := 1000000) (disch := first | omega | (simp only [AM.DB, List.length_set, List.length_map]; first | done | omega)) only [AM.RB, Nat.reduceAdd, Nat.reduceMul, Nat.reduceEqDiff, reduceCtorEq, b23_G20]) | skip); (repeat' ((first | refine AM.drawW_fine hp (by kernel_rfl) (by kernel_rfl) ?_ | refine AM.opW_tied (by kernel_rfl) ?_ | refine AM.opW_untied (by kernel_rfl) ?_ | refine AM.build_w ?_); simp (maxSteps := 1000000) (disch := first | omega | (simp only [AM.DB, List.length_set, List.length_map]; first | done | omega)) only [AM.RB, Nat.reduceAdd, Nat.reduceMul, Nat.reduceEqDiff, reduceCtorEq, b23_G20]))
    exact hq
  (first | (simp (maxSteps := 1000000) (disch := first | omega | (simp only [AM.DB, List.length_set, List.length_map]; first | done | omega)) only [AM.RB, Nat.reduceAdd, Nat.reduceMul, Nat.reduceEqDiff, reduceCtorEq, b23_G20]) | skip); (repeat' ((first | refine AM.drawW_fine hp (by kernel_rfl) (by kernel_rfl) ?_ | refine AM.opW_tied (by kernel_rfl) ?_ | refine AM.opW_untied (by kernel_rfl) ?_ | refine AM.build_w ?_); simp (maxSteps := 1000000) (disch := first | omega | (simp only [AM.DB, List.length_set, List.length_map]; first | done | omega)) only [AM.RB, Nat.reduceAdd, Nat.reduceMul, Nat.reduceEqDiff, reduceCtorEq, b23_G20]))
  refine refFree_w r G.rows hbd G.all b ?_
  rw [G.free]
  cases hfb : freeP L.flatten b
  · have e : (decide ((0 ≤ a ∧ a < L.flatten.length) ∧ 0 ≤ b ∧ b < L.flatten.length) && edgeN L.flatten (L.getD 0 []).length a.toNat b.toNat) = false := by
      rw [hfr] at hfb
      unfold edgeN
      by_cases hi : 0 ≤ b ∧ b < L.flatten.length
      · rw [decide_eq_true hi, Bool.true_and] at hfb
        rw [hfb]; simp
      · rw [decide_eq_false (fun q => hi q.2)]; rfl
    rw [e] at hq
    (first | (simp (maxSteps := 1000000) (disch := first | omega | (simp only [AM.DB, List.length_set, List.length_map]; first | done | omega)) only [AM.RB, Nat.reduceAdd, Nat.reduceMul, Nat.reduceEqDiff, reduceCtorEq, b23_G20]) | skip); (repeat' ((first | refine AM.drawW_fine hp (by kernel_rfl) (by kernel_rfl) ?_ | refine AM.opW_tied (by kernel_rfl) ?_ | refine AM.opW_untied (by kernel_rfl) ?_ | refine AM.build_w ?_); simp (maxSteps := 1000000) (disch := first | omega | (simp only [AM.DB, List.length_set, List.length_map]; first | done | omega)) only [AM.RB, Nat.reduceAdd, Nat.reduceMul, Nat.reduceEqDiff, reduceCtorEq, b23_G20]))
    exact hq
  (first | (simp (maxSteps := 1000000) (disch := first | omega | (simp only [AM.DB, List.length_set, List.length_map]; first | done | omega)) only [AM.RB, Nat.reduceAdd, Nat.reduceMul, Nat.reduceEqDiff, reduceCtorEq, b23_G20]) | skip); (repeat' ((first | refine AM.drawW_fine hp (by kernel_rfl) (by kernel_rfl) ?_ | refine AM.opW_tied (by kernel_rfl) ?_ | refine AM.opW_untied (by kernel_rfl) ?_ | refine AM.build_w ?_); simp (maxSteps := 1000000) (disch := first | omega | (simp only [AM.DB, List.length_set, List.length_map]; first | done | omega)) only [AM.RB, Nat.reduceAdd, Nat.reduceMul, Nat.reduceEqDiff, reduceCtorEq, b23_G20]))
  refine refFar_w r G a b ?_
  have hia := freeP_in hfa
  have hib := freeP_in hfb
  obtain ⟨na, rfl⟩ := Int.eq_ofNat_of_zero_le hia.1
  obtain ⟨nb, rfl⟩ := Int.eq_ofNat_of_zero_le hib.1
  rw [hfr, decide_eq_true hia, Bool.true_and, Int.toNat_natCast] at hfa
  rw [hfr, decide_eq_true hib, Bool.true_and, Int.toNat_natCast] at hfb
  have hfar : farL L na nb = farN (L.getD 0 []).length na nb := by unfold farL; rw [if_pos ⟨hia, hib⟩]; rfl
  rw [hfar]
  rw [decide_eq_true ⟨hia, hib⟩, Bool.true_and, Int.toNat_natCast, Int.toNat_natCast] at hq
  unfold edgeN at hq
  rw [hfa, hfb, Bool.true_and, Bool.true_and] at hq
  have hka := hkd na hia.1
  have hkb := hkd nb hib.1
  rw [Int.toNat_natCast] at hka hkb
  by_cases hf1 : farN (L.getD 0 []).length na nb = 1
  case neg =>
    rw [decide_eq_false hf1] at hq
    (first | (simp (maxSteps := 1000000) (disch := first | omega | (simp only [AM.DB, List.length_set, List.length_map]; first | done | omega)) only [AM.RB, Nat.reduceAdd, Nat.reduceMul, Nat.reduceEqDiff, reduceCtorEq, b23_G20, decide_eq_false hf1]) | skip); (repeat' ((first | refine AM.drawW_fine hp (by kernel_rfl) (by kernel_rfl) ?_ | refine AM.opW_tied (by kernel_rfl) ?_ | refine AM.opW_untied (by kernel_rfl) ?_ | refine AM.build_w ?_); simp (maxSteps := 1000000) (disch := first | omega | (simp only [AM.DB, List.length_set, List.length_map]; first | done | omega)) only [AM.RB, Nat.reduceAdd, Nat.reduceMul, Nat.reduceEqDiff, reduceCtorEq, b23_G20, decide_eq_false hf1]))
    simpa using hq
  rw [decide_eq_true hf1, Bool.true_and] at hq
  have hC' : ((L.getD 0 []).length : Int) ≠ 0 := by omega
  have e1 := tdiv_nat na (L.getD 0 []).length
  have e2 := tdiv_nat nb (L.getD 0 []).length
  have w1 := wrap_nat (n := na / (L.getD 0 []).length) (Nat.le_trans (Nat.div_le_self _ _) (by omega))
  have w2 := wrap_nat (n := nb / (L.getD 0 []).length) (Nat.le_trans (Nat.div_le_self _ _) (by omega))
  unfold wayOf at hq
  generalize na / (L.getD 0 []).length = x1 at *
  generalize nb / (L.getD 0 []).length = x2 at *
  obtain ⟨ka, hka'⟩ : ∃ c, L.flatten.getD na 0 = c := ⟨_, rfl⟩
  obtain ⟨kb, hkb'⟩ : ∃ c, L.flatten.getD nb 0 = c := ⟨_, rfl⟩
  rw [hka'] at hka hq
  rw [hkb'] at hkb hq
  clear hfa hfb hfr hkd hfar hka' hkb'
  by_cases c1 : (nb : Int) = (na : Int) - 1
  · by_cases c2 : (x2 : Int) = x1
    · rw [if_pos ⟨c1, by omega⟩] at hq
      (first | (simp (maxSteps := 1000000) (disch := first | omega | (simp only [AM.DB, List.length_set, List.length_map]; first | done | omega)) only [AM.RB, Nat.reduceAdd, Nat.reduceMul, Nat.reduceEqDiff, reduceCtorEq, b23_G20, decide_eq_true hf1, AM.wrap_i64, decide_eq_true c1]) | skip); (repeat' ((first | refine AM.drawW_fine hp (by kernel_rfl) (by kernel_rfl) ?_ | refine AM.opW_tied (by kernel_rfl) ?_ | refine AM.opW_untied (by kernel_rfl) ?_ | refine AM.build_w ?_); simp (maxSteps := 1000000) (disch := first | omega | (simp only [AM.DB, List.length_set, List.length_map]; first | done | omega)) only [AM.RB, Nat.reduceAdd, Nat.reduceMul, Nat.reduceEqDiff, reduceCtorEq, b23_G20, decide_eq_true hf1, AM.wrap_i64, decide_eq_true c1]))
      refine refCols_w r G.rows ?_
      (first | (simp (maxSteps := 1000000) (disch := first | omega | (simp only [AM.DB, List.length_set, List.length_map]; first | done | omega)) only [AM.RB, Nat.reduceAdd, Nat.reduceMul, Nat.reduceEqDiff, reduceCtorEq, b23_G20, e2, w2]) | skip); (repeat' ((first | refine AM.drawW_fine hp (by kernel_rfl) (by kernel_rfl) ?_ | refine AM.opW_tied (by kernel_rfl) ?_ | refine AM.opW_untied (by kernel_rfl) ?_ | refine AM.build_w ?_); simp (maxSteps := 1000000) (disch := first | omega | (simp only [AM.DB, List.length_set, List.length_map]; first | done | omega)) only [AM.RB, Nat.reduceAdd, Nat.reduceMul, Nat.reduceEqDiff, reduceCtorEq, b23_G20, e2, w2]))
      refine refCols_w r G.rows ?_
      (first | (simp (maxSteps := 1000000) (disch := first | omega | (simp only [AM.DB, List.length_set, List.length_map]; first | done | omega)) only [AM.RB, Nat.reduceAdd, Nat.reduceMul, Nat.reduceEqDiff, reduceCtorEq, b23_G20, e1, w1, decide_eq_true c2]) | skip); (repeat' ((first | refine AM.drawW_fine hp (by kernel_rfl) (by kernel_rfl) ?_ | refine AM.opW_tied (by kernel_rfl) ?_ | refine AM.opW_untied (by kernel_rfl) ?_ | refine AM.build_w ?_); simp (maxSteps := 1000000) (disch := first | omega | (simp only [AM.DB, List.length_set, List.length_map]; first | done | omega)) only [AM.RB, Nat.reduceAdd, Nat.reduceMul, Nat.reduceEqDiff, reduceCtorEq, b23_G20, e1, w1, decide_eq_true c2]))
      obtain ⟨u, hu⟩ : ∃ x, decide ((ka.toNat : Int) = 46) = x := ⟨_, rfl⟩
      obtain ⟨v, hv⟩ : ∃ x, decide ((ka.toNat : Int) = 60) = x := ⟨_, rfl⟩
      obtain ⟨w, hw⟩ : ∃ x, decide ((kb.toNat : Int) = 62) = x := ⟨_, rfl⟩
      have hq' : Q (.bool ((u || v) && !w)) h := by rw [← hu, ← hv, ← hw]; exact hq
      refine refKind_w r G.rows hbd G.all na ?_
      rw [hka]
      cases u
      · cases v
        · (first | (simp (maxSteps := 1000000) (disch := first | omega | (simp only [AM.DB, List.length_set, List.length_map]; first | done | omega)) only [AM.RB, Nat.reduceAdd, Nat.reduceMul, Nat.reduceEqDiff, reduceCtorEq, b23_G20, hu, hv]) | skip); (repeat' ((first | refine AM.drawW_fine hp (by kernel_rfl) (by kernel_rfl) ?_ | refine AM.opW_tied (by kernel_rfl) ?_ | refine AM.opW_untied (by kernel_rfl) ?_ | refine AM.build_w ?_); simp (maxSteps := 1000000) (disch := first | omega | (simp only [AM.DB, List.length_set, List.length_map]; first | done | omega)) only [AM.RB, Nat.reduceAdd, Nat.reduceMul, Nat.reduceEqDiff, reduceCtorEq, b23_G20, hu, hv]))
          exact hq'
        · (first | (simp (maxSteps := 1000000) (disch := first | omega | (simp only [AM.DB, List.length_set, List.length_map]; first | done | omega)) only [AM.RB, Nat.reduceAdd, Nat.reduceMul, Nat.reduceEqDiff, reduceCtorEq, b23_G20, hu, hv]) | skip); (repeat' ((first | refine AM.drawW_fine hp (by kernel_rfl) (by kernel_rfl) ?_ | refine AM.opW_tied (by kernel_rfl) ?_ | refine AM.opW_untied (by kernel_rfl) ?_ | refine AM.build_w ?_); simp (maxSteps := 1000000) (disch := first | omega | (simp only [AM.DB, List.length_set, List.length_map]; first | done | omega)) only [AM.RB, Nat.reduceAdd, Nat.reduceMul, Nat.reduceEqDiff, reduceCtorEq, b23_G20, hu, hv]))
          refine refKind_w r G.rows hbd G.all nb ?_
          rw [hkb]
          (first | (simp (maxSteps := 1000000) (disch := first | omega | (simp only [AM.DB, List.length_set, List.length_map]; first | done | omega)) only [AM.RB, Nat.reduceAdd, Nat.reduceMul, Nat.reduceEqDiff, reduceCtorEq, b23_G20, hw]) | skip); (repeat' ((first | refine AM.drawW_fine hp (by kernel_rfl) (by kernel_rfl) ?_ | refine AM.opW_tied (by kernel_rfl) ?_ | refine AM.opW_untied (by kernel_rfl) ?_ | refine AM.build_w ?_); simp (maxSteps := 1000000) (disch := first | omega | (simp only [AM.DB, List.length_set, List.length_map]; first | done | omega)) only [AM.RB, Nat.reduceAdd, Nat.reduceMul, Nat.reduceEqDiff, reduceCtorEq, b23_G20, hw]))
          exact hq'
      · (first | (simp (maxSteps := 1000000) (disch := first | omega | (simp only [AM.DB, List.length_set, List.length_map]; first | done | omega)) only [AM.RB, Nat.reduceAdd, Nat.reduceMul, Nat.reduceEqDiff, reduceCtorEq, b23_G20, hu]) | skip); (repeat' ((first | refine AM.drawW_fine hp (by kernel_rfl) (by kernel_rfl) ?_ | refine AM.opW_tied (by kernel_rfl) ?_ | refine AM.opW_untied (by kernel_rfl) ?_ | refine AM.build_w ?_); simp (maxSteps := 1000000) (disch := first | omega | (simp only [AM.DB, List.length_set, List.length_map]; first | done | omega)) only [AM.RB, Nat.reduceAdd, Nat.reduceMul, Nat.reduceEqDiff, reduceCtorEq, b23_G20, hu]))
        refine refKind_w r G.rows hbd G.all nb ?_
        rw [hkb]
        (first | (simp (maxSteps := 1000000) (disch := first | omega | (simp only [AM.DB, List.length_set, List.length_map]; first | done | omega)) only [AM.RB, Nat.reduceAdd, Nat.reduceMul, Nat.reduceEqDiff, reduceCtorEq, b23_G20, hw]) | skip); (repeat' ((first | refine AM.drawW_fine hp (by kernel_rfl) (by kernel_rfl) ?_ | refine AM.opW_tied (by kernel_rfl) ?_ | refine AM.opW_untied (by kernel_rfl) ?_ | refine AM.build_w ?_); simp (maxSteps := 1000000) (disch := first | omega | (simp only [AM.DB, List.length_set, List.length_map]; first | done | omega)) only [AM.RB, Nat.reduceAdd, Nat.reduceMul, Nat.reduceEqDiff, reduceCtorEq, b23_G20, hw]))
        exact hq'
    · have cN : ¬ ((nb : Int) = (na : Int) - 1 ∧ x2 = x1) := fun q => c2 (by omega)
      (first | (simp (maxSteps := 1000000) (disch := first | omega | (simp only [AM.DB, List.length_set, List.length_map]; first | done | omega)) only [AM.RB, Nat.reduceAdd, Nat.reduceMul, Nat.reduceEqDiff, reduceCtorEq, b23_G20, decide_eq_true hf1, AM.wrap_i64, decide_eq_true c1]) | skip); (repeat' ((first | refine AM.drawW_fine hp (by kernel_rfl) (by kernel_rfl) ?_ | refine AM.opW_tied (by kernel_rfl) ?_ | refine AM.opW_untied (by kernel_rfl) ?_ | refine AM.build_w ?_); simp (maxSteps := 1000000) (disch := first | omega | (simp only [AM.DB, List.length_set, List.length_map]; first | done | omega)) only [AM.RB, Nat.reduceAdd, Nat.reduceMul, Nat.reduceEqDiff, reduceCtorEq, b23_G20, decide_eq_true hf1, AM.wrap_i64, decide_eq_true c1]))
      refine refCols_w r G.rows ?_
      (first | (simp (maxSteps := 1000000) (disch := first | omega | (simp only [AM.DB, List.length_set, List.length_map]; first | done | omega)) only [AM.RB, Nat.reduceAdd, Nat.reduceMul, Nat.reduceEqDiff, reduceCtorEq, b23_G20, e2, w2]) | skip); (repeat' ((first | refine AM.drawW_fine hp (by kernel_rfl) (by kernel_rfl) ?_ | refine AM.opW_tied (by kernel_rfl) ?_ | refine AM.opW_untied (by kernel_rfl) ?_ | refine AM.build_w ?_); simp (maxSteps := 1000000) (disch := first | omega | (simp only [AM.DB, List.length_set, List.length_map]; first | done | omega)) only [AM.RB, Nat.reduceAdd, Nat.reduceMul, Nat.reduceEqDiff, reduceCtorEq, b23_G20, e2, w2]))
      refine refCols_w r G.rows ?_
      (first | (simp (maxSteps := 1000000) (disch := first | omega | (simp only [AM.DB, List.length_set, List.length_map]; first | done | omega)) only [AM.RB, Nat.reduceAdd, Nat.reduceMul, Nat.reduceEqDiff, reduceCtorEq, b23_G20, e1, w1, decide_eq_false c2]) | skip); (repeat' ((first | refine AM.drawW_fine hp (by kernel_rfl) (by kernel_rfl) ?_ | refine AM.opW_tied (by kernel_rfl) ?_ | refine AM.opW_untied (by kernel_rfl) ?_ | refine AM.build_w ?_); simp (maxSteps := 1000000) (disch := first | omega | (simp only [AM.DB, List.length_set, List.length_map]; first | done | omega)) only [AM.RB, Nat.reduceAdd, Nat.reduceMul, Nat.reduceEqDiff, reduceCtorEq, b23_G20, e1, w1, decide_eq_false c2]))
      by_cases c3 : (x2 : Int) < x1
      · rw [if_neg (fun q => cN q), if_pos (by omega)] at hq
        (first | (simp (maxSteps := 1000000) (disch := first | omega | (simp only [AM.DB, List.length_set, List.length_map]; first | done | omega)) only [AM.RB, Nat.reduceAdd, Nat.reduceMul, Nat.reduceEqDiff, reduceCtorEq, b23_G20, decide_eq_true hf1, AM.wrap_i64]) | skip); (repeat' ((first | refine AM.drawW_fine hp (by kernel_rfl) (by kernel_rfl) ?_ | refine AM.opW_tied (by kernel_rfl) ?_ | refine AM.opW_untied (by kernel_rfl) ?_ | refine AM.build_w ?_); simp (maxSteps := 1000000) (disch := first | omega | (simp only [AM.DB, List.length_set, List.length_map]; first | done | omega)) only [AM.RB, Nat.reduceAdd, Nat.reduceMul, Nat.reduceEqDiff, reduceCtorEq, b23_G20, decide_eq_true hf1, AM.wrap_i64]))
        refine refCols_w r G.rows ?_
        (first | (simp (maxSteps := 1000000) (disch := first | omega | (simp only [AM.DB, List.length_set, List.length_map]; first | done | omega)) only [AM.RB, Nat.reduceAdd, Nat.reduceMul, Nat.reduceEqDiff, reduceCtorEq, b23_G20, e2, w2]) | skip); (repeat' ((first | refine AM.drawW_fine hp (by kernel_rfl) (by kernel_rfl) ?_ | refine AM.opW_tied (by kernel_rfl) ?_ | refine AM.opW_untied (by kernel_rfl) ?_ | refine AM.build_w ?_); simp (maxSteps := 1000000) (disch := first | omega | (simp only [AM.DB, List.length_set, List.length_map]; first | done | omega)) only [AM.RB, Nat.reduceAdd, Nat.reduceMul, Nat.reduceEqDiff, reduceCtorEq, b23_G20, e2, w2]))
        refine refCols_w r G.rows ?_
        (first | (simp (maxSteps := 1000000) (disch := first | omega | (simp only [AM.DB, List.length_set, List.length_map]; first | done | omega)) only [AM.RB, Nat.reduceAdd, Nat.reduceMul, Nat.reduceEqDiff, reduceCtorEq, b23_G20, e1, w1, decide_eq_true c3]) | skip); (repeat' ((first | refine AM.drawW_fine hp (by kernel_rfl) (by kernel_rfl) ?_ | refine AM.opW_tied (by kernel_rfl) ?_ | refine AM.opW_untied (by kernel_rfl) ?_ | refine AM.build_w ?_); simp (maxSteps := 1000000) (disch := first | omega | (simp only [AM.DB, List.length_set, List.length_map]; first | done | omega)) only [AM.RB, Nat.reduceAdd, Nat.reduceMul, Nat.reduceEqDiff, reduceCtorEq, b23_G20, e1, w1, decide_eq_true c3]))
        obtain ⟨u, hu⟩ : ∃ x, decide ((ka.toNat : Int) = 46) = x := ⟨_, rfl⟩
        obtain ⟨v, hv⟩ : ∃ x, decide ((ka.toNat : Int) = 94) = x := ⟨_, rfl⟩
        obtain ⟨w, hw⟩ : ∃ x, decide ((kb.toNat : Int) = 118) = x := ⟨_, rfl⟩
        have hq' : Q (.bool ((u || v) && !w)) h := by rw [← hu, ← hv, ← hw]; exact hq
        refine refKind_w r G.rows hbd G.all na ?_
        rw [hka]
        cases u
        · cases v
          · (first | (simp (maxSteps := 1000000) (disch := first | omega | (simp only [AM.DB, List.length_set, List.length_map]; first | done | omega)) only [AM.RB, Nat.reduceAdd, Nat.reduceMul, Nat.reduceEqDiff, reduceCtorEq, b23_G20, hu, hv]) | skip); (repeat' ((first | refine AM.drawW_fine hp (by kernel_rfl) (by kernel_rfl) ?_ | refine AM.opW_tied (by kernel_rfl) ?_ | refine AM.opW_untied (by kernel_rfl) ?_ | refine AM.build_w ?_); simp (maxSteps := 1000000) (disch := first | omega | (simp only [AM.DB, List.length_set, List.length_map]; first | done | omega)) only [AM.RB, Nat.reduceAdd, Nat.reduceMul, Nat.reduceEqDiff, reduceCtorEq, b23_G20, hu, hv]))
            exact hq'
          · (first | (simp (maxSteps := 1000000) (disch := first | omega | (simp only [AM.DB, List.length_set, List.length_map]; first | done | omega)) only [AM.RB, Nat.reduceAdd, Nat.reduceMul, Nat.reduceEqDiff, reduceCtorEq, b23_G20, hu, hv]) | skip); (repeat' ((first | refine AM.drawW_fine hp (by kernel_rfl) (by kernel_rfl) ?_ | refine AM.opW_tied (by kernel_rfl) ?_ | refine AM.opW_untied (by kernel_rfl) ?_ | refine AM.build_w ?_); simp (maxSteps := 1000000) (disch := first | omega | (simp only [AM.DB, List.length_set, List.length_map]; first | done | omega)) only [AM.RB, Nat.reduceAdd, Nat.reduceMul, Nat.reduceEqDiff, reduceCtorEq, b23_G20, hu, hv]))
            refine refKind_w r G.rows hbd G.all nb ?_
            rw [hkb]
            (first | (simp (maxSteps := 1000000) (disch := first | omega | (simp only [AM.DB, List.length_set, List.length_map]; first | done | omega)) only [AM.RB, Nat.reduceAdd, Nat.reduceMul, Nat.reduceEqDiff, reduceCtorEq, b23_G20, hw]) | skip); (repeat' ((first | refine AM.drawW_fine hp (by kernel_rfl) (by kernel_rfl) ?_ | refine AM.opW_tied (by kernel_rfl) ?_ | refine AM.opW_untied (by kernel_rfl) ?_ | refine AM.build_w ?_); simp (maxSteps := 1000000) (disch := first | omega | (simp only [AM.DB, List.length_set, List.length_map]; first | done | omega)) only [AM.RB, Nat.reduceAdd, Nat.reduceMul, Nat.reduceEqDiff, reduceCtorEq, b23_G20, hw]))
            exact hq'
        · (first | (simp (maxSteps := 1000000) (disch := first | omega | (simp only [AM.DB, List.length_set, List.length_map]; first | done | omega)) only [AM.RB, Nat.reduceAdd, Nat.reduceMul, Nat.reduceEqDiff, reduceCtorEq, b23_G20, hu]) | skip); (repeat' ((first | refine AM.drawW_fine hp (by kernel_rfl) (by kernel_rfl) ?_ | refine AM.opW_tied (by kernel_rfl) ?_ | refine AM.opW_untied (by kernel_rfl) ?_ | refine AM.build_w ?_); simp (maxSteps := 1000000) (disch := first | omega | (simp only [AM.DB, List.length_set, List.length_map]; first | done | omega)) only [AM.RB, Nat.reduceAdd, Nat.reduceMul, Nat.reduceEqDiff, reduceCtorEq, b23_G20, hu]))
          refine refKind_w r G.rows hbd G.all nb ?_
          rw [hkb]
          (first | (simp (maxSteps := 1000000) (disch := first | omega | (simp only [AM.DB, List.length_set, List.length_map]; first | done | omega)) only [AM.RB, Nat.reduceAdd, Nat.reduceMul, Nat.reduceEqDiff, reduceCtorEq, b23_G20, hw]) | skip); (repeat' ((first | refine AM.drawW_fine hp (by kernel_rfl) (by kernel_rfl) ?_ | refine AM.opW_tied (by kernel_rfl) ?_ | refine AM.opW_untied (by kernel_rfl) ?_ | refine AM.build_w ?_); simp (maxSteps := 1000000) (disch := first | omega | (simp only [AM.DB, List.length_set, List.length_map]; first | done | omega)) only [AM.RB, Nat.reduceAdd, Nat.reduceMul, Nat.reduceEqDiff, reduceCtorEq, b23_G20, hw]))
          exact hq'
      · (first | (simp (maxSteps := 1000000) (disch := first | omega | (simp only [AM.DB, List.length_set, List.length_map]; first | done | omega)) only [AM.RB, Nat.reduceAdd, Nat.reduceMul, Nat.reduceEqDiff, reduceCtorEq, b23_G20, decide_eq_true hf1, AM.wrap_i64]) | skip); (repeat' ((first | refine AM.drawW_fine hp (by kernel_rfl) (by kernel_rfl) ?_ | refine AM.opW_tied (by kernel_rfl) ?_ | refine AM.opW_untied (by kernel_rfl) ?_ | refine AM.build_w ?_); simp (maxSteps := 1000000) (disch := first | omega | (simp only [AM.DB, List.length_set, List.length_map]; first | done | omega)) only [AM.RB, Nat.reduceAdd, Nat.reduceMul, Nat.reduceEqDiff, reduceCtorEq, b23_G20, decide_eq_true hf1, AM.wrap_i64]))
        refine refCols_w r G.rows ?_
        (first | (simp (maxSteps := 1000000) (disch := first | omega | (simp only [AM.DB, List.length_set, List.length_map]; first | done | omega)) only [AM.RB, Nat.reduceAdd, Nat.reduceMul, Nat.reduceEqDiff, reduceCtorEq, b23_G20, e2, w2]) | skip); (repeat' ((first | refine AM.drawW_fine hp (by kernel_rfl) (by kernel_rfl) ?_ | refine AM.opW_tied (by kernel_rfl) ?_ | refine AM.opW_untied (by kernel_rfl) ?_ | refine AM.build_w ?_); simp (maxSteps := 1000000) (disch := first | omega | (simp only [AM.DB, List.length_set, List.length_map]; first | done | omega)) only [AM.RB, Nat.reduceAdd, Nat.reduceMul, Nat.reduceEqDiff, reduceCtorEq, b23_G20, e2, w2]))
        refine refCols_w r G.rows ?_
        (first | (simp (maxSteps := 1000000) (disch := first | omega | (simp only [AM.DB, List.length_set, List.length_map]; first | done | omega)) only [AM.RB, Nat.reduceAdd, Nat.reduceMul, Nat.reduceEqDiff, reduceCtorEq, b23_G20, e1, w1, decide_eq_false c3]) | skip); (repeat' ((first | refine AM.drawW_fine hp (by kernel_rfl) (by kernel_rfl) ?_ | refine AM.opW_tied (by kernel_rfl) ?_ | refine AM.opW_untied (by kernel_rfl) ?_ | refine AM.build_w ?_); simp (maxSteps := 1000000) (disch := first | omega | (simp only [AM.DB, List.length_set, List.length_map]; first | done | omega)) only [AM.RB, Nat.reduceAdd, Nat.reduceMul, Nat.reduceEqDiff, reduceCtorEq, b23_G20, e1, w1, decide_eq_false c3]))
        refine refCols_w r G.rows ?_
        (first | (simp (maxSteps := 1000000) (disch := first | omega | (simp only [AM.DB, List.length_set, List.length_map]; first | done | omega)) only [AM.RB, Nat.reduceAdd, Nat.reduceMul, Nat.reduceEqDiff, reduceCtorEq, b23_G20, e2, w2]) | skip); (repeat' ((first | refine AM.drawW_fine hp (by kernel_rfl) (by kernel_rfl) ?_ | refine AM.opW_tied (by kernel_rfl) ?_ | refine AM.opW_untied (by kernel_rfl) ?_ | refine AM.build_w ?_); simp (maxSteps := 1000000) (disch := first | omega | (simp only [AM.DB, List.length_set, List.length_map]; first | done | omega)) only [AM.RB, Nat.reduceAdd, Nat.reduceMul, Nat.reduceEqDiff, reduceCtorEq, b23_G20, e2, w2]))
        refine refCols_w r G.rows ?_
        by_cases c4 : (x1 : Int) < x2
        · rw [if_neg (fun q => cN q), if_neg (by omega), if_pos (by omega)] at hq
          (first | (simp (maxSteps := 1000000) (disch := first | omega | (simp only [AM.DB, List.length_set, List.length_map]; first | done | omega)) only [AM.RB, Nat.reduceAdd, Nat.reduceMul, Nat.reduceEqDiff, reduceCtorEq, b23_G20, e1, w1, decide_eq_true c4]) | skip); (repeat' ((first | refine AM.drawW_fine hp (by kernel_rfl) (by kernel_rfl) ?_ | refine AM.opW_tied (by kernel_rfl) ?_ | refine AM.opW_untied (by kernel_rfl) ?_ | refine AM.build_w ?_); simp (maxSteps := 1000000) (disch := first | omega | (simp only [AM.DB, List.length_set, List.length_map]; first | done | omega)) only [AM.RB, Nat.reduceAdd, Nat.reduceMul, Nat.reduceEqDiff, reduceCtorEq, b23_G20, e1, w1, decide_eq_true c4]))
          obtain ⟨u, hu⟩ : ∃ x, decide ((ka.toNat : Int) = 46) = x := ⟨_, rfl⟩
          obtain ⟨v, hv⟩ : ∃ x, decide ((ka.toNat : Int) = 118) = x := ⟨_, rfl⟩
          obtain ⟨w, hw⟩ : ∃ x, decide ((kb.toNat : Int) = 94) = x := ⟨_, rfl⟩
          have hq' : Q (.bool ((u || v) && !w)) h := by rw [← hu, ← hv, ← hw]; exact hq
          refine refKind_w r G.rows hbd G.all na ?_
          rw [hka]
          cases u
          · cases v
            · (first | (simp (maxSteps := 1000000) (disch := first | omega | (simp only [AM.DB, List.length_set, List.length_map]; first | done | omega)) only [AM.RB, Nat.reduceAdd, Nat.reduceMul, Nat.reduceEqDiff, reduceCtorEq, b23_G20, hu, hv]) | skip); (repeat' ((first | refine AM.drawW_fine hp (by kernel_rfl) (by kernel_rfl) ?_ | refine AM.opW_tied (by kernel_rfl) ?_ | refine AM.opW_untied (by kernel_rfl) ?_ | refine AM.build_w ?_); simp (maxSteps := 1000000) (disch := first | omega | (simp only [AM.DB, List.length_set, List.length_map]; first | done | omega)) only [AM.RB, Nat.reduceAdd, Nat.reduceMul, Nat.reduceEqDiff, reduceCtorEq, b23_G20, hu, hv]))
              exact hq'
            · (first | (simp (maxSteps := 1000000) (disch := first | omega | (simp only [AM.DB, List.length_set, List.length_map]; first | done | omega)) only [AM.RB, Nat.reduceAdd, Nat.reduceMul, Nat.reduceEqDiff, reduceCtorEq, b23_G20, hu, hv]) | skip); (repeat' ((first | refine AM.drawW_fine hp (by kernel_rfl) (by kernel_rfl) ?_ | refine AM.opW_tied (by kernel_rfl) ?_ | refine AM.opW_untied (by kernel_rfl) ?_ | refine AM.build_w ?_); simp (maxSteps := 1000000) (disch := first | omega | (simp only [AM.DB, List.length_set, List.length_map]; first | done | omega)) only [AM.RB, Nat.reduceAdd, Nat.reduceMul, Nat.reduceEqDiff, reduceCtorEq, b23_G20, hu, hv]))
              refine refKind_w r G.rows hbd G.all nb ?_
              rw [hkb]
              (first | (simp (maxSteps := 1000000) (disch := first | omega | (simp only [AM.DB, List.length_set, List.length_map]; first | done | omega)) only [AM.RB, Nat.reduceAdd, Nat.reduceMul, Nat.reduceEqDiff, reduceCtorEq, b23_G20, hw]) | skip); (repeat' ((first | refine AM.drawW_fine hp (by kernel_rfl) (by kernel_rfl) ?_ | refine AM.opW_tied (by kernel_rfl) ?_ | refine AM.opW_untied (by kernel_rfl) ?_ | refine AM.build_w ?_); simp (maxSteps := 1000000) (disch := first | omega | (simp only [AM.DB, List.length_set, List.length_map]; first | done | omega)) only [AM.RB, Nat.reduceAdd, Nat.reduceMul, Nat.reduceEqDiff, reduceCtorEq, b23_G20, hw]))
              exact hq'
          · (first | (simp (maxSteps := 1000000) (disch := first | omega | (simp only [AM.DB, List.length_set, List.length_map]; first | done | omega)) only [AM.RB, Nat.reduceAdd, Nat.reduceMul, Nat.reduceEqDiff, reduceCtorEq, b23_G20, hu]) | skip); (repeat' ((first | refine AM.drawW_fine hp (by kernel_rfl) (by kernel_rfl) ?_ | refine AM.opW_tied (by kernel_rfl) ?_ | refine AM.opW_untied (by kernel_rfl) ?_ | refine AM.build_w ?_); simp (maxSteps := 1000000) (disch := first | omega | (simp only [AM.DB, List.length_set, List.length_map]; first | done | omega)) only [AM.RB, Nat.reduceAdd, Nat.reduceMul, Nat.reduceEqDiff, reduceCtorEq, b23_G20, hu]))
            refine refKind_w r G.rows hbd G.all nb ?_
            rw [hkb]
            (first | (simp (maxSteps := 1000000) (disch := first | omega | (simp only [AM.DB, List.length_set, List.length_map]; first | done | omega)) only [AM.RB, Nat.reduceAdd, Nat.reduceMul, Nat.reduceEqDiff, reduceCtorEq, b23_G20, hw]) | skip); (repeat' ((first | refine AM.drawW_fine hp (by kernel_rfl) (by kernel_rfl) ?_ | refine AM.opW_tied (by kernel_rfl) ?_ | refine AM.opW_untied (by kernel_rfl) ?_ | refine AM.build_w ?_); simp (maxSteps := 1000000) (disch := first | omega | (simp only [AM.DB, List.length_set, List.length_map]; first | done | omega)) only [AM.RB, Nat.reduceAdd, Nat.reduceMul, Nat.reduceEqDiff, reduceCtorEq, b23_G20, hw]))
            exact hq'
        · rw [if_neg (fun q => cN q), if_neg (by omega), if_neg (by omega)] at hq
          (first | (simp (maxSteps := 1000000) (disch := first | omega | (simp only [AM.DB, List.length_set, List.length_map]; first | done | omega)) only [AM.RB, Nat.reduceAdd, Nat.reduceMul, Nat.reduceEqDiff, reduceCtorEq, b23_G20, e1, w1, decide_eq_false c4]) | skip); (repeat' ((first | refine AM.drawW_fine hp (by kernel_rfl) (by kernel_rfl) ?_ | refine AM.opW_tied (by kernel_rfl) ?_ | refine AM.opW_untied (by kernel_rfl) ?_ | refine AM.build_w ?_); simp (maxSteps := 1000000) (disch := first | omega | (simp only [AM.DB, List.length_set, List.length_map]; first | done | omega)) only [AM.RB, Nat.reduceAdd, Nat.reduceMul, Nat.reduceEqDiff, reduceCtorEq, b23_G20, e1, w1, decide_eq_false c4]))
          obtain ⟨u, hu⟩ : ∃ x, decide ((ka.toNat : Int) = 46) = x := ⟨_, rfl⟩
          obtain ⟨v, hv⟩ : ∃ x, decide ((ka.toNat : Int) = 62) = x := ⟨_, rfl⟩
          obtain ⟨w, hw⟩ : ∃ x, decide ((kb.toNat : Int) = 60) = x := ⟨_, rfl⟩
          have hq' : Q (.bool ((u || v) && !w)) h := by rw [← hu, ← hv, ← hw]; exact hq
          refine refKind_w r G.rows hbd G.all na ?_
          rw [hka]
          cases u
          · cases v
            · (first | (simp (maxSteps := 1000000) (disch := first | omega | (simp only [AM.DB, List.length_set, List.length_map]; first | done | omega)) only [AM.RB, Nat.reduceAdd, Nat.reduceMul, Nat.reduceEqDiff, reduceCtorEq, b23_G20, hu, hv]) | skip); (repeat' ((first | refine AM.drawW_fine hp (by kernel_rfl) (by kernel_rfl) ?_ | refine AM.opW_tied (by kernel_rfl) ?_ | refine AM.opW_untied (by kernel_rfl) ?_ | refine AM.build_w ?_); simp (maxSteps := 1000000) (disch := first | omega | (simp only [AM.DB, List.length_set, List.length_map]; first | done | omega)) only [AM.RB, Nat.reduceAdd, Nat.reduceMul, Nat.reduceEqDiff, reduceCtorEq, b23_G20, hu, hv]))
              exact hq'
            · (first | (simp (maxSteps := 1000000) (disch := first | omega | (simp only [AM.DB, List.length_set, List.length_map]; first | done | omega)) only [AM.RB, Nat.reduceAdd, Nat.reduceMul, Nat.reduceEqDiff, reduceCtorEq, b23_G20, hu, hv]) | skip); (repeat' ((first | refine AM.drawW_fine hp (by kernel_rfl) (by kernel_rfl) ?_ | refine AM.opW_tied (by kernel_rfl) ?_ | refine AM.opW_untied (by kernel_rfl) ?_ | refine AM.build_w ?_); simp (maxSteps := 1000000) (disch := first | omega | (simp only [AM.DB, List.length_set, List.length_map]; first | done | omega)) only [AM.RB, Nat.reduceAdd, Nat.reduceMul, Nat.reduceEqDiff, reduceCtorEq, b23_G20, hu, hv]))
              refine refKind_w r G.rows hbd G.all nb ?_
              rw [hkb]
              (first | (simp (maxSteps := 1000000) (disch := first | omega | (simp only [AM.DB, List.length_set, List.length_map]; first | done | omega)) only [AM.RB, Nat.reduceAdd, Nat.reduceMul, Nat.reduceEqDiff, reduceCtorEq, b23_G20, hw]) | skip); (repeat' ((first | refine AM.drawW_fine hp (by kernel_rfl) (by kernel_rfl) ?_ | refine AM.opW_tied (by kernel_rfl) ?_ | refine AM.opW_untied (by kernel_rfl) ?_ | refine AM.build_w ?_); simp (maxSteps := 1000000) (disch := first | omega | (simp only [AM.DB, List.length_set, List.length_map]; first | done | omega)) only [AM.RB, Nat.reduceAdd, Nat.reduceMul, Nat.reduceEqDiff, reduceCtorEq, b23_G20, hw]))
              exact hq'
          · (first | (simp (maxSteps := 1000000) (disch := first | omega | (simp only [AM.DB, List.length_set, List.length_map]; first | done | omega)) only [AM.RB, Nat.reduceAdd, Nat.reduceMul, Nat.reduceEqDiff, reduceCtorEq, b23_G20, hu]) | skip); (repeat' ((first | refine AM.drawW_fine hp (by kernel_rfl) (by kernel_rfl) ?_ | refine AM.opW_tied (by kernel_rfl) ?_ | refine AM.opW_untied (by kernel_rfl) ?_ | refine AM.build_w ?_); simp (maxSteps := 1000000) (disch := first | omega | (simp only [AM.DB, List.length_set, List.length_map]; first | done | omega)) only [AM.RB, Nat.reduceAdd, Nat.reduceMul, Nat.reduceEqDiff, reduceCtorEq, b23_G20, hu]))
            refine refKind_w r G.rows hbd G.all nb ?_
            rw [hkb]
            (first | (simp (maxSteps := 1000000) (disch := first | omega | (simp only [AM.DB, List.length_set, List.length_map]; first | done | omega)) only [AM.RB, Nat.reduceAdd, Nat.reduceMul, Nat.reduceEqDiff, reduceCtorEq, b23_G20, hw]) | skip); (repeat' ((first | refine AM.drawW_fine hp (by kernel_rfl) (by kernel_rfl) ?_ | refine AM.opW_tied (by kernel_rfl) ?_ | refine AM.opW_untied (by kernel_rfl) ?_ | refine AM.build_w ?_); simp (maxSteps := 1000000) (disch := first | omega | (simp only [AM.DB, List.length_set, List.length_map]; first | done | omega)) only [AM.RB, Nat.reduceAdd, Nat.reduceMul, Nat.reduceEqDiff, reduceCtorEq, b23_G20, hw]))
            exact hq'
  · have cN : ¬ ((nb : Int) = (na : Int) - 1 ∧ x2 = x1) := fun q => c1 q.1
    (first | (simp (maxSteps := 1000000) (disch := first | omega | (simp only [AM.DB, List.length_set, List.length_map]; first | done | omega)) only [AM.RB, Nat.reduceAdd, Nat.reduceMul, Nat.reduceEqDiff, reduceCtorEq, b23_G20, decide_eq_true hf1, AM.wrap_i64, decide_eq_false c1]) | skip); (repeat' ((first | refine AM.drawW_fine hp (by kernel_rfl) (by kernel_rfl) ?_ | refine AM.opW_tied (by kernel_rfl) ?_ | refine AM.opW_untied (by kernel_rfl) ?_ | refine AM.build_w ?_); simp (maxSteps := 1000000) (disch := first | omega | (simp only [AM.DB, List.length_set, List.length_map]; first | done | omega)) only [AM.RB, Nat.reduceAdd, Nat.reduceMul, Nat.reduceEqDiff, reduceCtorEq, b23_G20, decide_eq_true hf1, AM.wrap_i64, decide_eq_false c1]))
    by_cases c3 : (x2 : Int) < x1
    · rw [if_neg (fun q => cN q), if_pos (by omega)] at hq
      (first | (simp (maxSteps := 1000000) (disch := first | omega | (simp only [AM.DB, List.length_set, List.length_map]; first | done | omega)) only [AM.RB, Nat.reduceAdd, Nat.reduceMul, Nat.reduceEqDiff, reduceCtorEq, b23_G20, decide_eq_true hf1, AM.wrap_i64]) | skip); (repeat' ((first | refine AM.drawW_fine hp (by kernel_rfl) (by kernel_rfl) ?_ | refine AM.opW_tied (by kernel_rfl) ?_ | refine AM.opW_untied (by kernel_rfl) ?_ | refine AM.build_w ?_); simp (maxSteps := 1000000) (disch := first | omega | (simp only [AM.DB, List.length_set, List.length_map]; first | done | omega)) only [AM.RB, Nat.reduceAdd, Nat.reduceMul, Nat.reduceEqDiff, reduceCtorEq, b23_G20, decide_eq_true hf1, AM.wrap_i64]))
      refine refCols_w r G.rows ?_
      (first | (simp (maxSteps := 1000000) (disch := first | omega | (simp only [AM.DB, List.length_set, List.length_map]; first | done | omega)) only [AM.RB, Nat.reduceAdd, Nat.reduceMul, Nat.reduceEqDiff, reduceCtorEq, b23_G20, e2, w2]) | skip); (repeat' ((first | refine AM.drawW_fine hp (by kernel_rfl) (by kernel_rfl) ?_ | refine AM.opW_tied (by kernel_rfl) ?_ | refine AM.opW_untied (by kernel_rfl) ?_ | refine AM.build_w ?_); simp (maxSteps := 1000000) (disch := first | omega | (simp only [AM.DB, List.length_set, List.length_map]; first | done | omega)) only [AM.RB, Nat.reduceAdd, Nat.reduceMul, Nat.reduceEqDiff, reduceCtorEq, b23_G20, e2, w2]))
      refine refCols_w r G.rows ?_
      (first | (simp (maxSteps := 1000000) (disch := first | omega | (simp only [AM.DB, List.length_set, List.length_map]; first | done | omega)) only [AM.RB, Nat.reduceAdd, Nat.reduceMul, Nat.reduceEqDiff, reduceCtorEq, b23_G20, e1, w1, decide_eq_true c3]) | skip); (repeat' ((first | refine AM.drawW_fine hp (by kernel_rfl) (by kernel_rfl) ?_ | refine AM.opW_tied (by kernel_rfl) ?_ | refine AM.opW_untied (by kernel_rfl) ?_ | refine AM.build_w ?_); simp (maxSteps := 1000000) (disch := first | omega | (simp only [AM.DB, List.length_set, List.length_map]; first | done | omega)) only [AM.RB, Nat.reduceAdd, Nat.reduceMul, Nat.reduceEqDiff, reduceCtorEq, b23_G20, e1, w1, decide_eq_true c3]))
      obtain ⟨u, hu⟩ : ∃ x, decide ((ka.toNat : Int) = 46) = x := ⟨_, rfl⟩
      obtain ⟨v, hv⟩ : ∃ x, decide ((ka.toNat : Int) = 94) = x := ⟨_, rfl⟩
      obtain ⟨w, hw⟩ : ∃ x, decide ((kb.toNat : Int) = 118) = x := ⟨_, rfl⟩
      have hq' : Q (.bool ((u || v) && !w)) h := by rw [← hu, ← hv, ← hw]; exact hq
      refine refKind_w r G.rows hbd G.all na ?_
      rw [hka]
      cases u
      · cases v
        · (first | (simp (maxSteps := 1000000) (disch := first | omega | (simp only [AM.DB, List.length_set, List.length_map]; first | done | omega)) only [AM.RB, Nat.reduceAdd, Nat.reduceMul, Nat.reduceEqDiff, reduceCtorEq, b23_G20, hu, hv]) | skip); (repeat' ((first | refine AM.drawW_fine hp (by kernel_rfl) (by kernel_rfl) ?_ | refine AM.opW_tied (by kernel_rfl) ?_ | refine AM.opW_untied (by kernel_rfl) ?_ | refine AM.build_w ?_); simp (maxSteps := 1000000) (disch := first | omega | (simp only [AM.DB, List.length_set, List.length_map]; first | done | omega)) only [AM.RB, Nat.reduceAdd, Nat.reduceMul, Nat.reduceEqDiff, reduceCtorEq, b23_G20, hu, hv]))
          exact hq'
        · (first | (simp (maxSteps := 1000000) (disch := first | omega | (simp only [AM.DB, List.length_set, List.length_map]; first | done | omega)) only [AM.RB, Nat.reduceAdd, Nat.reduceMul, Nat.reduceEqDiff, reduceCtorEq, b23_G20, hu, hv]) | skip); (repeat' ((first | refine AM.drawW_fine hp (by kernel_rfl) (by kernel_rfl) ?_ | refine AM.opW_tied (by kernel_rfl) ?_ | refine AM.opW_untied (by kernel_rfl) ?_ | refine AM.build_w ?_); simp (maxSteps := 1000000) (disch := first | omega | (simp only [AM.DB, List.length_set, List.length_map]; first | done | omega)) only [AM.RB, Nat.reduceAdd, Nat.reduceMul, Nat.reduceEqDiff, reduceCtorEq, b23_G20, hu, hv]))
          refine refKind_w r G.rows hbd G.all nb ?_
          rw [hkb]
          (first | (simp (maxSteps := 1000000) (disch := first | omega | (simp only [AM.DB, List.length_set, List.length_map]; first | done | omega)) only [AM.RB, Nat.reduceAdd, Nat.reduceMul, Nat.reduceEqDiff, reduceCtorEq, b23_G20, hw]) | skip); (repeat' ((first | refine AM.drawW_fine hp (by kernel_rfl) (by kernel_rfl) ?_ | refine AM.opW_tied (by kernel_rfl) ?_ | refine AM.opW_untied (by kernel_rfl) ?_ | refine AM.build_w ?_); simp (maxSteps := 1000000) (disch := first | omega | (simp only [AM.DB, List.length_set, List.length_map]; first | done | omega)) only [AM.RB, Nat.reduceAdd, Nat.reduceMul, Nat.reduceEqDiff, reduceCtorEq, b23_G20, hw]))
          exact hq'
      · (first | (simp (maxSteps := 1000000) (disch := first | omega | (simp only [AM.DB, List.length_set, List.length_map]; first | done | omega)) only [AM.RB, Nat.reduceAdd, Nat.reduceMul, Nat.reduceEqDiff, reduceCtorEq, b23_G20, hu]) | skip); (repeat' ((first | refine AM.drawW_fine hp (by kernel_rfl) (by kernel_rfl) ?_ | refine AM.opW_tied (by kernel_rfl) ?_ | refine AM.opW_untied (by kernel_rfl) ?_ | refine AM.build_w ?_); simp (maxSteps := 1000000) (disch := first | omega | (simp only [AM.DB, List.length_set, List.length_map]; first | done | omega)) only [AM.RB, Nat.reduceAdd, Nat.reduceMul, Nat.reduceEqDiff, reduceCtorEq, b23_G20, hu]))
        refine refKind_w r G.rows hbd G.all nb ?_
        rw [hkb]
        (first | (simp (maxSteps := 1000000) (disch := first | omega | (simp only [AM.DB, List.length_set, List.length_map]; first | done | omega)) only [AM.RB, Nat.reduceAdd, Nat.reduceMul, Nat.reduceEqDiff, reduceCtorEq, b23_G20, hw]) | skip); (repeat' ((first | refine AM.drawW_fine hp (by kernel_rfl) (by kernel_rfl) ?_ | refine AM.opW_tied (by kernel_rfl) ?_ | refine AM.opW_untied (by kernel_rfl) ?_ | refine AM.build_w ?_); simp (maxSteps := 1000000) (disch := first | omega | (simp only [AM.DB, List.length_set, List.length_map]; first | done | omega)) only [AM.RB, Nat.reduceAdd, Nat.reduceMul, Nat.reduceEqDiff, reduceCtorEq, b23_G20, hw]))
        exact hq'
    · (first | (simp (maxSteps := 1000000) (disch := first | omega | (simp only [AM.DB, List.length_set, List.length_map]; first | done | omega)) only [AM.RB, Nat.reduceAdd, Nat.reduceMul, Nat.reduceEqDiff, reduceCtorEq, b23_G20, decide_eq_true hf1, AM.wrap_i64]) | skip); (repeat' ((first | refine AM.drawW_fine hp (by kernel_rfl) (by kernel_rfl) ?_ | refine AM.opW_tied (by kernel_rfl) ?_ | refine AM.opW_untied (by kernel_rfl) ?_ | refine AM.build_w ?_); simp (maxSteps := 1000000) (disch := first | omega | (simp only [AM.DB, List.length_set, List.length_map]; first | done | omega)) only [AM.RB, Nat.reduceAdd, Nat.reduceMul, Nat.reduceEqDiff, reduceCtorEq, b23_G20, decide_eq_true hf1, AM.wrap_i64]))
      refine refCols_w r G.rows ?_
      (first | (simp (maxSteps := 1000000) (disch := first | omega | (simp only [AM.DB, List.length_set, List.length_map]; first | done | omega)) only [AM.RB, Nat.reduceAdd, Nat.reduceMul, Nat.reduceEqDiff, reduceCtorEq, b23_G20, e2, w2]) | skip); (repeat' ((first | refine AM.drawW_fine hp (by kernel_rfl) (by kernel_rfl) ?_ | refine AM.opW_tied (by kernel_rfl) ?_ | refine AM.opW_untied (by kernel_rfl) ?_ | refine AM.build_w ?_); simp (maxSteps := 1000000) (disch := first | omega | (simp only [AM.DB, List.length_set, List.length_map]; first | done | omega)) only [AM.RB, Nat.reduceAdd, Nat.reduceMul, Nat.reduceEqDiff, reduceCtorEq, b23_G20, e2, w2]))
      refine refCols_w r G.rows ?_
      (first | (simp (maxSteps := 1000000) (disch := first | omega | (simp only [AM.DB, List.length_set, List.length_map]; first | done | omega)) only [AM.RB, Nat.reduceAdd, Nat.reduceMul, Nat.reduceEqDiff, reduceCtorEq, b23_G20, e1, w1, decide_eq_false c3]) | skip); (repeat' ((first | refine AM.drawW_fine hp (by kernel_rfl) (by kernel_rfl) ?_ | refine AM.opW_tied (by kernel_rfl) ?_ | refine AM.opW_untied (by kernel_rfl) ?_ | refine AM.build_w ?_); simp (maxSteps := 1000000) (disch := first | omega | (simp only [AM.DB, List.length_set, List.length_map]; first | done | omega)) only [AM.RB, Nat.reduceAdd, Nat.reduceMul, Nat.reduceEqDiff, reduceCtorEq, b23_G20, e1, w1, decide_eq_false c3]))
      refine refCols_w r G.rows ?_
      (first | (simp (maxSteps := 1000000) (disch := first | omega | (simp only [AM.DB, List.length_set, List.length_map]; first | done | omega)) only [AM.RB, Nat.reduceAdd, Nat.reduceMul, Nat.reduceEqDiff, reduceCtorEq, b23_G20, e2, w2]) | skip); (repeat' ((first | refine AM.drawW_fine hp (by kernel_rfl) (by kernel_rfl) ?_ | refine AM.opW_tied (by kernel_rfl) ?_ | refine AM.opW_untied (by kernel_rfl) ?_ | refine AM.build_w ?_); simp (maxSteps := 1000000) (disch := first | omega | (simp only [AM.DB, List.length_set, List.length_map]; first | done | omega)) only [AM.RB, Nat.reduceAdd, Nat.reduceMul, Nat.reduceEqDiff, reduceCtorEq, b23_G20, e2, w2]))
      refine refCols_w r G.rows ?_
      by_cases c4 : (x1 : Int) < x2
      · rw [if_neg (fun q => cN q), if_neg (by omega), if_pos (by omega)] at hq
        (first | (simp (maxSteps := 1000000) (disch := first | omega | (simp only [AM.DB, List.length_set, List.length_map]; first | done | omega)) only [AM.RB, Nat.reduceAdd, Nat.reduceMul, Nat.reduceEqDiff, reduceCtorEq, b23_G20, e1, w1, decide_eq_true c4]) | skip); (repeat' ((first | refine AM.drawW_fine hp (by kernel_rfl) (by kernel_rfl) ?_ | refine AM.opW_tied (by kernel_rfl) ?_ | refine AM.opW_untied (by kernel_rfl) ?_ | refine AM.build_w ?_); simp (maxSteps := 1000000) (disch := first | omega | (simp only [AM.DB, List.length_set, List.length_map]; first | done | omega)) only [AM.RB, Nat.reduceAdd, Nat.reduceMul, Nat.reduceEqDiff, reduceCtorEq, b23_G20, e1, w1, decide_eq_true c4]))
        obtain ⟨u, hu⟩ : ∃ x, decide ((ka.toNat : Int) = 46) = x := ⟨_, rfl⟩
        obtain ⟨v, hv⟩ : ∃ x, decide ((ka.toNat : Int) = 118) = x := ⟨_, rfl⟩
        obtain ⟨w, hw⟩ : ∃ x, decide ((kb.toNat : Int) = 94) = x := ⟨_, rfl⟩
        have hq' : Q (.bool ((u || v) && !w)) h := by rw [← hu, ← hv, ← hw]; exact hq
        refine refKind_w r G.rows hbd G.all na ?_
        rw [hka]
        cases u
        · cases v
          · (first | (simp (maxSteps := 1000000) (disch := first | omega | (simp only [AM.DB, List.length_set, List.length_map]; first | done | omega)) only [AM.RB, Nat.reduceAdd, Nat.reduceMul, Nat.reduceEqDiff, reduceCtorEq, b23_G20, hu, hv]) | skip); (repeat' ((first | refine AM.drawW_fine hp (by kernel_rfl) (by kernel_rfl) ?_ | refine AM.opW_tied (by kernel_rfl) ?_ | refine AM.opW_untied (by kernel_rfl) ?_ | refine AM.build_w ?_); simp (maxSteps := 1000000) (disch := first | omega | (simp only [AM.DB, List.length_set, List.length_map]; first | done | omega)) only [AM.RB, Nat.reduceAdd, Nat.reduceMul, Nat.reduceEqDiff, reduceCtorEq, b23_G20, hu, hv]))
            exact hq'
          · (first | (simp (maxSteps := 1000000) (disch := first | omega | (simp only [AM.DB, List.length_set, List.length_map]; first | done | omega)) only [AM.RB, Nat.reduceAdd, Nat.reduceMul, Nat.reduceEqDiff, reduceCtorEq, b23_G20, hu, hv]) | skip); (repeat' ((first | refine AM.drawW_fine hp (by kernel_rfl) (by kernel_rfl) ?_ | refine AM.opW_tied (by kernel_rfl) ?_ | refine AM.opW_untied (by kernel_rfl) ?_ | refine AM.build_w ?_); simp (maxSteps := 1000000) (disch := first | omega | (simp only [AM.DB, List.length_set, List.length_map]; first | done | omega)) only [AM.RB, Nat.reduceAdd, Nat.reduceMul, Nat.reduceEqDiff, reduceCtorEq, b23_G20, hu, hv]))
            refine refKind_w r G.rows hbd G.all nb ?_
            rw [hkb]
            (first | (simp (maxSteps := 1000000) (disch := first | omega | (simp only [AM.DB, List.length_set, List.length_map]; first | done | omega)) only [AM.RB, Nat.reduceAdd, Nat.reduceMul, Nat.reduceEqDiff, reduceCtorEq, b23_G20, hw]) | skip); (repeat' ((first | refine AM.drawW_fine hp (by kernel_rfl) (by kernel_rfl) ?_ | refine AM.opW_tied (by kernel_rfl) ?_ | refine AM.opW_untied (by kernel_rfl) ?_ | refine AM.build_w ?_); simp (maxSteps := 1000000) (disch := first | omega | (simp only [AM.DB, List.length_set, List.length_map]; first | done | omega)) only [AM.RB, Nat.reduceAdd, Nat.reduceMul, Nat.reduceEqDiff, reduceCtorEq, b23_G20, hw]))
            exact hq'
        · (first | (simp (maxSteps := 1000000) (disch := first | omega | (simp only [AM.DB, List.length_set, List.length_map]; first | done | omega)) only [AM.RB, Nat.reduceAdd, Nat.reduceMul, Nat.reduceEqDiff, reduceCtorEq, b23_G20, hu]) | skip); (repeat' ((first | refine AM.drawW_fine hp (by kernel_rfl) (by kernel_rfl) ?_ | refine AM.opW_tied (by kernel_rfl) ?_ | refine AM.opW_untied (by kernel_rfl) ?_ | refine AM.build_w ?_); simp (maxSteps := 1000000) (disch := first | omega | (simp only [AM.DB, List.length_set, List.length_map]; first | done | omega)) only [AM.RB, Nat.reduceAdd, Nat.reduceMul, Nat.reduceEqDiff, reduceCtorEq, b23_G20, hu]))
          refine refKind_w r G.rows hbd G.all nb ?_
          rw [hkb]
          (first | (simp (maxSteps := 1000000) (disch := first | omega | (simp only [AM.DB, List.length_set, List.length_map]; first | done | omega)) only [AM.RB, Nat.reduceAdd, Nat.reduceMul, Nat.reduceEqDiff, reduceCtorEq, b23_G20, hw]) | skip); (repeat' ((first | refine AM.drawW_fine hp (by kernel_rfl) (by kernel_rfl) ?_ | refine AM.opW_tied (by kernel_rfl) ?_ | refine AM.opW_untied (by kernel_rfl) ?_ | refine AM.build_w ?_); simp (maxSteps := 1000000) (disch := first | omega | (simp only [AM.DB, List.length_set, List.length_map]; first | done | omega)) only [AM.RB, Nat.reduceAdd, Nat.reduceMul, Nat.reduceEqDiff, reduceCtorEq, b23_G20, hw]))
          exact hq'
      · rw [if_neg (fun q => cN q), if_neg (by omega), if_neg (by omega)] at hq
        (first | (simp (maxSteps := 1000000) (disch := first | omega | (simp only [AM.DB, List.length_set, List.length_map]; first | done | omega)) only [AM.RB, Nat.reduceAdd, Nat.reduceMul, Nat.reduceEqDiff, reduceCtorEq, b23_G20, e1, w1, decide_eq_false c4]) | skip); (repeat' ((first | refine AM.drawW_fine hp (by kernel_rfl) (by kernel_rfl) ?_ | refine AM.opW_tied (by kernel_rfl) ?_ | refine AM.opW_untied (by kernel_rfl) ?_ | refine AM.build_w ?_); simp (maxSteps := 1000000) (disch := first | omega | (simp only [AM.DB, List.length_set, List.length_map]; first | done | omega)) only [AM.RB, Nat.reduceAdd, Nat.reduceMul, Nat.reduceEqDiff, reduceCtorEq, b23_G20, e1, w1, decide_eq_false c4]))
        obtain ⟨u, hu⟩ : ∃ x, decide ((ka.toNat : Int) = 46) = x := ⟨_, rfl⟩
        obtain ⟨v, hv⟩ : ∃ x, decide ((ka.toNat : Int) = 62) = x := ⟨_, rfl⟩
        obtain ⟨w, hw⟩ : ∃ x, decide ((kb.toNat : Int) = 60) = x := ⟨_, rfl⟩
        have hq' : Q (.bool ((u || v) && !w)) h := by rw [← hu, ← hv, ← hw]; exact hq
        refine refKind_w r G.rows hbd G.all na ?_
        rw [hka]
        cases u
        · cases v
          · (first | (simp (maxSteps := 1000000) (disch := first | omega | (simp only [AM.DB, List.length_set, List.length_map]; first | done | omega)) only [AM.RB, Nat.reduceAdd, Nat.reduceMul, Nat.reduceEqDiff, reduceCtorEq, b23_G20, hu, hv]) | skip); (repeat' ((first | refine AM.drawW_fine hp (by kernel_rfl) (by kernel_rfl) ?_ | refine AM.opW_tied (by kernel_rfl) ?_ | refine AM.opW_untied (by kernel_rfl) ?_ | refine AM.build_w ?_); simp (maxSteps := 1000000) (disch := first | omega | (simp only [AM.DB, List.length_set, List.length_map]; first | done | omega)) only [AM.RB, Nat.reduceAdd, Nat.reduceMul, Nat.reduceEqDiff, reduceCtorEq, b23_G20, hu, hv]))
            exact hq'
          · (first | (simp (maxSteps := 1000000) (disch := first | omega | (simp only [AM.DB, List.length_set, List.length_map]; first | done | omega)) only [AM.RB, Nat.reduceAdd, Nat.reduceMul, Nat.reduceEqDiff, reduceCtorEq, b23_G20, hu, hv]) | skip); (repeat' ((first | refine AM.drawW_fine hp (by kernel_rfl) (by kernel_rfl) ?_ | refine AM.opW_tied (by kernel_rfl) ?_ | refine AM.opW_untied (by kernel_rfl) ?_ | refine AM.build_w ?_); simp (maxSteps := 1000000) (disch := first | omega | (simp only [AM.DB, List.length_set, List.length_map]; first | done | omega)) only [AM.RB, Nat.reduceAdd, Nat.reduceMul, Nat.reduceEqDiff, reduceCtorEq, b23_G20, hu, hv]))
            refine refKind_w r G.rows hbd G.all nb ?_
            rw [hkb]
            (first | (simp (maxSteps := 1000000) (disch := first | omega | (simp only [AM.DB, List.length_set, List.length_map]; first | done | omega)) only [AM.RB, Nat.reduceAdd, Nat.reduceMul, Nat.reduceEqDiff, reduceCtorEq, b23_G20, hw]) | skip); (repeat' ((first | refine AM.drawW_fine hp (by kernel_rfl) (by kernel_rfl) ?_ | refine AM.opW_tied (by kernel_rfl) ?_ | refine AM.opW_untied (by kernel_rfl) ?_ | refine AM.build_w ?_); simp (maxSteps := 1000000) (disch := first | omega | (simp only [AM.DB, List.length_set, List.length_map]; first | done | omega)) only [AM.RB, Nat.reduceAdd, Nat.reduceMul, Nat.reduceEqDiff, reduceCtorEq, b23_G20, hw]))
            exact hq'
        · (first | (simp (maxSteps := 1000000) (disch := first | omega | (simp only [AM.DB, List.length_set, List.length_map]; first | done | omega)) only [AM.RB, Nat.reduceAdd, Nat.reduceMul, Nat.reduceEqDiff, reduceCtorEq, b23_G20, hu]) | skip); (repeat' ((first | refine AM.drawW_fine hp (by kernel_rfl) (by kernel_rfl) ?_ | refine AM.opW_tied (by kernel_rfl) ?_ | refine AM.opW_untied (by kernel_rfl) ?_ | refine AM.build_w ?_); simp (maxSteps := 1000000) (disch := first | omega | (simp only [AM.DB, List.length_set, List.length_map]; first | done | omega)) only [AM.RB, Nat.reduceAdd, Nat.reduceMul, Nat.reduceEqDiff, reduceCtorEq, b23_G20, hu]))
          refine refKind_w r G.rows hbd G.all nb ?_
          rw [hkb]
          (first | (simp (maxSteps := 1000000) (disch := first | omega | (simp only [AM.DB, List.length_set, List.length_map]; first | done | omega)) only [AM.RB, Nat.reduceAdd, Nat.reduceMul, Nat.reduceEqDiff, reduceCtorEq, b23_G20, hw]) | skip); (repeat' ((first | refine AM.drawW_fine hp (by kernel_rfl) (by kernel_rfl) ?_ | refine AM.opW_tied (by kernel_rfl) ?_ | refine AM.opW_untied (by kernel_rfl) ?_ | refine AM.build_w ?_); simp (maxSteps := 1000000) (disch := first | omega | (simp only [AM.DB, List.length_set, List.length_map]; first | done | omega)) only [AM.RB, Nat.reduceAdd, Nat.reduceMul, Nat.reduceEqDiff, reduceCtorEq, b23_G20, hw]))
          exact hq'

/-! ### Lists of the document's -/
def nxt (L : List (List UInt8)) (a : Int) (n : Nat) : List Int := ((List.range n).filter fun (b : Nat) => edgeL L a b).map fun (b : Nat) => (b : Int)
def bck (L : List (List UInt8)) (b : Int) (n : Nat) : List Int := ((List.range n).filter fun (a : Nat) => edgeL L a b).map fun (a : Nat) => (a : Int)
theorem nxt_succ (L : List (List UInt8)) (a : Int) (n : Nat) : nxt L a (n + 1) = nxt L a n ++ if edgeL L a n = true then [(n : Int)] else [] := by
  unfold nxt
  rw [List.range_succ, List.filter_append, List.map_append, List.filter_cons]
  congr 1
  split <;> simp
theorem bck_succ (L : List (List UInt8)) (b : Int) (n : Nat) : bck L b (n + 1) = bck L b n ++ if edgeL L n b = true then [(n : Int)] else [] := by
  unfold bck
  rw [List.range_succ, List.filter_append, List.map_append, List.filter_cons]
  congr 1
  split <;> simp
theorem nxt_len (L : List (List UInt8)) (a : Int) (n : Nat) : (nxt L a n).length ≤ n := by
  unfold nxt; rw [List.length_map]; exact Nat.le_trans (List.length_filter_le _ _) (by simp)
theorem bck_len (L : List (List UInt8)) (a : Int) (n : Nat) : (bck L a n).length ≤ n := by
  unfold bck; rw [List.length_map]; exact Nat.le_trans (List.length_filter_le _ _) (by simp)
theorem nxt_eq {L : List (List UInt8)} (f : Fit L) (a : Int) : nxt L a L.flatten.length = nextL L a := by
  rw [nextL_eq f]
  unfold nxt
  split
  · rename_i h
    congr 1
    apply List.filter_congr
    intro b hb
    have := List.mem_range.1 hb
    unfold edgeL
    rw [decide_eq_true ⟨h, by omega, by omega⟩, Bool.true_and, Int.toNat_natCast]
  · rename_i h
    rw [List.map_eq_nil_iff, List.filter_eq_nil_iff]
    intro b _
    unfold edgeL
    rw [decide_eq_false (fun q => h q.1)]; simp
theorem bck_eq {L : List (List UInt8)} (f : Fit L) (b : Int) : bck L b L.flatten.length = backL L b := by
  rw [backL_eq f]
  unfold bck
  split
  · rename_i h
    congr 1
    apply List.filter_congr
    intro a ha
    have := List.mem_range.1 ha
    unfold edgeL
    rw [decide_eq_true ⟨⟨by omega, by omega⟩, h⟩, Bool.true_and, Int.toNat_natCast]
  · rename_i h
    rw [List.map_eq_nil_iff, List.filter_eq_nil_iff]
    intro a _
    unfold edgeL
    rw [decide_eq_false (fun q => h q.2)]; simp
theorem edge_mem {L : List (List UInt8)} (f : Fit L) (a b : Int) : decide (b ∈ nextL L a) = edgeL L a b := by
  rw [← nxt_eq f]
  unfold nxt
  cases he : edgeL L a b with
  | true =>
    have h := he
    unfold edgeL at h
    rw [Bool.and_eq_true, decide_eq_true_eq] at h
    obtain ⟨⟨_, h1, h2⟩, _⟩ := h
    obtain ⟨n, rfl⟩ := Int.eq_ofNat_of_zero_le h1
    exact decide_eq_true (List.mem_map.2 ⟨n, List.mem_filter.2 ⟨List.mem_range.2 (by omega), he⟩, rfl⟩)
  | false =>
    refine decide_eq_false fun q => ?_
    obtain ⟨n, hn, rfl⟩ := List.mem_map.1 q
    rw [(List.mem_filter.1 hn).2] at he; cases he

theorem refNext_w {h : AHeap} {p : Nat} {lv : Value} {L : List (List UInt8)} {l : List UInt8} (r : Rp h p lv L) (G : Good l L) (hl : h.low ≤ h.next) (a : Int) {Q : VQ}
    (hq : ∀ v h', Ow h' 3 1 v (nextL L a).length ((nextL L a).map (.int .i64)) → Fr none' h h' → (∀ id, idOf v id → h.next ≤ id) → Q v h') : W 20 [pv p, .int .i64 a] h Q := by
  have hK := G.fit.k1024
  have hbd : L.length ≤ 4000000 ∧ (L.getD 0 []).length ≤ 4000000 := by have := G.r32; have := G.c32; omega
  have glen := G.len
  refine AM.enter hp (fn := Tryd.f20) (rs := [.tmp 4]) (nt := 22) (by kernel_rfl) Tryd.func20 rfl rfl rfl (by kernel_rfl) ?_
  (first | (simp (maxSteps := 1000000) (disch := first | omega | (simp only [AM.DB, List.length_set, List.length_map]; first | done | omega)) only [AM.RB, Nat.reduceAdd, Nat.reduceMul, Nat.reduceEqDiff, reduceCtorEq, b20_G20]) | skip); (repeat' ((first | refine AM.drawW_fine hp (by kernel_rfl) (by kernel_rfl) ?_ | refine AM.opW_tied (by kernel_rfl) ?_ | refine AM.opW_untied (by kernel_rfl) ?_ | refine AM.build_w ?_); simp (maxSteps := 1000000) (disch := first | omega | (simp only [AM.DB, List.length_set, List.length_map]; first | done | omega)) only [AM.RB, Nat.reduceAdd, Nat.reduceMul, Nat.reduceEqDiff, reduceCtorEq, b20_G20]))
  refine AM.loop_w hp 22 (fun q : Nat × Value => [(0, pv p), (1, .int .i64 a), (5, q.2), (6, .int .i64 q.1)])
    (fun q h' => q.1 ≤ L.flatten.length ∧ Fr none' h h' ∧ Ow h' 3 1 q.2 (nxt L a q.1).length ((nxt L a q.1).map (.int .i64)) ∧ ∀ id, idOf q.2 id → h.next ≤ id) (fun q => L.flatten.length - q.1) (by kernel_rfl) (0, .slice none 0 0) ?_ ?_ ?_
  · simp (maxSteps := 1000000) (disch := first | omega | (simp only [AM.DB, List.length_set, List.length_map]; first | done | omega)) only [AM.RB, Nat.reduceAdd, Nat.reduceMul, Nat.reduceEqDiff, reduceCtorEq, b20_G20]
  · exact ⟨Nat.zero_le _, Fr.refl _ _, Ow.nil _ _ _, fun _ q => q.elim⟩
  rintro ⟨n, s⟩ h1 ρ ⟨hn, fr, ho, hid⟩
  simp only at hn ho hid ⊢
  have r1 := r.fr0 fr
  have hl1 := hl.fr0 fr
  have nx1 := fr.next
  have hal := nxt_len L a n
  obtain ⟨sa, sc, rfl⟩ := ho.form
  (first | (simp (maxSteps := 1000000) (disch := first | omega | (simp only [AM.DB, List.length_set, List.length_map]; first | done | omega)) only [AM.RB, Nat.reduceAdd, Nat.reduceMul, Nat.reduceEqDiff, reduceCtorEq, b20_G20]) | skip); (repeat' ((first | refine AM.drawW_fine hp (by kernel_rfl) (by kernel_rfl) ?_ | refine AM.opW_tied (by kernel_rfl) ?_ | refine AM.opW_untied (by kernel_rfl) ?_ | refine AM.build_w ?_); simp (maxSteps := 1000000) (disch := first | omega | (simp only [AM.DB, List.length_set, List.length_map]; first | done | omega)) only [AM.RB, Nat.reduceAdd, Nat.reduceMul, Nat.reduceEqDiff, reduceCtorEq, b20_G20]))
  refine refCells_w r1 G.rows hbd ?_
  (first | (simp (maxSteps := 1000000) (disch := first | omega | (simp only [AM.DB, List.length_set, List.length_map]; first | done | omega)) only [AM.RB, Nat.reduceAdd, Nat.reduceMul, Nat.reduceEqDiff, reduceCtorEq, b20_G20]) | skip); (repeat' ((first | refine AM.drawW_fine hp (by kernel_rfl) (by kernel_rfl) ?_ | refine AM.opW_tied (by kernel_rfl) ?_ | refine AM.opW_untied (by kernel_rfl) ?_ | refine AM.build_w ?_); simp (maxSteps := 1000000) (disch := first | omega | (simp only [AM.DB, List.length_set, List.length_map]; first | done | omega)) only [AM.RB, Nat.reduceAdd, Nat.reduceMul, Nat.reduceEqDiff, reduceCtorEq, b20_G20]))
  refine AM.condV_split (fun hlt => ?_) (fun hlt => ?_)
  · (first | (simp (maxSteps := 1000000) (disch := first | omega | (simp only [AM.DB, List.length_set, List.length_map]; first | done | omega)) only [AM.RB, Nat.reduceAdd, Nat.reduceMul, Nat.reduceEqDiff, reduceCtorEq, b20_G20]) | skip); (repeat' ((first | refine AM.drawW_fine hp (by kernel_rfl) (by kernel_rfl) ?_ | refine AM.opW_tied (by kernel_rfl) ?_ | refine AM.opW_untied (by kernel_rfl) ?_ | refine AM.build_w ?_); simp (maxSteps := 1000000) (disch := first | omega | (simp only [AM.DB, List.length_set, List.length_map]; first | done | omega)) only [AM.RB, Nat.reduceAdd, Nat.reduceMul, Nat.reduceEqDiff, reduceCtorEq, b20_G20]))
    refine refEdge_w r1 G a n ?_
    have hs := nxt_succ L a n
    cases he : edgeL L a n
    · rw [he, if_neg (by simp), List.append_nil] at hs
      (first | (simp (maxSteps := 1000000) (disch := first | omega | (simp only [AM.DB, List.length_set, List.length_map]; first | done | omega)) only [AM.RB, Nat.reduceAdd, Nat.reduceMul, Nat.reduceEqDiff, reduceCtorEq, b20_G20, AM.wrap_i64]) | skip); (repeat' ((first | refine AM.drawW_fine hp (by kernel_rfl) (by kernel_rfl) ?_ | refine AM.opW_tied (by kernel_rfl) ?_ | refine AM.opW_untied (by kernel_rfl) ?_ | refine AM.build_w ?_); simp (maxSteps := 1000000) (disch := first | omega | (simp only [AM.DB, List.length_set, List.length_map]; first | done | omega)) only [AM.RB, Nat.reduceAdd, Nat.reduceMul, Nat.reduceEqDiff, reduceCtorEq, b20_G20, AM.wrap_i64]))
      exact ⟨(n + 1, .slice sa (nxt L a n).length sc), by simp only; omega, ⟨rfl, congrArg _ (by simp only; omega)⟩, by simp only; omega, fr, by simp only; rw [hs]; exact ho, hid⟩
    · rw [he, if_pos rfl] at hs
      (first | (simp (maxSteps := 1000000) (disch := first | omega | (simp only [AM.DB, List.length_set, List.length_map]; first | done | omega)) only [AM.RB, Nat.reduceAdd, Nat.reduceMul, Nat.reduceEqDiff, reduceCtorEq, b20_G20, AM.wrap_i64]) | skip); (repeat' ((first | refine AM.drawW_fine hp (by kernel_rfl) (by kernel_rfl) ?_ | refine AM.opW_tied (by kernel_rfl) ?_ | refine AM.opW_untied (by kernel_rfl) ?_ | refine AM.build_w ?_); simp (maxSteps := 1000000) (disch := first | omega | (simp only [AM.DB, List.length_set, List.length_map]; first | done | omega)) only [AM.RB, Nat.reduceAdd, Nat.reduceMul, Nat.reduceEqDiff, reduceCtorEq, b20_G20, AM.wrap_i64]))
      generalize hE_ : AHeap.alloc h1 _ = h2; obtain ⟨g2, fr2, n2, l2⟩ := AM.new_get hE_; clear hE_
      refine AM.appends_w ap_29 ap_29 (ho.fr0 fr2) (AM.Rd.whole (n := 1) (c := [.int .i64 n]) g2 rfl) rfl (by omega) (AM.fits (by omega) (by omega)) (AM.fits' (by omega)) fun v3 h3 o3 fr3 hid3 => ?_
      obtain ⟨va, vc, rfl⟩ := o3.form
      (first | (simp (maxSteps := 1000000) (disch := first | omega | (simp only [AM.DB, List.length_set, List.length_map]; first | done | omega)) only [AM.RB, Nat.reduceAdd, Nat.reduceMul, Nat.reduceEqDiff, reduceCtorEq, b20_G20, AM.wrap_i64]) | skip); (repeat' ((first | refine AM.drawW_fine hp (by kernel_rfl) (by kernel_rfl) ?_ | refine AM.opW_tied (by kernel_rfl) ?_ | refine AM.opW_untied (by kernel_rfl) ?_ | refine AM.build_w ?_); simp (maxSteps := 1000000) (disch := first | omega | (simp only [AM.DB, List.length_set, List.length_map]; first | done | omega)) only [AM.RB, Nat.reduceAdd, Nat.reduceMul, Nat.reduceEqDiff, reduceCtorEq, b20_G20, AM.wrap_i64]))
      refine ⟨(n + 1, _), by simp only; omega, ⟨rfl, congrArg _ (by simp only; omega)⟩, by simp only; omega, (fr.trans fr2).fresh fr3 hid, ?_, fun id q => ?_⟩
      · simp only; rw [hs, List.length_append, List.map_append]; exact o3
      · rcases hid3 id q with q | q
        · exact hid id q
        · omega
  · have e : n = L.flatten.length := by omega
    subst e
    rw [nxt_eq G.fit] at ho
    (first | (simp (maxSteps := 1000000) (disch := first | omega | (simp only [AM.DB, List.length_set, List.length_map]; first | done | omega)) only [AM.RB, Nat.reduceAdd, Nat.reduceMul, Nat.reduceEqDiff, reduceCtorEq, b20_G20]) | skip); (repeat' ((first | refine AM.drawW_fine hp (by kernel_rfl) (by kernel_rfl) ?_ | refine AM.opW_tied (by kernel_rfl) ?_ | refine AM.opW_untied (by kernel_rfl) ?_ | refine AM.build_w ?_); simp (maxSteps := 1000000) (disch := first | omega | (simp only [AM.DB, List.length_set, List.length_map]; first | done | omega)) only [AM.RB, Nat.reduceAdd, Nat.reduceMul, Nat.reduceEqDiff, reduceCtorEq, b20_G20]))
    rw [nxt_eq G.fit]
    exact hq _ _ ho fr (by rw [nxt_eq G.fit] at hid; exact hid)
theorem refBack_w {h : AHeap} {p : Nat} {lv : Value} {L : List (List UInt8)} {l : List UInt8} (r : Rp h p lv L) (G : Good l L) (hl : h.low ≤ h.next) (a : Int) {Q : VQ}
    (hq : ∀ v h', Ow h' 3 1 v (backL L a).length ((backL L a).map (.int .i64)) → Fr none' h h' → (∀ id, idOf v id → h.next ≤ id) → Q v h') : W 22 [pv p, .int .i64 a] h Q := by
  have hK := G.fit.k1024
  have hbd : L.length ≤ 4000000 ∧ (L.getD 0 []).length ≤ 4000000 := by have := G.r32; have := G.c32; omega
  have glen := G.len
  refine AM.enter hp (fn := Tryd.f22) (rs := [.tmp 4]) (nt := 22) (by kernel_rfl) Tryd.func22 rfl rfl rfl (by kernel_rfl) ?_
  (first | (simp (maxSteps := 1000000) (disch := first | omega | (simp only [AM.DB, List.length_set, List.length_map]; first | done | omega)) only [AM.RB, Nat.reduceAdd, Nat.reduceMul, Nat.reduceEqDiff, reduceCtorEq, b22_G20]) | skip); (repeat' ((first | refine AM.drawW_fine hp (by kernel_rfl) (by kernel_rfl) ?_ | refine AM.opW_tied (by kernel_rfl) ?_ | refine AM.opW_untied (by kernel_rfl) ?_ | refine AM.build_w ?_); simp (maxSteps := 1000000) (disch := first | omega | (simp only [AM.DB, List.length_set, List.length_map]; first | done | omega)) only [AM.RB, Nat.reduceAdd, Nat.reduceMul, Nat.reduceEqDiff, reduceCtorEq, b22_G20]))
  refine AM.loop_w hp 22 (fun q : Nat × Value => [(0, pv p), (1, .int .i64 a), (5, q.2), (6, .int .i64 q.1)])
    (fun q h' => q.1 ≤ L.flatten.length ∧ Fr none' h h' ∧ Ow h' 3 1 q.2 (bck L a q.1).length ((bck L a q.1).map (.int .i64)) ∧ ∀ id, idOf q.2 id → h.next ≤ id) (fun q => L.flatten.length - q.1) (by kernel_rfl) (0, .slice none 0 0) ?_ ?_ ?_
  · simp (maxSteps := 1000000) (disch := first | omega | (simp only [AM.DB, List.length_set, List.length_map]; first | done | omega)) only [AM.RB, Nat.reduceAdd, Nat.reduceMul, Nat.reduceEqDiff, reduceCtorEq, b22_G20]
  · exact ⟨Nat.zero_le _, Fr.refl _ _, Ow.nil _ _ _, fun _ q => q.elim⟩
  rintro ⟨n, s⟩ h1 ρ ⟨hn, fr, ho, hid⟩
  simp only at hn ho hid ⊢
  have r1 := r.fr0 fr
  have hl1 := hl.fr0 fr
  have nx1 := fr.next
  have hal := bck_len L a n
  obtain ⟨sa, sc, rfl⟩ := ho.form
  (first | (simp (maxSteps := 1000000) (disch := first | omega | (simp only [AM.DB, List.length_set, List.length_map]; first | done | omega)) only [AM.RB, Nat.reduceAdd, Nat.reduceMul, Nat.reduceEqDiff, reduceCtorEq, b22_G20]) | skip); (repeat' ((first | refine AM.drawW_fine hp (by kernel_rfl) (by kernel_rfl) ?_ | refine AM.opW_tied (by kernel_rfl) ?_ | refine AM.opW_untied (by kernel_rfl) ?_ | refine AM.build_w ?_); simp (maxSteps := 1000000) (disch := first | omega | (simp only [AM.DB, List.length_set, List.length_map]; first | done | omega)) only [AM.RB, Nat.reduceAdd, Nat.reduceMul, Nat.reduceEqDiff, reduceCtorEq, b22_G20]))
  refine refCells_w r1 G.rows hbd ?_
  (first | (simp (maxSteps := 1000000) (disch := first | omega | (simp only [AM.DB, List.length_set, List.length_map]; first | done | omega)) only [AM.RB, Nat.reduceAdd, Nat.reduceMul, Nat.reduceEqDiff, reduceCtorEq, b22_G20]) | skip); (repeat' ((first | refine AM.drawW_fine hp (by kernel_rfl) (by kernel_rfl) ?_ | refine AM.opW_tied (by kernel_rfl) ?_ | refine AM.opW_untied (by kernel_rfl) ?_ | refine AM.build_w ?_); simp (maxSteps := 1000000) (disch := first | omega | (simp only [AM.DB, List.length_set, List.length_map]; first | done | omega)) only [AM.RB, Nat.reduceAdd, Nat.reduceMul, Nat.reduceEqDiff, reduceCtorEq, b22_G20]))
  refine AM.condV_split (fun hlt => ?_) (fun hlt => ?_)
  · (first | (simp (maxSteps := 1000000) (disch := first | omega | (simp only [AM.DB, List.length_set, List.length_map]; first | done | omega)) only [AM.RB, Nat.reduceAdd, Nat.reduceMul, Nat.reduceEqDiff, reduceCtorEq, b22_G20]) | skip); (repeat' ((first | refine AM.drawW_fine hp (by kernel_rfl) (by kernel_rfl) ?_ | refine AM.opW_tied (by kernel_rfl) ?_ | refine AM.opW_untied (by kernel_rfl) ?_ | refine AM.build_w ?_); simp (maxSteps := 1000000) (disch := first | omega | (simp only [AM.DB, List.length_set, List.length_map]; first | done | omega)) only [AM.RB, Nat.reduceAdd, Nat.reduceMul, Nat.reduceEqDiff, reduceCtorEq, b22_G20]))
    refine refEdge_w r1 G n a ?_
    have hs := bck_succ L a n
    cases he : edgeL L n a
    · rw [he, if_neg (by simp), List.append_nil] at hs
      (first | (simp (maxSteps := 1000000) (disch := first | omega | (simp only [AM.DB, List.length_set, List.length_map]; first | done | omega)) only [AM.RB, Nat.reduceAdd, Nat.reduceMul, Nat.reduceEqDiff, reduceCtorEq, b22_G20, AM.wrap_i64]) | skip); (repeat' ((first | refine AM.drawW_fine hp (by kernel_rfl) (by kernel_rfl) ?_ | refine AM.opW_tied (by kernel_rfl) ?_ | refine AM.opW_untied (by kernel_rfl) ?_ | refine AM.build_w ?_); simp (maxSteps := 1000000) (disch := first | omega | (simp only [AM.DB, List.length_set, List.length_map]; first | done | omega)) only [AM.RB, Nat.reduceAdd, Nat.reduceMul, Nat.reduceEqDiff, reduceCtorEq, b22_G20, AM.wrap_i64]))
      exact ⟨(n + 1, .slice sa (bck L a n).length sc), by simp only; omega, ⟨rfl, congrArg _ (by simp only; omega)⟩, by simp only; omega, fr, by simp only; rw [hs]; exact ho, hid⟩
    · rw [he, if_pos rfl] at hs
      (first | (simp (maxSteps := 1000000) (disch := first | omega | (simp only [AM.DB, List.length_set, List.length_map]; first | done | omega)) only [AM.RB, Nat.reduceAdd, Nat.reduceMul, Nat.reduceEqDiff, reduceCtorEq, b22_G20, AM.wrap_i64]) | skip); (repeat' ((first | refine AM.drawW_fine hp (by kernel_rfl) (by kernel_rfl) ?_ | refine AM.opW_tied (by kernel_rfl) ?_ | refine AM.opW_untied (by kernel_rfl) ?_ | refine AM.build_w ?_); simp (maxSteps := 1000000) (disch := first | omega | (simp only [AM.DB, List.length_set, List.length_map]; first | done | omega)) only [AM.RB, Nat.reduceAdd, Nat.reduceMul, Nat.reduceEqDiff, reduceCtorEq, b22_G20, AM.wrap_i64]))
      generalize hE_ : AHeap.alloc h1 _ = h2; obtain ⟨g2, fr2, n2, l2⟩ := AM.new_get hE_; clear hE_
      refine AM.appends_w ap_29 ap_29 (ho.fr0 fr2) (AM.Rd.whole (n := 1) (c := [.int .i64 n]) g2 rfl) rfl (by omega) (AM.fits (by omega) (by omega)) (AM.fits' (by omega)) fun v3 h3 o3 fr3 hid3 => ?_
      obtain ⟨va, vc, rfl⟩ := o3.form
      (first | (simp (maxSteps := 1000000) (disch := first | omega | (simp only [AM.DB, List.length_set, List.length_map]; first | done | omega)) only [AM.RB, Nat.reduceAdd, Nat.reduceMul, Nat.reduceEqDiff, reduceCtorEq, b22_G20, AM.wrap_i64]) | skip); (repeat' ((first | refine AM.drawW_fine hp (by kernel_rfl) (by kernel_rfl) ?_ | refine AM.opW_tied (by kernel_rfl) ?_ | refine AM.opW_untied (by kernel_rfl) ?_ | refine AM.build_w ?_); simp (maxSteps := 1000000) (disch := first | omega | (simp only [AM.DB, List.length_set, List.length_map]; first | done | omega)) only [AM.RB, Nat.reduceAdd, Nat.reduceMul, Nat.reduceEqDiff, reduceCtorEq, b22_G20, AM.wrap_i64]))
      refine ⟨(n + 1, _), by simp only; omega, ⟨rfl, congrArg _ (by simp only; omega)⟩, by simp only; omega, (fr.trans fr2).fresh fr3 hid, ?_, fun id q => ?_⟩
      · simp only; rw [hs, List.length_append, List.map_append]; exact o3
      · rcases hid3 id q with q | q
        · exact hid id q
        · omega
  · have e : n = L.flatten.length := by omega
    subst e
    rw [bck_eq G.fit] at ho
    (first | (simp (maxSteps := 1000000) (disch := first | omega | (simp only [AM.DB, List.length_set, List.length_map]; first | done | omega)) only [AM.RB, Nat.reduceAdd, Nat.reduceMul, Nat.reduceEqDiff, reduceCtorEq, b22_G20]) | skip); (repeat' ((first | refine AM.drawW_fine hp (by kernel_rfl) (by kernel_rfl) ?_ | refine AM.opW_tied (by kernel_rfl) ?_ | refine AM.opW_untied (by kernel_rfl) ?_ | refine AM.build_w ?_); simp (maxSteps := 1000000) (disch := first | omega | (simp only [AM.DB, List.length_set, List.length_map]; first | done | omega)) only [AM.RB, Nat.reduceAdd, Nat.reduceMul, Nat.reduceEqDiff, reduceCtorEq, b22_G20]))
    rw [bck_eq G.fit]
    exact hq _ _ ho fr (by rw [bck_eq G.fit] at hid; exact hid)

end Go.Proofs.YtdimjemgganegaaDoor

namespace Go.Proofs.YtdimjemgganegaaDoor
open Go.AM
set_option maxRecDepth 8000
theorem b11_G21 : type_of% (And.intro (@AM.bin_add) (And.intro (@AM.bin_lss) (And.intro (AM.len_slice ul_29) (And.intro (@AM.op_binOp) (And.intro (@AM.op_call) (@AM.op_len)))))) := And.intro (@AM.bin_add) (And.intro (@AM.bin_lss) (And.intro (AM.len_slice ul_29) (And.intro (@AM.op_binOp) (And.intro (@AM.op_call) (@AM.op_len)))))


theorem Mt.start {h : AHeap} {p : Nat} {kv : Value} {L : List (List UInt8)} (m : Mp h p kv L.length (L.getD 0 []).length L.flatten tl0) : Mt h p L (fun id => id = p ∨ idOf kv id) :=
  ⟨kv, fun id q => .inr q, .inl rfl, fun id q => q.elim (fun e => by rw [e]; exact AM.get_some_lt m.1) (fun q => m.2.1.lt q), .inl m⟩
/-- How many edges go out of the first cells. -/
def outN (L : List (List UInt8)) : Nat → Nat
  | 0 => 0
  | k + 1 => outN L k + (nextL L k).length
theorem nextL_len {L : List (List UInt8)} (f : Fit L) (i : Int) : (nextL L i).length ≤ 1024 := by rw [← nxt_eq f]; exact Nat.le_trans (nxt_len _ _ _) f.k1024
theorem backL_len {L : List (List UInt8)} (f : Fit L) (i : Int) : (backL L i).length ≤ 1024 := by rw [← bck_eq f]; exact Nat.le_trans (bck_len _ _ _) f.k1024
theorem outN_le {L : List (List UInt8)} (f : Fit L) : ∀ k, outN L k ≤ 1024 * k
  | 0 => Nat.le_refl _
  | k + 1 => by have := outN_le f k; have := nextL_len f k; rw [outN]; omega
/-- What the laws keep of a map between calls. -/
structure Keep (h0 h : AHeap) (p : Nat) (L : List (List UInt8)) (S : Nat → Prop) : Prop where
  mt : Mt h p L S
  low : h.low = h0.low
  next : h0.next ≤ h.next
  ways : h.get GW = some (.cells waysC 89 false)
theorem edges_w {h : AHeap} {p : Nat} {L : List (List UInt8)} {S : Nat → Prop} (m : Mt h p L S) (f : Fit L) (hw : h.get GW = some (.cells waysC 89 false)) (hgl : GW < h.low) (hl : h.low ≤ h.next) {Q : VQ}
    (hq : ∀ h' S', Mt h' p L S' → (∀ id, S' id → S id ∨ h.next ≤ id) → Fr (fun id => id = p) h h' → Q (.int .i64 (outN L L.flatten.length)) h') : W 11 [pv p] h Q := by
  obtain ⟨kv0, tl0', m0⟩ := m.mp
  have hK := f.k1024
  have hbd : L.length ≤ 4000000 ∧ (L.getD 0 []).length ≤ 4000000 := by have := f.r32; have := f.c32; omega
  have hgp : GW ≠ p := by have := m0.2.2.2.1; omega
  have flen := f.len
  refine AM.enter hp (fn := Tryd.f11) (rs := [.tmp 2]) (nt := 18) (by kernel_rfl) Tryd.func11 rfl rfl rfl (by kernel_rfl) ?_
  (first | (simp (maxSteps := 1000000) (disch := first | omega | (simp only [AM.DB, List.length_set, List.length_map]; first | done | omega)) only [AM.RB, Nat.reduceAdd, Nat.reduceMul, Nat.reduceEqDiff, reduceCtorEq, b11_G21]) | skip); (repeat' ((first | refine AM.drawW_fine hp (by kernel_rfl) (by kernel_rfl) ?_ | refine AM.opW_tied (by kernel_rfl) ?_ | refine AM.opW_untied (by kernel_rfl) ?_ | refine AM.build_w ?_); simp (maxSteps := 1000000) (disch := first | omega | (simp only [AM.DB, List.length_set, List.length_map]; first | done | omega)) only [AM.RB, Nat.reduceAdd, Nat.reduceMul, Nat.reduceEqDiff, reduceCtorEq, b11_G21]))
  refine cells_w m0 f.rows hbd _ ?_
  (first | (simp (maxSteps := 1000000) (disch := first | omega | (simp only [AM.DB, List.length_set, List.length_map]; first | done | omega)) only [AM.RB, Nat.reduceAdd, Nat.reduceMul, Nat.reduceEqDiff, reduceCtorEq, b11_G21]) | skip); (repeat' ((first | refine AM.drawW_fine hp (by kernel_rfl) (by kernel_rfl) ?_ | refine AM.opW_tied (by kernel_rfl) ?_ | refine AM.opW_untied (by kernel_rfl) ?_ | refine AM.build_w ?_); simp (maxSteps := 1000000) (disch := first | omega | (simp only [AM.DB, List.length_set, List.length_map]; first | done | omega)) only [AM.RB, Nat.reduceAdd, Nat.reduceMul, Nat.reduceEqDiff, reduceCtorEq, b11_G21]))
  refine AM.loop_w hp 18 (fun i : Nat => [(0, pv p), (3, .int .i64 (outN L i)), (6, .int .i64 (L.length * (L.getD 0 []).length : Nat)), (7, .int .i64 i)])
    (fun i h' => i ≤ L.flatten.length ∧ Fr (fun id => id = p) h h' ∧ ∃ S', Mt h' p L S' ∧ ∀ id, S' id → S id ∨ h.next ≤ id) (fun i => L.flatten.length - i) (by kernel_rfl) 0 ?_ ?_ ?_
  · simp (maxSteps := 1000000) (disch := first | omega | (simp only [AM.DB, List.length_set, List.length_map]; first | done | omega)) only [AM.RB, Nat.reduceAdd, Nat.reduceMul, Nat.reduceEqDiff, reduceCtorEq, b11_G21]
    rfl
  · exact ⟨Nat.zero_le _, Fr.refl _ _, S, m, fun _ q => .inl q⟩
  rintro i h1 ρ ⟨hi, fr1, S1, m1, hS1⟩
  have lw1 := fr1.low
  have nx1 := fr1.next
  have hw1 := fr1.get hw hgp
  have hoi := outN_le f i
  have hnl := nextL_len f i
  simp (maxSteps := 1000000) (disch := first | omega | (simp only [AM.DB, List.length_set, List.length_map]; first | done | omega)) only [AM.RB, Nat.reduceAdd, Nat.reduceMul, Nat.reduceEqDiff, reduceCtorEq, b11_G21]
  refine AM.condV_split (fun hlt => ?_) (fun hlt => ?_)
  · (first | (simp (maxSteps := 1000000) (disch := first | omega | (simp only [AM.DB, List.length_set, List.length_map]; first | done | omega)) only [AM.RB, Nat.reduceAdd, Nat.reduceMul, Nat.reduceEqDiff, reduceCtorEq, b11_G21]) | skip); (repeat' ((first | refine AM.drawW_fine hp (by kernel_rfl) (by kernel_rfl) ?_ | refine AM.opW_tied (by kernel_rfl) ?_ | refine AM.opW_untied (by kernel_rfl) ?_ | refine AM.build_w ?_); simp (maxSteps := 1000000) (disch := first | omega | (simp only [AM.DB, List.length_set, List.length_map]; first | done | omega)) only [AM.RB, Nat.reduceAdd, Nat.reduceMul, Nat.reduceEqDiff, reduceCtorEq, b11_G21]))
    refine next_w m1 f hw1 (by omega) (by omega) i fun v h2 S2 m2 hS2 o2 fr2 hid2 => ?_
    obtain ⟨va, vc, rfl⟩ := o2.form
    (first | (simp (maxSteps := 1000000) (disch := first | omega | (simp only [AM.DB, List.length_set, List.length_map]; first | done | omega)) only [AM.RB, Nat.reduceAdd, Nat.reduceMul, Nat.reduceEqDiff, reduceCtorEq, b11_G21, AM.wrap_i64]) | skip); (repeat' ((first | refine AM.drawW_fine hp (by kernel_rfl) (by kernel_rfl) ?_ | refine AM.opW_tied (by kernel_rfl) ?_ | refine AM.opW_untied (by kernel_rfl) ?_ | refine AM.build_w ?_); simp (maxSteps := 1000000) (disch := first | omega | (simp only [AM.DB, List.length_set, List.length_map]; first | done | omega)) only [AM.RB, Nat.reduceAdd, Nat.reduceMul, Nat.reduceEqDiff, reduceCtorEq, b11_G21, AM.wrap_i64]))
    refine ⟨i + 1, by omega, ⟨by rw [outN]; rfl, congrArg _ (by omega)⟩, by omega, fr1.then fr2 (fun _ _ q => q), S2, m2, fun id q => ?_⟩
    rcases hS2 id q with q | q
    · exact hS1 id q
    · exact .inr (by omega)
  · have e : i = L.flatten.length := by omega
    subst e
    (first | (simp (maxSteps := 1000000) (disch := first | omega | (simp only [AM.DB, List.length_set, List.length_map]; first | done | omega)) only [AM.RB, Nat.reduceAdd, Nat.reduceMul, Nat.reduceEqDiff, reduceCtorEq, b11_G21]) | skip); (repeat' ((first | refine AM.drawW_fine hp (by kernel_rfl) (by kernel_rfl) ?_ | refine AM.opW_tied (by kernel_rfl) ?_ | refine AM.opW_untied (by kernel_rfl) ?_ | refine AM.build_w ?_); simp (maxSteps := 1000000) (disch := first | omega | (simp only [AM.DB, List.length_set, List.length_map]; first | done | omega)) only [AM.RB, Nat.reduceAdd, Nat.reduceMul, Nat.reduceEqDiff, reduceCtorEq, b11_G21]))
    exact hq h1 S1 m1 hS1 fr1

end Go.Proofs.YtdimjemgganegaaDoor

namespace Go.Proofs.YtdimjemgganegaaDoor
open Go.AM
set_option maxRecDepth 8000
theorem b5_G22 : type_of% (And.intro (@AM.bin_add) (And.intro (AM.bin_beq ul_4) (And.intro (@AM.bin_eql) (And.intro (@AM.bin_gtr) (And.intro (@AM.bin_leq) (And.intro (@AM.bin_lss) (And.intro (@AM.bin_neq) (And.intro (@AM.ex_tuple) (And.intro (@AM.iaO_ok) (And.intro (AM.ia_slice el_29) (And.intro (AM.len_slice ul_29) (And.intro (@AM.op_binOp) (And.intro (@AM.op_call) (And.intro (@AM.op_extract) (And.intro (@AM.op_indexAddr) (And.intro (@AM.op_len) (And.intro (@AM.op_store) (And.intro (@AM.op_unOp) (And.intro (@AM.stO_agg) (And.intro (@AM.stO_bool) (And.intro (@AM.stO_int) (And.intro (@AM.stO_map) (And.intro (@AM.stO_pointer) (And.intro (@AM.stO_slice) (And.intro (@AM.stO_string) (And.intro (@AM.st_ptr) (And.intro (AM.str_len ul_9) (And.intro (@sz_3) (And.intro (@AM.un_neg) (@AM.un_not)))))))))))))))))))))))))))))) := And.intro (@AM.bin_add) (And.intro (AM.bin_beq ul_4) (And.intro (@AM.bin_eql) (And.intro (@AM.bin_gtr) (And.intro (@AM.bin_leq) (And.intro (@AM.bin_lss) (And.intro (@AM.bin_neq) (And.intro (@AM.ex_tuple) (And.intro (@AM.iaO_ok) (And.intro (AM.ia_slice el_29) (And.intro (AM.len_slice ul_29) (And.intro (@AM.op_binOp) (And.intro (@AM.op_call) (And.intro (@AM.op_extract) (And.intro (@AM.op_indexAddr) (And.intro (@AM.op_len) (And.intro (@AM.op_store) (And.intro (@AM.op_unOp) (And.intro (@AM.stO_agg) (And.intro (@AM.stO_bool) (And.intro (@AM.stO_int) (And.intro (@AM.stO_map) (And.intro (@AM.stO_pointer) (And.intro (@AM.stO_slice) (And.intro (@AM.stO_string) (And.intro (@AM.st_ptr) (And.intro (AM.str_len ul_9) (And.intro (@sz_3) (And.intro (@AM.un_neg) (@AM.un_not)))))))))))))))))))))))))))))


theorem Rp.keep {h h' : AHeap} {p : Nat} {lv : Value} {L : List (List UInt8)} {T : Nat → Prop} (r : Rp h p lv L) (fr : Fr T h h') (h1 : ¬ T p) (h2 : ∀ id, idOf lv id → ¬ T id) : Rp h' p lv L := r.fr fr h1 h2
theorem outN_step {L : List (List UInt8)} (j : Nat) : outN L (min (j + 1 - 1) L.flatten.length) = outN L (min (j - 1) L.flatten.length) + (nextL L ((j : Int) - 1)).length := by
  rcases j with _ | k
  · have : nextL L (((0 : Nat) : Int) - 1) = [] := by unfold nextL; rw [if_neg (by omega)]
    rw [this]; rfl
  · have e : ((k + 1 : Nat) : Int) - 1 = k := by omega
    rw [e]
    by_cases h : k < L.flatten.length
    · rw [show min (k + 1 + 1 - 1) L.flatten.length = k + 1 by omega, show min (k + 1 - 1) L.flatten.length = k by omega]; rfl
    · have : nextL L (k : Int) = [] := by unfold nextL; rw [if_neg (by omega)]
      rw [this, show min (k + 1 + 1 - 1) L.flatten.length = L.flatten.length by omega, show min (k + 1 - 1) L.flatten.length = L.flatten.length by omega]; rfl
set_option maxHeartbeats 8000000 in
theorem edgesLaw_w (s : List UInt8) (a b : Int) {h : AHeap} (hw : h.get GW = some (.cells waysC 89 false)) (hl : h.low = h.next) : W 5 [strV s, .int .i64 a, .int .i64 b] h fun v _ => v = .bool true := by
  have hgl : GW < h.low := by have := AM.get_some_lt hw; omega
  refine AM.enter hp (fn := Tryd.f5) (rs := [.tmp 6]) (nt := 118) (by kernel_rfl) Tryd.func5 rfl rfl rfl (by kernel_rfl) ?_
  (first | (simp (maxSteps := 1000000) (disch := first | omega | (simp only [AM.DB, List.length_set, List.length_map]; first | done | omega)) only [AM.RB, Nat.reduceAdd, Nat.reduceMul, Nat.reduceEqDiff, reduceCtorEq, b5_G22]) | skip); (repeat' ((first | refine AM.drawW_fine hp (by kernel_rfl) (by kernel_rfl) ?_ | refine AM.opW_tied (by kernel_rfl) ?_ | refine AM.opW_untied (by kernel_rfl) ?_ | refine AM.build_w ?_); simp (maxSteps := 1000000) (disch := first | omega | (simp only [AM.DB, List.length_set, List.length_map]; first | done | omega)) only [AM.RB, Nat.reduceAdd, Nat.reduceMul, Nat.reduceEqDiff, reduceCtorEq, b5_G22]))
  refine AM.condV_split (fun hlt => ?_) (fun hlt => ?_)
  · (first | (simp (maxSteps := 1000000) (disch := first | omega | (simp only [AM.DB, List.length_set, List.length_map]; first | done | omega)) only [AM.RB, Nat.reduceAdd, Nat.reduceMul, Nat.reduceEqDiff, reduceCtorEq, b5_G22]) | skip); (repeat' ((first | refine AM.drawW_fine hp (by kernel_rfl) (by kernel_rfl) ?_ | refine AM.opW_tied (by kernel_rfl) ?_ | refine AM.opW_untied (by kernel_rfl) ?_ | refine AM.build_w ?_); simp (maxSteps := 1000000) (disch := first | omega | (simp only [AM.DB, List.length_set, List.length_map]; first | done | omega)) only [AM.RB, Nat.reduceAdd, Nat.reduceMul, Nat.reduceEqDiff, reduceCtorEq, b5_G22]))
  (first | (simp (maxSteps := 1000000) (disch := first | omega | (simp only [AM.DB, List.length_set, List.length_map]; first | done | omega)) only [AM.RB, Nat.reduceAdd, Nat.reduceMul, Nat.reduceEqDiff, reduceCtorEq, b5_G22]) | skip); (repeat' ((first | refine AM.drawW_fine hp (by kernel_rfl) (by kernel_rfl) ?_ | refine AM.opW_tied (by kernel_rfl) ?_ | refine AM.opW_untied (by kernel_rfl) ?_ | refine AM.build_w ?_); simp (maxSteps := 1000000) (disch := first | omega | (simp only [AM.DB, List.length_set, List.length_map]; first | done | omega)) only [AM.RB, Nat.reduceAdd, Nat.reduceMul, Nat.reduceEqDiff, reduceCtorEq, b5_G22]))
  refine parseV_w s (by omega) (by omega) (fun a' b' hv h1 fr1 => ?_) (fun L hv p kv h1 m0 fr1 hp1 hid1 => ?_)
  · (first | (simp (maxSteps := 1000000) (disch := first | omega | (simp only [AM.DB, List.length_set, List.length_map]; first | done | omega)) only [AM.RB, Nat.reduceAdd, Nat.reduceMul, Nat.reduceEqDiff, reduceCtorEq, b5_G22]) | skip); (repeat' ((first | refine AM.drawW_fine hp (by kernel_rfl) (by kernel_rfl) ?_ | refine AM.opW_tied (by kernel_rfl) ?_ | refine AM.opW_untied (by kernel_rfl) ?_ | refine AM.build_w ?_); simp (maxSteps := 1000000) (disch := first | omega | (simp only [AM.DB, List.length_set, List.length_map]; first | done | omega)) only [AM.RB, Nat.reduceAdd, Nat.reduceMul, Nat.reduceEqDiff, reduceCtorEq, b5_G22]))
    refine refV_w s (by omega) (fr1.hl (by omega)) (fun a2 b2 hv' h2 fr2 => ?_) (fun L hv' => ?_)
    · rw [hv] at hv'; cases hv'
      have d100 : decide ((10 : Int) = 0) = false := rfl
      (first | (simp (maxSteps := 1000000) (disch := first | omega | (simp only [AM.DB, List.length_set, List.length_map]; first | done | omega)) only [AM.RB, Nat.reduceAdd, Nat.reduceMul, Nat.reduceEqDiff, reduceCtorEq, b5_G22, AM.wrap_i64, d100]) | skip); (repeat' ((first | refine AM.drawW_fine hp (by kernel_rfl) (by kernel_rfl) ?_ | refine AM.opW_tied (by kernel_rfl) ?_ | refine AM.opW_untied (by kernel_rfl) ?_ | refine AM.build_w ?_); simp (maxSteps := 1000000) (disch := first | omega | (simp only [AM.DB, List.length_set, List.length_map]; first | done | omega)) only [AM.RB, Nat.reduceAdd, Nat.reduceMul, Nat.reduceEqDiff, reduceCtorEq, b5_G22, AM.wrap_i64, d100]))
    · rw [hv] at hv'; cases hv'
  · (first | (simp (maxSteps := 1000000) (disch := first | omega | (simp only [AM.DB, List.length_set, List.length_map]; first | done | omega)) only [AM.RB, Nat.reduceAdd, Nat.reduceMul, Nat.reduceEqDiff, reduceCtorEq, b5_G22]) | skip); (repeat' ((first | refine AM.drawW_fine hp (by kernel_rfl) (by kernel_rfl) ?_ | refine AM.opW_tied (by kernel_rfl) ?_ | refine AM.opW_untied (by kernel_rfl) ?_ | refine AM.build_w ?_); simp (maxSteps := 1000000) (disch := first | omega | (simp only [AM.DB, List.length_set, List.length_map]; first | done | omega)) only [AM.RB, Nat.reduceAdd, Nat.reduceMul, Nat.reduceEqDiff, reduceCtorEq, b5_G22]))
    have G := verd_good hv
    have f := G.fit
    refine refV_w s (by omega) (fr1.hl (by omega)) (fun a2 b2 hv' h2 fr2 => ?_) (fun L' hv' q lv h2 r fr2 hq2 hid2 => ?_)
    · rw [hv] at hv'; cases hv'
    · rw [hv] at hv'; cases hv'
      have mt2 := (Mt.start m0).fr0 fr2
      have fr02 := fr1.trans fr2
      have hw2 := hw.fr0 fr02
      have lw2 := fr02.low
      have nx2 := fr02.next
      have lp1 := AM.get_some_lt m0.1
      have hK := f.k1024
      have hbd : L.length ≤ 4000000 ∧ (L.getD 0 []).length ≤ 4000000 := by have := f.r32; have := f.c32; omega
      have flen := f.len
      have hqp : ∀ id, id = q ∨ idOf lv id → id ≠ p := fun id e => by
        rcases e with rfl | e
        · omega
        · have := hid2 id e; omega
      (first | (simp (maxSteps := 1000000) (disch := first | omega | (simp only [AM.DB, List.length_set, List.length_map]; first | done | omega)) only [AM.RB, Nat.reduceAdd, Nat.reduceMul, Nat.reduceEqDiff, reduceCtorEq, b5_G22]) | skip); (repeat' ((first | refine AM.drawW_fine hp (by kernel_rfl) (by kernel_rfl) ?_ | refine AM.opW_tied (by kernel_rfl) ?_ | refine AM.opW_untied (by kernel_rfl) ?_ | refine AM.build_w ?_); simp (maxSteps := 1000000) (disch := first | omega | (simp only [AM.DB, List.length_set, List.length_map]; first | done | omega)) only [AM.RB, Nat.reduceAdd, Nat.reduceMul, Nat.reduceEqDiff, reduceCtorEq, b5_G22]))
      refine AM.loop_w hp 118 (fun j : Nat => [(1, .int .i64 a), (2, .int .i64 b), (6, .bool false), (7, pv p), (11, pv q), (15, .int .i64 (outN L (min (j - 1) L.flatten.length))), (16, .int .i64 ((j : Int) - 1))])
        (fun j h' => j ≤ L.flatten.length + 2 ∧ h2.next ≤ h'.next ∧ h'.low = h.low ∧ h'.get GW = some (.cells waysC 89 false) ∧ Rp h' q lv L ∧ ∃ S, Mt h' p L S ∧ ∀ id, S id → ¬ (id = q ∨ idOf lv id) ∧ id ≠ GW) (fun j => L.flatten.length + 2 - j) (by kernel_rfl) 0 ?_ ?_ ?_
      · simp (maxSteps := 1000000) (disch := first | omega | (simp only [AM.DB, List.length_set, List.length_map]; first | done | omega)) only [AM.RB, Nat.reduceAdd, Nat.reduceMul, Nat.reduceEqDiff, reduceCtorEq, b5_G22]
        exact ⟨rfl, rfl⟩
      · refine ⟨by omega, Nat.le_refl _, by omega, hw2, r, _, mt2, fun id e => ⟨fun e2 => ?_, ?_⟩⟩
        · rcases e with rfl | e
          · exact hqp _ e2 rfl
          · have := m0.2.1.lt e
            rcases e2 with rfl | e2
            · omega
            · have := hid2 id e2; omega
        · rcases e with rfl | e
          · omega
          · have := hid1 id e; omega
      rintro j h3 ρ ⟨hj, nx3, lw3, hw3, r3, S3, mt3, hS3⟩
      have hl3 : h3.low ≤ h3.next := by omega
      have hoj := outN_le f (min (j - 1) L.flatten.length)
      (first | (simp (maxSteps := 1000000) (disch := first | omega | (simp only [AM.DB, List.length_set, List.length_map]; first | done | omega)) only [AM.RB, Nat.reduceAdd, Nat.reduceMul, Nat.reduceEqDiff, reduceCtorEq, b5_G22]) | skip); (repeat' ((first | refine AM.drawW_fine hp (by kernel_rfl) (by kernel_rfl) ?_ | refine AM.opW_tied (by kernel_rfl) ?_ | refine AM.opW_untied (by kernel_rfl) ?_ | refine AM.build_w ?_); simp (maxSteps := 1000000) (disch := first | omega | (simp only [AM.DB, List.length_set, List.length_map]; first | done | omega)) only [AM.RB, Nat.reduceAdd, Nat.reduceMul, Nat.reduceEqDiff, reduceCtorEq, b5_G22]))
      refine refCells_w r3 G.rows hbd ?_
      (first | (simp (maxSteps := 1000000) (disch := first | omega | (simp only [AM.DB, List.length_set, List.length_map]; first | done | omega)) only [AM.RB, Nat.reduceAdd, Nat.reduceMul, Nat.reduceEqDiff, reduceCtorEq, b5_G22]) | skip); (repeat' ((first | refine AM.drawW_fine hp (by kernel_rfl) (by kernel_rfl) ?_ | refine AM.opW_tied (by kernel_rfl) ?_ | refine AM.opW_untied (by kernel_rfl) ?_ | refine AM.build_w ?_); simp (maxSteps := 1000000) (disch := first | omega | (simp only [AM.DB, List.length_set, List.length_map]; first | done | omega)) only [AM.RB, Nat.reduceAdd, Nat.reduceMul, Nat.reduceEqDiff, reduceCtorEq, b5_G22]))
      refine AM.condV_split (fun hlt => ?_) (fun hlt => ?_)
      · (first | (simp (maxSteps := 1000000) (disch := first | omega | (simp only [AM.DB, List.length_set, List.length_map]; first | done | omega)) only [AM.RB, Nat.reduceAdd, Nat.reduceMul, Nat.reduceEqDiff, reduceCtorEq, b5_G22]) | skip); (repeat' ((first | refine AM.drawW_fine hp (by kernel_rfl) (by kernel_rfl) ?_ | refine AM.opW_tied (by kernel_rfl) ?_ | refine AM.opW_untied (by kernel_rfl) ?_ | refine AM.build_w ?_); simp (maxSteps := 1000000) (disch := first | omega | (simp only [AM.DB, List.length_set, List.length_map]; first | done | omega)) only [AM.RB, Nat.reduceAdd, Nat.reduceMul, Nat.reduceEqDiff, reduceCtorEq, b5_G22]))
        refine next_w mt3 f hw3 (by omega) hl3 _ fun x h4 S4 mt4 hS4 o4 fr4 hid4 => ?_
        have lw4 := fr4.low
        have nx4 := fr4.next
        have hw4 := fr4.get hw3 (fun e => by have e : GW = p := e; omega)
        have r4 := r3.keep fr4 (fun e => hqp q (.inl rfl) e) (fun id e => hqp id (.inr e))
        obtain ⟨xa, xc, rfl⟩ := o4.form
        (first | (simp (maxSteps := 1000000) (disch := first | omega | (simp only [AM.DB, List.length_set, List.length_map]; first | done | omega)) only [AM.RB, Nat.reduceAdd, Nat.reduceMul, Nat.reduceEqDiff, reduceCtorEq, b5_G22]) | skip); (repeat' ((first | refine AM.drawW_fine hp (by kernel_rfl) (by kernel_rfl) ?_ | refine AM.opW_tied (by kernel_rfl) ?_ | refine AM.opW_untied (by kernel_rfl) ?_ | refine AM.build_w ?_); simp (maxSteps := 1000000) (disch := first | omega | (simp only [AM.DB, List.length_set, List.length_map]; first | done | omega)) only [AM.RB, Nat.reduceAdd, Nat.reduceMul, Nat.reduceEqDiff, reduceCtorEq, b5_G22]))
        refine refNext_w r4 G (by omega) _ fun y h5 o5 fr5 hid5 => ?_
        obtain ⟨ya, yc, rfl⟩ := o5.form
        have o45 := o4.fr0 fr5
        have mt5 := mt4.fr0 fr5
        have r5 := r4.fr0 fr5
        have hw5 := hw4.fr0 fr5
        have lw5 := fr5.low
        have nx5 := fr5.next
        (first | (simp (maxSteps := 1000000) (disch := first | omega | (simp only [AM.DB, List.length_set, List.length_map]; first | done | omega)) only [AM.RB, Nat.reduceAdd, Nat.reduceMul, Nat.reduceEqDiff, reduceCtorEq, b5_G22]) | skip); (repeat' ((first | refine AM.drawW_fine hp (by kernel_rfl) (by kernel_rfl) ?_ | refine AM.opW_tied (by kernel_rfl) ?_ | refine AM.opW_untied (by kernel_rfl) ?_ | refine AM.build_w ?_); simp (maxSteps := 1000000) (disch := first | omega | (simp only [AM.DB, List.length_set, List.length_map]; first | done | omega)) only [AM.RB, Nat.reduceAdd, Nat.reduceMul, Nat.reduceEqDiff, reduceCtorEq, b5_G22]))
        have hnl := nextL_len f ((j : Int) - 1)
        refine same_w o45.rd o5.rd (by omega) ?_
        rw [decide_eq_true rfl]
        (first | (simp (maxSteps := 1000000) (disch := first | omega | (simp only [AM.DB, List.length_set, List.length_map]; first | done | omega)) only [AM.RB, Nat.reduceAdd, Nat.reduceMul, Nat.reduceEqDiff, reduceCtorEq, b5_G22]) | skip); (repeat' ((first | refine AM.drawW_fine hp (by kernel_rfl) (by kernel_rfl) ?_ | refine AM.opW_tied (by kernel_rfl) ?_ | refine AM.opW_untied (by kernel_rfl) ?_ | refine AM.build_w ?_); simp (maxSteps := 1000000) (disch := first | omega | (simp only [AM.DB, List.length_set, List.length_map]; first | done | omega)) only [AM.RB, Nat.reduceAdd, Nat.reduceMul, Nat.reduceEqDiff, reduceCtorEq, b5_G22]))
        refine back_w mt5 f hw5 (by omega) (by omega) _ fun z h6 S6 mt6 hS6 o6 fr6 hid6 => ?_
        obtain ⟨za, zc, rfl⟩ := o6.form
        have lw6 := fr6.low
        have nx6 := fr6.next
        have hpS4 := mt4.self
        have o46 := o45.fr fr6 (fun id e e2 => by have e2 : id = p := e2; exact (hid4 id e).2 (by rw [e2]; exact hpS4))
        have r6 := r5.keep fr6 (fun e => hqp q (.inl rfl) e) (fun id e => hqp id (.inr e))
        have hw6 := fr6.get hw5 (fun e => by have e : GW = p := e; omega)
        (first | (simp (maxSteps := 1000000) (disch := first | omega | (simp only [AM.DB, List.length_set, List.length_map]; first | done | omega)) only [AM.RB, Nat.reduceAdd, Nat.reduceMul, Nat.reduceEqDiff, reduceCtorEq, b5_G22]) | skip); (repeat' ((first | refine AM.drawW_fine hp (by kernel_rfl) (by kernel_rfl) ?_ | refine AM.opW_tied (by kernel_rfl) ?_ | refine AM.opW_untied (by kernel_rfl) ?_ | refine AM.build_w ?_); simp (maxSteps := 1000000) (disch := first | omega | (simp only [AM.DB, List.length_set, List.length_map]; first | done | omega)) only [AM.RB, Nat.reduceAdd, Nat.reduceMul, Nat.reduceEqDiff, reduceCtorEq, b5_G22]))
        refine refBack_w r6 G (by omega) _ fun t h7 o7 fr7 hid7 => ?_
        obtain ⟨ta, tc, rfl⟩ := o7.form
        have hbl := backL_len f ((j : Int) - 1)
        (first | (simp (maxSteps := 1000000) (disch := first | omega | (simp only [AM.DB, List.length_set, List.length_map]; first | done | omega)) only [AM.RB, Nat.reduceAdd, Nat.reduceMul, Nat.reduceEqDiff, reduceCtorEq, b5_G22]) | skip); (repeat' ((first | refine AM.drawW_fine hp (by kernel_rfl) (by kernel_rfl) ?_ | refine AM.opW_tied (by kernel_rfl) ?_ | refine AM.opW_untied (by kernel_rfl) ?_ | refine AM.build_w ?_); simp (maxSteps := 1000000) (disch := first | omega | (simp only [AM.DB, List.length_set, List.length_map]; first | done | omega)) only [AM.RB, Nat.reduceAdd, Nat.reduceMul, Nat.reduceEqDiff, reduceCtorEq, b5_G22]))
        refine same_w (o6.fr0 fr7).rd o7.rd (by omega) ?_
        rw [decide_eq_true rfl]
        have o47 := o46.fr0 fr7
        have mt7 := mt6.fr0 fr7
        have r7 := r6.fr0 fr7
        have hw7 := hw6.fr0 fr7
        have lw7 := fr7.low
        have nx7 := fr7.next
        have hS7 : ∀ id, S6 id → (¬ (id = q ∨ idOf lv id) ∧ id ≠ GW) ∧ ¬ idOf (.slice xa (nextL L ((j : Int) - 1)).length xc) id := fun id e => by
          have hql : ∀ id, id = q ∨ idOf lv id → id < h3.next := fun id e => by
            rcases e with rfl | e
            · exact AM.get_some_lt r3.1
            · exact r3.2.1.lt e
          have hgw := AM.get_some_lt hw3
          rcases hS6 id e with e1 | e1
          · refine ⟨?_, fun e2 => (hid4 id e2).2 e1⟩
            rcases hS4 id e1 with e3 | e3
            · exact hS3 id e3
            · exact ⟨fun e4 => by have := hql id e4; omega, by omega⟩
          · exact ⟨⟨fun e4 => by have := hql id e4; omega, by omega⟩, fun e2 => by have := o45.lt e2; omega⟩
        (first | (simp (maxSteps := 1000000) (disch := first | omega | (simp only [AM.DB, List.length_set, List.length_map]; first | done | omega)) only [AM.RB, Nat.reduceAdd, Nat.reduceMul, Nat.reduceEqDiff, reduceCtorEq, b5_G22, AM.wrap_i64]) | skip); (repeat' ((first | refine AM.drawW_fine hp (by kernel_rfl) (by kernel_rfl) ?_ | refine AM.opW_tied (by kernel_rfl) ?_ | refine AM.opW_untied (by kernel_rfl) ?_ | refine AM.build_w ?_); simp (maxSteps := 1000000) (disch := first | omega | (simp only [AM.DB, List.length_set, List.length_map]; first | done | omega)) only [AM.RB, Nat.reduceAdd, Nat.reduceMul, Nat.reduceEqDiff, reduceCtorEq, b5_G22, AM.wrap_i64]))
        have hst := outN_step (L := L) j
        refine AM.loop_w hp 118 (fun k : Nat => [(1, .int .i64 a), (2, .int .i64 b), (6, .bool false), (7, pv p), (11, pv q), (15, .int .i64 (outN L (min (j + 1 - 1) L.flatten.length))), (16, .int .i64 ((j : Int) - 1)), (17, .slice xa (nextL L ((j : Int) - 1)).length xc), (18, .int .i64 k)])
          (fun k h' => k ≤ (nextL L ((j : Int) - 1)).length ∧ Fr (idOf (.slice xa (nextL L ((j : Int) - 1)).length xc)) h7 h' ∧ ∃ cs, Ow h' 3 1 (.slice xa (nextL L ((j : Int) - 1)).length xc) (nextL L ((j : Int) - 1)).length cs) (fun k => (nextL L ((j : Int) - 1)).length - k) (by kernel_rfl) 0 ?_ ?_ ?_
        · simp (maxSteps := 1000000) (disch := first | omega | (simp only [AM.DB, List.length_set, List.length_map]; first | done | omega)) only [AM.RB, Nat.reduceAdd, Nat.reduceMul, Nat.reduceEqDiff, reduceCtorEq, b5_G22]
          rw [hst]; rfl
        · exact ⟨Nat.zero_le _, Fr.refl _ _, _, o47⟩
        rintro k h8 ρ ⟨hk, fr8, cs, o8⟩
        simp (maxSteps := 1000000) (disch := first | omega | (simp only [AM.DB, List.length_set, List.length_map]; first | done | omega)) only [AM.RB, Nat.reduceAdd, Nat.reduceMul, Nat.reduceEqDiff, reduceCtorEq, b5_G22]
        refine AM.condV_split (fun hlk => ?_) (fun hlk => ?_)
        · (first | (simp (maxSteps := 1000000) (disch := first | omega | (simp only [AM.DB, List.length_set, List.length_map]; first | done | omega)) only [AM.RB, Nat.reduceAdd, Nat.reduceMul, Nat.reduceEqDiff, reduceCtorEq, b5_G22, o8.ia el_29, Int.toNat_natCast]) | skip); (repeat' ((first | refine AM.drawW_fine hp (by kernel_rfl) (by kernel_rfl) ?_ | refine AM.opW_tied (by kernel_rfl) ?_ | refine AM.opW_untied (by kernel_rfl) ?_ | refine AM.build_w ?_); simp (maxSteps := 1000000) (disch := first | omega | (simp only [AM.DB, List.length_set, List.length_map]; first | done | omega)) only [AM.RB, Nat.reduceAdd, Nat.reduceMul, Nat.reduceEqDiff, reduceCtorEq, b5_G22, o8.ia el_29, Int.toNat_natCast]))
          refine o8.st sz_3 (j := k) (by omega) rfl rfl fun h9 o9 fr9 n9 => ?_
          (first | (simp (maxSteps := 1000000) (disch := first | omega | (simp only [AM.DB, List.length_set, List.length_map]; first | done | omega)) only [AM.RB, Nat.reduceAdd, Nat.reduceMul, Nat.reduceEqDiff, reduceCtorEq, b5_G22, AM.wrap_i64]) | skip); (repeat' ((first | refine AM.drawW_fine hp (by kernel_rfl) (by kernel_rfl) ?_ | refine AM.opW_tied (by kernel_rfl) ?_ | refine AM.opW_untied (by kernel_rfl) ?_ | refine AM.build_w ?_); simp (maxSteps := 1000000) (disch := first | omega | (simp only [AM.DB, List.length_set, List.length_map]; first | done | omega)) only [AM.RB, Nat.reduceAdd, Nat.reduceMul, Nat.reduceEqDiff, reduceCtorEq, b5_G22, AM.wrap_i64]))
          exact ⟨k + 1, by omega, congrArg _ (by omega), by omega, fr8.then fr9 (fun _ _ q => q), _, o9⟩
        · have nx8 := fr8.next
          have lw8 := fr8.low
          (first | (simp (maxSteps := 1000000) (disch := first | omega | (simp only [AM.DB, List.length_set, List.length_map]; first | done | omega)) only [AM.RB, Nat.reduceAdd, Nat.reduceMul, Nat.reduceEqDiff, reduceCtorEq, b5_G22, AM.wrap_i64]) | skip); (repeat' ((first | refine AM.drawW_fine hp (by kernel_rfl) (by kernel_rfl) ?_ | refine AM.opW_tied (by kernel_rfl) ?_ | refine AM.opW_untied (by kernel_rfl) ?_ | refine AM.build_w ?_); simp (maxSteps := 1000000) (disch := first | omega | (simp only [AM.DB, List.length_set, List.length_map]; first | done | omega)) only [AM.RB, Nat.reduceAdd, Nat.reduceMul, Nat.reduceEqDiff, reduceCtorEq, b5_G22, AM.wrap_i64]))
          refine ⟨j + 1, by omega, ⟨rfl, congrArg _ (by omega)⟩, by omega, by omega, by omega, fr8.get hw7 ?_, r7.keep fr8 ?_ ?_, S6, mt7.fr fr8 (fun id e => (hS7 id e).2), fun id e => (hS7 id e).1⟩
          · intro e
            have := hid4 _ e
            have := AM.get_some_lt hw3
            omega
          · intro e
            have := hid4 _ e
            have := AM.get_some_lt r3.1
            omega
          · intro id e e2
            have := hid4 _ e2
            have := r3.2.1.lt e
            omega
      · have ej : min (j - 1) L.flatten.length = L.flatten.length := by omega
        rw [ej]
        have hgp : GW ≠ p := by omega
        (first | (simp (maxSteps := 1000000) (disch := first | omega | (simp only [AM.DB, List.length_set, List.length_map]; first | done | omega)) only [AM.RB, Nat.reduceAdd, Nat.reduceMul, Nat.reduceEqDiff, reduceCtorEq, b5_G22]) | skip); (repeat' ((first | refine AM.drawW_fine hp (by kernel_rfl) (by kernel_rfl) ?_ | refine AM.opW_tied (by kernel_rfl) ?_ | refine AM.opW_untied (by kernel_rfl) ?_ | refine AM.build_w ?_); simp (maxSteps := 1000000) (disch := first | omega | (simp only [AM.DB, List.length_set, List.length_map]; first | done | omega)) only [AM.RB, Nat.reduceAdd, Nat.reduceMul, Nat.reduceEqDiff, reduceCtorEq, b5_G22]))
        refine edge_w mt3 f hw3 (by omega) hl3 a b fun h4 S4 mt4 hS4 fr4 => ?_
        rw [edge_mem f]
        have lw4 := fr4.low
        have nx4 := fr4.next
        have hw4 := fr4.get hw3 hgp
        have r4 := r3.keep fr4 (fun e => hqp q (.inl rfl) e) (fun id e => hqp id (.inr e))
        (first | (simp (maxSteps := 1000000) (disch := first | omega | (simp only [AM.DB, List.length_set, List.length_map]; first | done | omega)) only [AM.RB, Nat.reduceAdd, Nat.reduceMul, Nat.reduceEqDiff, reduceCtorEq, b5_G22]) | skip); (repeat' ((first | refine AM.drawW_fine hp (by kernel_rfl) (by kernel_rfl) ?_ | refine AM.opW_tied (by kernel_rfl) ?_ | refine AM.opW_untied (by kernel_rfl) ?_ | refine AM.build_w ?_); simp (maxSteps := 1000000) (disch := first | omega | (simp only [AM.DB, List.length_set, List.length_map]; first | done | omega)) only [AM.RB, Nat.reduceAdd, Nat.reduceMul, Nat.reduceEqDiff, reduceCtorEq, b5_G22]))
        refine refEdge_w r4 G a b ?_
        obtain ⟨kv4, tl4, m4⟩ := mt4.mp
        (first | (simp (maxSteps := 1000000) (disch := first | omega | (simp only [AM.DB, List.length_set, List.length_map]; first | done | omega)) only [AM.RB, Nat.reduceAdd, Nat.reduceMul, Nat.reduceEqDiff, reduceCtorEq, b5_G22, decide_eq_true (rfl : edgeL L a b = edgeL L a b)]) | skip); (repeat' ((first | refine AM.drawW_fine hp (by kernel_rfl) (by kernel_rfl) ?_ | refine AM.opW_tied (by kernel_rfl) ?_ | refine AM.opW_untied (by kernel_rfl) ?_ | refine AM.build_w ?_); simp (maxSteps := 1000000) (disch := first | omega | (simp only [AM.DB, List.length_set, List.length_map]; first | done | omega)) only [AM.RB, Nat.reduceAdd, Nat.reduceMul, Nat.reduceEqDiff, reduceCtorEq, b5_G22, decide_eq_true (rfl : edgeL L a b = edgeL L a b)]))
        refine far_w m4 f a b ?_
        (first | (simp (maxSteps := 1000000) (disch := first | omega | (simp only [AM.DB, List.length_set, List.length_map]; first | done | omega)) only [AM.RB, Nat.reduceAdd, Nat.reduceMul, Nat.reduceEqDiff, reduceCtorEq, b5_G22]) | skip); (repeat' ((first | refine AM.drawW_fine hp (by kernel_rfl) (by kernel_rfl) ?_ | refine AM.opW_tied (by kernel_rfl) ?_ | refine AM.opW_untied (by kernel_rfl) ?_ | refine AM.build_w ?_); simp (maxSteps := 1000000) (disch := first | omega | (simp only [AM.DB, List.length_set, List.length_map]; first | done | omega)) only [AM.RB, Nat.reduceAdd, Nat.reduceMul, Nat.reduceEqDiff, reduceCtorEq, b5_G22]))
        refine refFar_w r4 G a b ?_
        (first | (simp (maxSteps := 1000000) (disch := first | omega | (simp only [AM.DB, List.length_set, List.length_map]; first | done | omega)) only [AM.RB, Nat.reduceAdd, Nat.reduceMul, Nat.reduceEqDiff, reduceCtorEq, b5_G22, decide_eq_true (rfl : farL L a b = farL L a b)]) | skip); (repeat' ((first | refine AM.drawW_fine hp (by kernel_rfl) (by kernel_rfl) ?_ | refine AM.opW_tied (by kernel_rfl) ?_ | refine AM.opW_untied (by kernel_rfl) ?_ | refine AM.build_w ?_); simp (maxSteps := 1000000) (disch := first | omega | (simp only [AM.DB, List.length_set, List.length_map]; first | done | omega)) only [AM.RB, Nat.reduceAdd, Nat.reduceMul, Nat.reduceEqDiff, reduceCtorEq, b5_G22, decide_eq_true (rfl : farL L a b = farL L a b)]))
        refine edges_w mt4 f hw4 (by omega) (by omega) fun h5 S5 mt5 hS5 fr5 => ?_
        have lw5 := fr5.low
        have nx5 := fr5.next
        have hw5 := fr5.get hw4 hgp
        have r5 := r4.keep fr5 (fun e => hqp q (.inl rfl) e) (fun id e => hqp id (.inr e))
        (first | (simp (maxSteps := 1000000) (disch := first | omega | (simp only [AM.DB, List.length_set, List.length_map]; first | done | omega)) only [AM.RB, Nat.reduceAdd, Nat.reduceMul, Nat.reduceEqDiff, reduceCtorEq, b5_G22, decide_eq_true (rfl : (outN L L.flatten.length : Int) = outN L L.flatten.length)]) | skip); (repeat' ((first | refine AM.drawW_fine hp (by kernel_rfl) (by kernel_rfl) ?_ | refine AM.opW_tied (by kernel_rfl) ?_ | refine AM.opW_untied (by kernel_rfl) ?_ | refine AM.build_w ?_); simp (maxSteps := 1000000) (disch := first | omega | (simp only [AM.DB, List.length_set, List.length_map]; first | done | omega)) only [AM.RB, Nat.reduceAdd, Nat.reduceMul, Nat.reduceEqDiff, reduceCtorEq, b5_G22, decide_eq_true (rfl : (outN L L.flatten.length : Int) = outN L L.flatten.length)]))
        refine next_w mt5 f hw5 (by omega) (by omega) a fun x h6 S6 mt6 hS6 o6 fr6 hid6 => ?_
        have lw6 := fr6.low
        have nx6 := fr6.next
        have r6 := r5.keep fr6 (fun e => hqp q (.inl rfl) e) (fun id e => hqp id (.inr e))
        (first | (simp (maxSteps := 1000000) (disch := first | omega | (simp only [AM.DB, List.length_set, List.length_map]; first | done | omega)) only [AM.RB, Nat.reduceAdd, Nat.reduceMul, Nat.reduceEqDiff, reduceCtorEq, b5_G22]) | skip); (repeat' ((first | refine AM.drawW_fine hp (by kernel_rfl) (by kernel_rfl) ?_ | refine AM.opW_tied (by kernel_rfl) ?_ | refine AM.opW_untied (by kernel_rfl) ?_ | refine AM.build_w ?_); simp (maxSteps := 1000000) (disch := first | omega | (simp only [AM.DB, List.length_set, List.length_map]; first | done | omega)) only [AM.RB, Nat.reduceAdd, Nat.reduceMul, Nat.reduceEqDiff, reduceCtorEq, b5_G22]))
        refine refNext_w r6 G (by omega) a fun y h7 o7 fr7 hid7 => ?_
        have hnl := nextL_len f a
        (first | (simp (maxSteps := 1000000) (disch := first | omega | (simp only [AM.DB, List.length_set, List.length_map]; first | done | omega)) only [AM.RB, Nat.reduceAdd, Nat.reduceMul, Nat.reduceEqDiff, reduceCtorEq, b5_G22]) | skip); (repeat' ((first | refine AM.drawW_fine hp (by kernel_rfl) (by kernel_rfl) ?_ | refine AM.opW_tied (by kernel_rfl) ?_ | refine AM.opW_untied (by kernel_rfl) ?_ | refine AM.build_w ?_); simp (maxSteps := 1000000) (disch := first | omega | (simp only [AM.DB, List.length_set, List.length_map]; first | done | omega)) only [AM.RB, Nat.reduceAdd, Nat.reduceMul, Nat.reduceEqDiff, reduceCtorEq, b5_G22]))
        refine same_w (o6.fr0 fr7).rd o7.rd (by omega) ?_
        rw [decide_eq_true rfl]
        (first | (simp (maxSteps := 1000000) (disch := first | omega | (simp only [AM.DB, List.length_set, List.length_map]; first | done | omega)) only [AM.RB, Nat.reduceAdd, Nat.reduceMul, Nat.reduceEqDiff, reduceCtorEq, b5_G22]) | skip); (repeat' ((first | refine AM.drawW_fine hp (by kernel_rfl) (by kernel_rfl) ?_ | refine AM.opW_tied (by kernel_rfl) ?_ | refine AM.opW_untied (by kernel_rfl) ?_ | refine AM.build_w ?_); simp (maxSteps := 1000000) (disch := first | omega | (simp only [AM.DB, List.length_set, List.length_map]; first | done | omega)) only [AM.RB, Nat.reduceAdd, Nat.reduceMul, Nat.reduceEqDiff, reduceCtorEq, b5_G22]))

end Go.Proofs.YtdimjemgganegaaDoor

namespace Go.Proofs.YtdimjemgganegaaDoor
open Go.AM
set_option maxRecDepth 8000
theorem b7_G23 : type_of% (And.intro (@AM.bin_eql) (And.intro (AM.bsW_int bs_29) (And.intro (AM.bsW_int3 bs_29) (And.intro (AM.bsW_int5 bs_29) (And.intro (AM.bsW_nil bs_29) (And.intro (AM.bsW_slice bs_29) (And.intro (AM.bsW_string bs_29) (And.intro (@AM.ex_tuple) (And.intro (AM.len_slice ul_29) (And.intro (@AM.op_binOp) (And.intro (@AM.op_buildSlice) (And.intro (@AM.op_call) (And.intro (@AM.op_extract) (@AM.op_len)))))))))))))) := And.intro (@AM.bin_eql) (And.intro (AM.bsW_int bs_29) (And.intro (AM.bsW_int3 bs_29) (And.intro (AM.bsW_int5 bs_29) (And.intro (AM.bsW_nil bs_29) (And.intro (AM.bsW_slice bs_29) (And.intro (AM.bsW_string bs_29) (And.intro (@AM.ex_tuple) (And.intro (AM.len_slice ul_29) (And.intro (@AM.op_binOp) (And.intro (@AM.op_buildSlice) (And.intro (@AM.op_call) (And.intro (@AM.op_extract) (@AM.op_len)))))))))))))


/-! ### The chapter's first example -/
def exT : List UInt8 := [46, 46, 62, 10, 35, 46, 118, 10]
def exL : List (List UInt8) := [[46, 46, 62], [35, 46, 118]]
theorem ex_verd : verd exT = .ok exL := by kernel_rfl
theorem ex_out : outN exL exL.flatten.length = 6 := by kernel_rfl
theorem ex_all : allP exL.flatten exL.flatten.length = [0, 1, 2, 4, 5] := by kernel_rfl
theorem ex_n1 : nextL exL 1 = [0, 2, 4] := by kernel_rfl
theorem ex_n2 : nextL exL 2 = [] := by kernel_rfl
theorem ex_b4 : backL exL 4 = [1] := by kernel_rfl
set_option maxHeartbeats 4000000 in
theorem alive_w {h : AHeap} (hw : h.get GW = some (.cells waysC 89 false)) (hgl : GW < h.low) (hl : h.low ≤ h.next) {Q : VQ} (hq : ∀ h', Fr none' h h' → Q (.bool true) h') : W 7 [] h Q := by
  have G := verd_good ex_verd
  have f := G.fit
  refine AM.enter hp (fn := Tryd.f7) (rs := [.tmp 0]) (nt := 52) (by kernel_rfl) Tryd.func7 rfl rfl rfl (by kernel_rfl) ?_
  (first | (simp (maxSteps := 1000000) (disch := first | omega | (simp only [AM.DB, List.length_set, List.length_map]; first | done | omega)) only [AM.RB, Nat.reduceAdd, Nat.reduceMul, Nat.reduceEqDiff, reduceCtorEq, b7_G23]) | skip); (repeat' ((first | refine AM.drawW_fine hp (by kernel_rfl) (by kernel_rfl) ?_ | refine AM.opW_tied (by kernel_rfl) ?_ | refine AM.opW_untied (by kernel_rfl) ?_ | refine AM.build_w ?_); simp (maxSteps := 1000000) (disch := first | omega | (simp only [AM.DB, List.length_set, List.length_map]; first | done | omega)) only [AM.RB, Nat.reduceAdd, Nat.reduceMul, Nat.reduceEqDiff, reduceCtorEq, b7_G23]))
  refine parseV_w exT (by decide) hl (fun a b hv => by rw [ex_verd] at hv; cases hv) (fun L hv p kv h1 m0 fr1 hp1 hid1 => ?_)
  rw [ex_verd] at hv
  cases hv
  have hw1 := hw.fr0 fr1
  have lw1 := fr1.low
  have nx1 := fr1.next
  have mt1 := Mt.start m0
  have hgp : GW ≠ p := by omega
  (first | (simp (maxSteps := 1000000) (disch := first | omega | (simp only [AM.DB, List.length_set, List.length_map]; first | done | omega)) only [AM.RB, Nat.reduceAdd, Nat.reduceMul, Nat.reduceEqDiff, reduceCtorEq, b7_G23, AM.wrap_i64]) | skip); (repeat' ((first | refine AM.drawW_fine hp (by kernel_rfl) (by kernel_rfl) ?_ | refine AM.opW_tied (by kernel_rfl) ?_ | refine AM.opW_untied (by kernel_rfl) ?_ | refine AM.build_w ?_); simp (maxSteps := 1000000) (disch := first | omega | (simp only [AM.DB, List.length_set, List.length_map]; first | done | omega)) only [AM.RB, Nat.reduceAdd, Nat.reduceMul, Nat.reduceEqDiff, reduceCtorEq, b7_G23, AM.wrap_i64]))
  refine rows_w m0 f.rows _ ?_
  have d2 : decide ((exL.length : Int) = 2) = true := by decide
  have d3 : decide (((exL.getD 0 []).length : Int) = 3) = true := by decide
  have d6 : decide ((outN exL exL.flatten.length : Int) = 6) = true := by rw [ex_out]; rfl
  have hK := f.k1024
  (first | (simp (maxSteps := 1000000) (disch := first | omega | (simp only [AM.DB, List.length_set, List.length_map]; first | done | omega)) only [AM.RB, Nat.reduceAdd, Nat.reduceMul, Nat.reduceEqDiff, reduceCtorEq, b7_G23, d2]) | skip); (repeat' ((first | refine AM.drawW_fine hp (by kernel_rfl) (by kernel_rfl) ?_ | refine AM.opW_tied (by kernel_rfl) ?_ | refine AM.opW_untied (by kernel_rfl) ?_ | refine AM.build_w ?_); simp (maxSteps := 1000000) (disch := first | omega | (simp only [AM.DB, List.length_set, List.length_map]; first | done | omega)) only [AM.RB, Nat.reduceAdd, Nat.reduceMul, Nat.reduceEqDiff, reduceCtorEq, b7_G23, d2]))
  refine cols_w m0 f.rows _ ?_
  (first | (simp (maxSteps := 1000000) (disch := first | omega | (simp only [AM.DB, List.length_set, List.length_map]; first | done | omega)) only [AM.RB, Nat.reduceAdd, Nat.reduceMul, Nat.reduceEqDiff, reduceCtorEq, b7_G23, d3]) | skip); (repeat' ((first | refine AM.drawW_fine hp (by kernel_rfl) (by kernel_rfl) ?_ | refine AM.opW_tied (by kernel_rfl) ?_ | refine AM.opW_untied (by kernel_rfl) ?_ | refine AM.build_w ?_); simp (maxSteps := 1000000) (disch := first | omega | (simp only [AM.DB, List.length_set, List.length_map]; first | done | omega)) only [AM.RB, Nat.reduceAdd, Nat.reduceMul, Nat.reduceEqDiff, reduceCtorEq, b7_G23, d3]))
  refine edges_w mt1 f hw1 (by omega) (fr1.hl hl) fun h2 S2 mt2 hS2 fr2 => ?_
  obtain ⟨kv2, tl2, m2⟩ := mt2.mp
  have hw2 := fr2.get hw1 hgp
  have lw2 := fr2.low
  have nx2 := fr2.next
  (first | (simp (maxSteps := 1000000) (disch := first | omega | (simp only [AM.DB, List.length_set, List.length_map]; first | done | omega)) only [AM.RB, Nat.reduceAdd, Nat.reduceMul, Nat.reduceEqDiff, reduceCtorEq, b7_G23, d6]) | skip); (repeat' ((first | refine AM.drawW_fine hp (by kernel_rfl) (by kernel_rfl) ?_ | refine AM.opW_tied (by kernel_rfl) ?_ | refine AM.opW_untied (by kernel_rfl) ?_ | refine AM.build_w ?_); simp (maxSteps := 1000000) (disch := first | omega | (simp only [AM.DB, List.length_set, List.length_map]; first | done | omega)) only [AM.RB, Nat.reduceAdd, Nat.reduceMul, Nat.reduceEqDiff, reduceCtorEq, b7_G23, d6]))
  refine all_w m2 f.rows (by omega) (by omega) _ fun va h3 o3 fr3 hid3 => ?_
  rw [ex_all] at o3
  obtain ⟨vaa, vac, rfl⟩ := o3.form
  have mt3 := mt2.fr0 fr3
  have hw3 := hw2.fr0 fr3
  have lw3 := fr3.low
  have nx3 := fr3.next
  (first | (simp (maxSteps := 1000000) (disch := first | omega | (simp only [AM.DB, List.length_set, List.length_map]; first | done | omega)) only [AM.RB, Nat.reduceAdd, Nat.reduceMul, Nat.reduceEqDiff, reduceCtorEq, b7_G23]) | skip); (repeat' ((first | refine AM.drawW_fine hp (by kernel_rfl) (by kernel_rfl) ?_ | refine AM.opW_tied (by kernel_rfl) ?_ | refine AM.opW_untied (by kernel_rfl) ?_ | refine AM.build_w ?_); simp (maxSteps := 1000000) (disch := first | omega | (simp only [AM.DB, List.length_set, List.length_map]; first | done | omega)) only [AM.RB, Nat.reduceAdd, Nat.reduceMul, Nat.reduceEqDiff, reduceCtorEq, b7_G23]))
  generalize hE_ : AHeap.alloc h3 _ = h4; obtain ⟨g4, fr4, n4, l4⟩ := AM.new_get hE_; clear hE_
  have r4 : Rd h4 3 1 (.slice (some ⟨h3.next, 0, none⟩) 5 5) 5 (([0, 1, 2, 4, 5] : List Int).map (.int .i64)) := AM.Rd.whole (n := 5) g4 rfl
  refine same_w (o3.fr0 fr4).rd r4 (by simp) ?_
  have mt4 := mt3.fr0 fr4
  have hw4 := hw3.fr0 fr4
  have lw4 := fr4.low
  rw [decide_eq_true rfl]
  (first | (simp (maxSteps := 1000000) (disch := first | omega | (simp only [AM.DB, List.length_set, List.length_map]; first | done | omega)) only [AM.RB, Nat.reduceAdd, Nat.reduceMul, Nat.reduceEqDiff, reduceCtorEq, b7_G23]) | skip); (repeat' ((first | refine AM.drawW_fine hp (by kernel_rfl) (by kernel_rfl) ?_ | refine AM.opW_tied (by kernel_rfl) ?_ | refine AM.opW_untied (by kernel_rfl) ?_ | refine AM.build_w ?_); simp (maxSteps := 1000000) (disch := first | omega | (simp only [AM.DB, List.length_set, List.length_map]; first | done | omega)) only [AM.RB, Nat.reduceAdd, Nat.reduceMul, Nat.reduceEqDiff, reduceCtorEq, b7_G23]))
  refine next_w mt4 f hw4 (by omega) (by omega) 1 fun v5 h5 S5 mt5 hS5 o5 fr5 hid5 => ?_
  rw [ex_n1] at o5
  obtain ⟨v5a, v5c, rfl⟩ := o5.form
  have hw5 := fr5.get hw4 hgp
  have lw5 := fr5.low
  have nx5 := fr5.next
  (first | (simp (maxSteps := 1000000) (disch := first | omega | (simp only [AM.DB, List.length_set, List.length_map]; first | done | omega)) only [AM.RB, Nat.reduceAdd, Nat.reduceMul, Nat.reduceEqDiff, reduceCtorEq, b7_G23]) | skip); (repeat' ((first | refine AM.drawW_fine hp (by kernel_rfl) (by kernel_rfl) ?_ | refine AM.opW_tied (by kernel_rfl) ?_ | refine AM.opW_untied (by kernel_rfl) ?_ | refine AM.build_w ?_); simp (maxSteps := 1000000) (disch := first | omega | (simp only [AM.DB, List.length_set, List.length_map]; first | done | omega)) only [AM.RB, Nat.reduceAdd, Nat.reduceMul, Nat.reduceEqDiff, reduceCtorEq, b7_G23]))
  generalize hE_ : AHeap.alloc h5 _ = h6; obtain ⟨g6, fr6, n6, l6⟩ := AM.new_get hE_; clear hE_
  have r6 : Rd h6 3 1 (.slice (some ⟨h5.next, 0, none⟩) 3 3) 3 (([0, 2, 4] : List Int).map (.int .i64)) := AM.Rd.whole (n := 3) g6 rfl
  refine same_w (o5.fr0 fr6).rd r6 (by simp) ?_
  have mt6 := mt5.fr0 fr6
  have hw6 := hw5.fr0 fr6
  have lw6 := fr6.low
  rw [decide_eq_true rfl]
  (first | (simp (maxSteps := 1000000) (disch := first | omega | (simp only [AM.DB, List.length_set, List.length_map]; first | done | omega)) only [AM.RB, Nat.reduceAdd, Nat.reduceMul, Nat.reduceEqDiff, reduceCtorEq, b7_G23]) | skip); (repeat' ((first | refine AM.drawW_fine hp (by kernel_rfl) (by kernel_rfl) ?_ | refine AM.opW_tied (by kernel_rfl) ?_ | refine AM.opW_untied (by kernel_rfl) ?_ | refine AM.build_w ?_); simp (maxSteps := 1000000) (disch := first | omega | (simp only [AM.DB, List.length_set, List.length_map]; first | done | omega)) only [AM.RB, Nat.reduceAdd, Nat.reduceMul, Nat.reduceEqDiff, reduceCtorEq, b7_G23]))
  refine next_w mt6 f hw6 (by omega) (by omega) 2 fun v7 h7 S7 mt7 hS7 o7 fr7 hid7 => ?_
  rw [ex_n2] at o7
  obtain ⟨v7a, v7c, rfl⟩ := o7.form
  have hw7 := fr7.get hw6 hgp
  have lw7 := fr7.low
  have nx7 := fr7.next
  (first | (simp (maxSteps := 1000000) (disch := first | omega | (simp only [AM.DB, List.length_set, List.length_map]; first | done | omega)) only [AM.RB, Nat.reduceAdd, Nat.reduceMul, Nat.reduceEqDiff, reduceCtorEq, b7_G23, List.length_nil]) | skip); (repeat' ((first | refine AM.drawW_fine hp (by kernel_rfl) (by kernel_rfl) ?_ | refine AM.opW_tied (by kernel_rfl) ?_ | refine AM.opW_untied (by kernel_rfl) ?_ | refine AM.build_w ?_); simp (maxSteps := 1000000) (disch := first | omega | (simp only [AM.DB, List.length_set, List.length_map]; first | done | omega)) only [AM.RB, Nat.reduceAdd, Nat.reduceMul, Nat.reduceEqDiff, reduceCtorEq, b7_G23, List.length_nil]))
  refine back_w mt7 f hw7 (by omega) (by omega) 4 fun v8 h8 S8 mt8 hS8 o8 fr8 hid8 => ?_
  rw [ex_b4] at o8
  obtain ⟨v8a, v8c, rfl⟩ := o8.form
  have lw8 := fr8.low
  have nx8 := fr8.next
  (first | (simp (maxSteps := 1000000) (disch := first | omega | (simp only [AM.DB, List.length_set, List.length_map]; first | done | omega)) only [AM.RB, Nat.reduceAdd, Nat.reduceMul, Nat.reduceEqDiff, reduceCtorEq, b7_G23]) | skip); (repeat' ((first | refine AM.drawW_fine hp (by kernel_rfl) (by kernel_rfl) ?_ | refine AM.opW_tied (by kernel_rfl) ?_ | refine AM.opW_untied (by kernel_rfl) ?_ | refine AM.build_w ?_); simp (maxSteps := 1000000) (disch := first | omega | (simp only [AM.DB, List.length_set, List.length_map]; first | done | omega)) only [AM.RB, Nat.reduceAdd, Nat.reduceMul, Nat.reduceEqDiff, reduceCtorEq, b7_G23]))
  generalize hE_ : AHeap.alloc h8 _ = h9; obtain ⟨g9, fr9, n9, l9⟩ := AM.new_get hE_; clear hE_
  have r9 : Rd h9 3 1 (.slice (some ⟨h8.next, 0, none⟩) 1 1) 1 (([1] : List Int).map (.int .i64)) := AM.Rd.whole (n := 1) g9 rfl
  refine same_w (o8.fr0 fr9).rd r9 (by simp) ?_
  rw [decide_eq_true rfl]
  (first | (simp (maxSteps := 1000000) (disch := first | omega | (simp only [AM.DB, List.length_set, List.length_map]; first | done | omega)) only [AM.RB, Nat.reduceAdd, Nat.reduceMul, Nat.reduceEqDiff, reduceCtorEq, b7_G23]) | skip); (repeat' ((first | refine AM.drawW_fine hp (by kernel_rfl) (by kernel_rfl) ?_ | refine AM.opW_tied (by kernel_rfl) ?_ | refine AM.opW_untied (by kernel_rfl) ?_ | refine AM.build_w ?_); simp (maxSteps := 1000000) (disch := first | omega | (simp only [AM.DB, List.length_set, List.length_map]; first | done | omega)) only [AM.RB, Nat.reduceAdd, Nat.reduceMul, Nat.reduceEqDiff, reduceCtorEq, b7_G23]))
  have hpf : ∀ id, id = p → h.next ≤ id := fun id e => by omega
  exact hq _ ((((((((fr1.fresh fr2 hpf).trans fr3).trans fr4).fresh fr5 hpf).trans fr6).fresh fr7 hpf).fresh fr8 hpf).trans fr9)

end Go.Proofs.YtdimjemgganegaaDoor

namespace Go.Proofs.YtdimjemgganegaaDoor
open Go.AM

/-! ### Laws of edges -/
def inN (L : List (List UInt8)) : Nat → Nat
  | 0 => 0
  | k + 1 => inN L k + (backL L k).length
theorem sum_from (E : List Ed) : ∀ n, (∀ e ∈ E, True) → ((List.range n).map fun j => (fromE E j).length).sum = (E.filter fun e => decide (e.1 < n)).length
  | 0, _ => by
    have : E.filter (fun e => decide (e.1 < 0)) = [] := List.filter_eq_nil_iff.2 fun e _ => by simp
    rw [this]; rfl
  | n + 1, h => by
    rw [List.range_succ, List.map_append, List.sum_append, sum_from E n h]
    simp only [List.map_cons, List.map_nil, List.sum_cons, List.sum_nil, Nat.add_zero]
    unfold fromE
    rw [List.length_map]
    clear h
    induction E with
    | nil => rfl
    | cons e E ih =>
      simp only [List.filter_cons]
      by_cases h1 : e.1 < n
      · have h2 : ¬ e.1 = n := by omega
        have h3 : e.1 < n + 1 := by omega
        simp only [h1, h2, h3, decide_true, decide_false, if_true, Bool.false_eq_true, if_false, List.length_cons]
        omega
      · by_cases h2 : e.1 = n
        · have h3 : e.1 < n + 1 := by omega
          simp only [h1, h2, decide_true, decide_false, if_true, Bool.false_eq_true, if_false, List.length_cons, show n < n + 1 by omega, Nat.lt_irrefl]
          omega
        · have h3 : ¬ e.1 < n + 1 := by omega
          simp only [h1, h2, h3, decide_false, Bool.false_eq_true, if_false]
          omega
theorem sum_into (E : List Ed) : ∀ n, ((List.range n).map fun j => (intoE E j).length).sum = (E.filter fun e => decide (e.2 < n)).length
  | 0 => by
    have : E.filter (fun e => decide (e.2 < 0)) = [] := List.filter_eq_nil_iff.2 fun e _ => by simp
    rw [this]; rfl
  | n + 1 => by
    rw [List.range_succ, List.map_append, List.sum_append, sum_into E n]
    simp only [List.map_cons, List.map_nil, List.sum_cons, List.sum_nil, Nat.add_zero]
    unfold intoE
    rw [List.length_map]
    induction E with
    | nil => rfl
    | cons e E ih =>
      simp only [List.filter_cons]
      by_cases h1 : e.2 < n
      · have h2 : ¬ e.2 = n := by omega
        have h3 : e.2 < n + 1 := by omega
        simp only [h1, h2, h3, decide_true, decide_false, if_true, Bool.false_eq_true, if_false, List.length_cons]
        omega
      · by_cases h2 : e.2 = n
        · simp only [h1, h2, decide_true, decide_false, if_true, Bool.false_eq_true, if_false, List.length_cons, show n < n + 1 by omega, Nat.lt_irrefl]
          omega
        · have h3 : ¬ e.2 < n + 1 := by omega
          simp only [h1, h2, h3, decide_false, Bool.false_eq_true, if_false]
          omega
theorem edgesTo_mem {K : List UInt8} {R C : Nat} (hC : 0 < C) : ∀ {n : Nat} {e : Ed}, e ∈ edgesTo K R C n → e.1 < n ∧ e.2 < R * C
  | 0, e, h => by cases h
  | n + 1, e, h => by
    rw [edgesTo, List.mem_append] at h
    rcases h with h | h
    · have := edgesTo_mem hC h; omega
    · unfold edgesW at h
      obtain ⟨q, hq, rfl⟩ := List.mem_map.1 h
      have h1 := (List.mem_filter.1 hq).1
      unfold sidesF at h1
      obtain ⟨b, hb, hbl⟩ := cellTo_lt hC (List.mem_filter.1 h1).2
      simp only [hb, Int.toNat_natCast]
      exact ⟨by omega, hbl⟩
theorem outN_sum (L : List (List UInt8)) : ∀ k, k ≤ L.flatten.length → outN L k = ((List.range k).map fun j => (fromE (edgesL L) j).length).sum
  | 0, _ => rfl
  | k + 1, h => by
    rw [outN, outN_sum L k (by omega), List.range_succ, List.map_append, List.sum_append]
    have : nextL L (k : Int) = fromE (edgesL L) k := by unfold nextL; rw [if_pos (by omega), Int.toNat_natCast]
    rw [this]; simp
theorem inN_sum (L : List (List UInt8)) : ∀ k, k ≤ L.flatten.length → inN L k = ((List.range k).map fun j => (intoE (edgesL L) j).length).sum
  | 0, _ => rfl
  | k + 1, h => by
    rw [inN, inN_sum L k (by omega), List.range_succ, List.map_append, List.sum_append]
    have : backL L (k : Int) = intoE (edgesL L) k := by unfold backL; rw [if_pos (by omega), Int.toNat_natCast]
    rw [this]; simp
theorem in_out {L : List (List UInt8)} (f : Fit L) : inN L L.flatten.length = outN L L.flatten.length := by
  rw [inN_sum L _ (Nat.le_refl _), outN_sum L _ (Nat.le_refl _), sum_into, sum_from _ _ (fun _ _ => trivial)]
  have h1 : (edgesL L).filter (fun e => decide (e.2 < L.flatten.length)) = edgesL L := List.filter_eq_self.2 fun e he => by
    have := edgesTo_mem f.cols he
    rw [f.len]; exact decide_eq_true this.2
  have h2 : (edgesL L).filter (fun e => decide (e.1 < L.flatten.length)) = edgesL L := List.filter_eq_self.2 fun e he => decide_eq_true (edgesTo_mem f.cols he).1
  rw [h1, h2]
theorem inN_le {L : List (List UInt8)} (f : Fit L) : ∀ k, inN L k ≤ 1024 * k
  | 0 => Nat.le_refl _
  | k + 1 => by have := inN_le f k; have := backL_len f k; rw [inN]; omega
/-- What an edge tells. -/
theorem edgeL_facts {L : List (List UInt8)} {a b : Int} (h : edgeL L a b = true) : ((0 ≤ a ∧ a < L.flatten.length) ∧ 0 ≤ b ∧ b < L.flatten.length) ∧ farL L a b = 1 ∧ freeP L.flatten a = true ∧ freeP L.flatten b = true := by
  unfold edgeL edgeN at h
  simp only [Bool.and_eq_true, decide_eq_true_eq, Bool.or_eq_true, Bool.not_eq_true', decide_eq_false_iff_not] at h
  obtain ⟨hin, ⟨⟨⟨h1, h2⟩, h3⟩, _⟩, _⟩ := h
  refine ⟨hin, by unfold farL; rw [if_pos hin]; exact h3, ?_, ?_⟩
  · unfold freeP kindP
    rw [decide_eq_true hin.1, if_pos hin.1.1, Bool.true_and]
    have : decide (L.flatten.getD a.toNat 0 = 35) = false := decide_eq_false fun e => h1 (by rw [e]; rfl)
    rw [this]; rfl
  · unfold freeP kindP
    rw [decide_eq_true hin.2, if_pos hin.2.1, Bool.true_and]
    have : decide (L.flatten.getD b.toNat 0 = 35) = false := decide_eq_false fun e => h2 (by rw [e]; rfl)
    rw [this]; rfl
theorem farN_comm (C a b : Nat) : farN C a b = farN C b a := by unfold farN; omega
/-- Between cells side by side that are not one-way edges go both ways. -/
theorem edgeL_both {L : List (List UInt8)} {a b : Int} (h : edgeL L a b = true) (ha : ((kindP L.flatten a).toNat : Int) = 46) (hb : ((kindP L.flatten b).toNat : Int) = 46) : edgeL L b a = true := by
  obtain ⟨hin, _, _, _⟩ := edgeL_facts h
  unfold kindP at ha hb
  rw [if_pos hin.1.1] at ha
  rw [if_pos hin.2.1] at hb
  unfold edgeL edgeN at h ⊢
  simp only [Bool.and_eq_true, decide_eq_true_eq, Bool.or_eq_true, Bool.not_eq_true', decide_eq_false_iff_not] at h ⊢
  obtain ⟨_, ⟨⟨⟨h1, h2⟩, h3⟩, _⟩, _⟩ := h
  refine ⟨⟨hin.2, hin.1⟩, ⟨⟨⟨h2, h1⟩, by rw [farN_comm]; exact h3⟩, .inl hb⟩, ?_⟩
  rw [ha]
  unfold wayOf
  split
  · decide
  · split
    · decide
    · split <;> decide
theorem asc_at : ∀ {l : List Nat}, Asc l → ∀ {i j : Nat}, i < j → j < l.length → l.getD i 0 < l.getD j 0
  | [], _, _, _, _, h => by simp at h
  | x :: l, ⟨a1, a2⟩, 0, j + 1, _, h => by
    simp only [List.length_cons] at h
    have hj : j < l.length := by omega
    have : l.getD j 0 = l[j] := by simp [List.getD, hj]
    show x < l.getD j 0
    rw [this]; exact a1 _ (List.getElem_mem hj)
  | x :: l, ⟨a1, a2⟩, i + 1, j + 1, hij, h => by
    simp only [List.length_cons] at h
    exact asc_at (l := l) a2 (i := i) (j := j) (by omega) (by omega)
theorem nextL_asc {L : List (List UInt8)} (f : Fit L) (a : Int) {i j : Nat} (hij : i < j) (hj : j < (nextL L a).length) : (nextL L a).getD i 0 < (nextL L a).getD j 0 := by
  rw [← nxt_eq f] at hj ⊢
  unfold nxt at hj ⊢
  rw [List.length_map] at hj
  have hasc : Asc ((List.range L.flatten.length).filter fun (b : Nat) => edgeL L a b) := asc_filter (asc_range _)
  generalize ((List.range L.flatten.length).filter fun (b : Nat) => edgeL L a b) = l at *
  have hc : ∀ k, k < l.length → (l.map fun (b : Nat) => (b : Int)).getD k 0 = (l.getD k 0 : Nat) := fun k hk => by simp [List.getD, hk]
  rw [hc i (by omega), hc j hj]
  have := asc_at hasc hij hj
  omega
theorem nextL_at {L : List (List UInt8)} (f : Fit L) (a : Int) {i : Nat} (hi : i < (nextL L a).length) : edgeL L a ((nextL L a).getD i 0) = true := by
  rw [← edge_mem f]
  refine decide_eq_true ?_
  have : (nextL L a).getD i 0 = (nextL L a)[i] := by simp [List.getD, hi]
  rw [this]; exact List.getElem_mem hi
theorem backL_mem {L : List (List UInt8)} (f : Fit L) {a b : Int} (h : edgeL L a b = true) : a ∈ backL L b := by
  rw [← bck_eq f]
  unfold bck
  obtain ⟨hin, _⟩ := edgeL_facts h
  obtain ⟨n, rfl⟩ := Int.eq_ofNat_of_zero_le hin.1.1
  exact List.mem_map.2 ⟨n, List.mem_filter.2 ⟨List.mem_range.2 (by omega), h⟩, rfl⟩

end Go.Proofs.YtdimjemgganegaaDoor
