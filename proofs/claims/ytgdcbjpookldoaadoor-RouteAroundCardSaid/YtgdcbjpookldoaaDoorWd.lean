/- Walks of this claim's functions, and plain laws. -/
import Derived.Test.YtgdcbjpookldoaaDoorWc
import Derived.Test.YtgdcbjpookldoaaDoorAMBfs3
import Derived.Test.YtgdcbjpookldoaaDoorAMLvl
set_option linter.unusedSimpArgs false
set_option linter.unusedVariables false
namespace Go.Proofs.YtgdcbjpookldoaaDoor
open Go.AM
set_option maxRecDepth 8000
theorem b17_G20 : type_of% (And.intro (@AM.bin_eql) (And.intro (@AM.bin_gtr) (And.intro (@AM.bin_lss) (And.intro (@AM.bin_neq) (And.intro (@AM.bin_quo) (And.intro (@AM.bin_sub) (And.intro (@AM.op_binOp) (And.intro (@AM.op_call) (And.intro (@AM.op_unOp) (And.intro (@AM.un_neg) (@AM.un_not))))))))))) := And.intro (@AM.bin_eql) (And.intro (@AM.bin_gtr) (And.intro (@AM.bin_lss) (And.intro (@AM.bin_neq) (And.intro (@AM.bin_quo) (And.intro (@AM.bin_sub) (And.intro (@AM.op_binOp) (And.intro (@AM.op_call) (And.intro (@AM.op_unOp) (And.intro (@AM.un_neg) (@AM.un_not))))))))))
theorem b63_G20 : type_of% (And.intro (@AM.bin_add) (And.intro (@AM.bin_lss) (And.intro (AM.bsW_int bs_22) (And.intro (AM.bsW_nil bs_22) (And.intro (AM.bsW_slice bs_22) (And.intro (AM.bsW_string bs_22) (And.intro (@AM.op_append) (And.intro (@AM.op_binOp) (And.intro (@AM.op_buildSlice) (@AM.op_call)))))))))) := And.intro (@AM.bin_add) (And.intro (@AM.bin_lss) (And.intro (AM.bsW_int bs_22) (And.intro (AM.bsW_nil bs_22) (And.intro (AM.bsW_slice bs_22) (And.intro (AM.bsW_string bs_22) (And.intro (@AM.op_append) (And.intro (@AM.op_binOp) (And.intro (@AM.op_buildSlice) (@AM.op_call)))))))))
def edgeL (L : List (List UInt8)) (a b : Int) : Bool := decide ((0 ≤ a ∧ a < L.flatten.length) ∧ 0 ≤ b ∧ b < L.flatten.length) && edgeN L.flatten (L.getD 0 []).length a.toNat b.toNat
set_option maxHeartbeats 4000000 in
theorem refEdge_w {h : AHeap} {p : Nat} {lv : Value} {L : List (List UInt8)} {l : List UInt8} (r : Rp h p lv L) (G : Good l L) (a b : Int) {Q : VQ} (hq : Q (.bool (edgeL L a b)) h) : W 17 [pv p, .int .i64 a, .int .i64 b] h Q := by
  have hK := G.fit.k1024
  have hC := G.cols
  have g32 := G.r32
  have gc32 := G.c32
  have hbd : L.length ≤ 4000000 ∧ (L.getD 0 []).length ≤ 4000000 := by omega
  unfold edgeL at hq
  refine AM.enter hp (fn := Tryd.f17) (rs := [.tmp 6]) (nt := 80) (by kernel_rfl) Tryd.func17 rfl rfl rfl (by kernel_rfl) ?_
  (repeat' (first | (simp (maxSteps := 1000000) (disch := first | omega | (simp only [AM.DB, List.length_set, List.length_map]; first | done | omega)) only [AM.RB, Nat.reduceAdd, Nat.reduceMul, Nat.reduceEqDiff, reduceCtorEq, b17_G20]) | refine AM.drawW_fine hp (by kernel_rfl) (by kernel_rfl) (by kernel_rfl) ?_ | refine AM.opW_tied (by kernel_rfl) ?_ | refine AM.opW_untied (by kernel_rfl) ?_))
  refine refFree_w r G.rows hbd G.all a ?_
  rw [G.free]
  have hfr : ∀ i : Int, freeP L.flatten i = (decide (0 ≤ i ∧ i < L.flatten.length) && !decide (((L.flatten.getD i.toNat 0).toNat : Int) = 35)) := fun i => by
    unfold freeP kindP
    by_cases hi : 0 ≤ i ∧ i < L.flatten.length
    · rw [if_pos hi.1, show decide (((L.flatten.getD i.toNat 0).toNat : Int) = 35) = decide (L.flatten.getD i.toNat 0 = 35) from u8_lit _ 35 (by omega)]
    · rw [decide_eq_false hi]; rfl
  have hkd : ∀ i : Int, 0 ≤ i → rkind L i = L.flatten.getD i.toNat 0 := fun i hi => by rw [G.kind]; unfold kindP; rw [if_pos hi]
  cases hfa : freeP L.flatten a
  · have e : (decide ((0 ≤ a ∧ a < L.flatten.length) ∧ 0 ≤ b ∧ b < L.flatten.length) && edgeN L.flatten (L.getD 0 []).length a.toNat b.toNat) = false := by
      rw [hfr] at hfa
      unfold edgeN
      by_cases hi : 0 ≤ a ∧ a < L.flatten.length
      · rw [decide_eq_true hi, Bool.true_and] at hfa
        rw [hfa]; simp
      · rw [decide_eq_false (fun q => hi q.1)]; rfl
    rw [e] at hq
    (repeat' (first | (simp (maxSteps := 1000000) (disch := first | omega | (simp only [AM.DB, List.length_set, List.length_map]; first | done | omega)) only [AM.RB, Nat.reduceAdd, Nat.reduceMul, Nat.reduceEqDiff, reduceCtorEq, b17_G20]) | refine AM.drawW_fine hp (by kernel_rfl) (by kernel_rfl) (by kernel_rfl) ?_ | refine AM.opW_tied (by kernel_rfl) ?_ | refine AM.opW_untied (by kernel_rfl) ?_))
    exact hq
  (repeat' (first | (simp (maxSteps := 1000000) (disch := first | omega | (simp only [AM.DB, List.length_set, List.length_map]; first | done | omega)) only [AM.RB, Nat.reduceAdd, Nat.reduceMul, Nat.reduceEqDiff, reduceCtorEq, b17_G20]) | refine AM.drawW_fine hp (by kernel_rfl) (by kernel_rfl) (by kernel_rfl) ?_ | refine AM.opW_tied (by kernel_rfl) ?_ | refine AM.opW_untied (by kernel_rfl) ?_))
  refine refFree_w r G.rows hbd G.all b ?_
  rw [G.free]
  cases hfb : freeP L.flatten b
  · have e : (decide ((0 ≤ a ∧ a < L.flatten.length) ∧ 0 ≤ b ∧ b < L.flatten.length) && edgeN L.flatten (L.getD 0 []).length a.toNat b.toNat) = false := by
      rw [hfr] at hfb
      unfold edgeN
      by_cases hi : 0 ≤ b ∧ b < L.flatten.length
      · rw [decide_eq_true hi, Bool.true_and] at hfb
        rw [hfb]; simp
      · rw [decide_eq_false (fun q => hi q.2)]; rfl
    rw [e] at hq
    (repeat' (first | (simp (maxSteps := 1000000) (disch := first | omega | (simp only [AM.DB, List.length_set, List.length_map]; first | done | omega)) only [AM.RB, Nat.reduceAdd, Nat.reduceMul, Nat.reduceEqDiff, reduceCtorEq, b17_G20]) | refine AM.drawW_fine hp (by kernel_rfl) (by kernel_rfl) (by kernel_rfl) ?_ | refine AM.opW_tied (by kernel_rfl) ?_ | refine AM.opW_untied (by kernel_rfl) ?_))
    exact hq
  (repeat' (first | (simp (maxSteps := 1000000) (disch := first | omega | (simp only [AM.DB, List.length_set, List.length_map]; first | done | omega)) only [AM.RB, Nat.reduceAdd, Nat.reduceMul, Nat.reduceEqDiff, reduceCtorEq, b17_G20]) | refine AM.drawW_fine hp (by kernel_rfl) (by kernel_rfl) (by kernel_rfl) ?_ | refine AM.opW_tied (by kernel_rfl) ?_ | refine AM.opW_untied (by kernel_rfl) ?_))
  refine refFar_w r G a b ?_
  have hia := freeP_in hfa
  have hib := freeP_in hfb
  obtain ⟨na, rfl⟩ := Int.eq_ofNat_of_zero_le hia.1
  obtain ⟨nb, rfl⟩ := Int.eq_ofNat_of_zero_le hib.1
  rw [hfr, decide_eq_true hia, Bool.true_and, Int.toNat_natCast] at hfa
  rw [hfr, decide_eq_true hib, Bool.true_and, Int.toNat_natCast] at hfb
  have hfar : farL L na nb = farN (L.getD 0 []).length na nb := by unfold farL; rw [if_pos ⟨hia, hib⟩]; rfl
  rw [hfar]
  rw [decide_eq_true ⟨hia, hib⟩, Bool.true_and, Int.toNat_natCast, Int.toNat_natCast] at hq
  unfold edgeN at hq
  rw [hfa, hfb, Bool.true_and, Bool.true_and] at hq
  have hka := hkd na hia.1
  have hkb := hkd nb hib.1
  rw [Int.toNat_natCast] at hka hkb
  by_cases hf1 : farN (L.getD 0 []).length na nb = 1
  case neg =>
    rw [decide_eq_false hf1] at hq
    (repeat' (first | (simp (maxSteps := 1000000) (disch := first | omega | (simp only [AM.DB, List.length_set, List.length_map]; first | done | omega)) only [AM.RB, Nat.reduceAdd, Nat.reduceMul, Nat.reduceEqDiff, reduceCtorEq, b17_G20, decide_eq_false hf1]) | refine AM.drawW_fine hp (by kernel_rfl) (by kernel_rfl) (by kernel_rfl) ?_ | refine AM.opW_tied (by kernel_rfl) ?_ | refine AM.opW_untied (by kernel_rfl) ?_))
    simpa using hq
  rw [decide_eq_true hf1, Bool.true_and] at hq
  have hC' : ((L.getD 0 []).length : Int) ≠ 0 := by omega
  have e1 := tdiv_nat na (L.getD 0 []).length
  have e2 := tdiv_nat nb (L.getD 0 []).length
  have w1 := wrap_nat (n := na / (L.getD 0 []).length) (Nat.le_trans (Nat.div_le_self _ _) (by omega))
  have w2 := wrap_nat (n := nb / (L.getD 0 []).length) (Nat.le_trans (Nat.div_le_self _ _) (by omega))
  unfold wayOf at hq
  generalize na / (L.getD 0 []).length = x1 at *
  generalize nb / (L.getD 0 []).length = x2 at *
  obtain ⟨ka, hka'⟩ : ∃ c, L.flatten.getD na 0 = c := ⟨_, rfl⟩
  obtain ⟨kb, hkb'⟩ : ∃ c, L.flatten.getD nb 0 = c := ⟨_, rfl⟩
  rw [hka'] at hka hq
  rw [hkb'] at hkb hq
  clear hfa hfb hfr hkd hfar hka' hkb'
  by_cases c1 : (nb : Int) = (na : Int) - 1
  · by_cases c2 : (x2 : Int) = x1
    · rw [if_pos ⟨c1, by omega⟩] at hq
      (repeat' (first | (simp (maxSteps := 1000000) (disch := first | omega | (simp only [AM.DB, List.length_set, List.length_map]; first | done | omega)) only [AM.RB, Nat.reduceAdd, Nat.reduceMul, Nat.reduceEqDiff, reduceCtorEq, b17_G20, decide_eq_true hf1, AM.wrap_i64, decide_eq_true c1]) | refine AM.drawW_fine hp (by kernel_rfl) (by kernel_rfl) (by kernel_rfl) ?_ | refine AM.opW_tied (by kernel_rfl) ?_ | refine AM.opW_untied (by kernel_rfl) ?_))
      refine refCols_w r G.rows ?_
      (repeat' (first | (simp (maxSteps := 1000000) (disch := first | omega | (simp only [AM.DB, List.length_set, List.length_map]; first | done | omega)) only [AM.RB, Nat.reduceAdd, Nat.reduceMul, Nat.reduceEqDiff, reduceCtorEq, b17_G20, e2, w2]) | refine AM.drawW_fine hp (by kernel_rfl) (by kernel_rfl) (by kernel_rfl) ?_ | refine AM.opW_tied (by kernel_rfl) ?_ | refine AM.opW_untied (by kernel_rfl) ?_))
      refine refCols_w r G.rows ?_
      (repeat' (first | (simp (maxSteps := 1000000) (disch := first | omega | (simp only [AM.DB, List.length_set, List.length_map]; first | done | omega)) only [AM.RB, Nat.reduceAdd, Nat.reduceMul, Nat.reduceEqDiff, reduceCtorEq, b17_G20, e1, w1, decide_eq_true c2]) | refine AM.drawW_fine hp (by kernel_rfl) (by kernel_rfl) (by kernel_rfl) ?_ | refine AM.opW_tied (by kernel_rfl) ?_ | refine AM.opW_untied (by kernel_rfl) ?_))
      obtain ⟨u, hu⟩ : ∃ x, decide ((ka.toNat : Int) = 46) = x := ⟨_, rfl⟩
      obtain ⟨v, hv⟩ : ∃ x, decide ((ka.toNat : Int) = 60) = x := ⟨_, rfl⟩
      obtain ⟨w, hw⟩ : ∃ x, decide ((kb.toNat : Int) = 62) = x := ⟨_, rfl⟩
      have hq' : Q (.bool ((u || v) && !w)) h := by rw [← hu, ← hv, ← hw]; exact hq
      refine refKind_w r G.rows hbd G.all na ?_
      rw [hka]
      cases u
      · cases v
        · (repeat' (first | (simp (maxSteps := 1000000) (disch := first | omega | (simp only [AM.DB, List.length_set, List.length_map]; first | done | omega)) only [AM.RB, Nat.reduceAdd, Nat.reduceMul, Nat.reduceEqDiff, reduceCtorEq, b17_G20, hu, hv]) | refine AM.drawW_fine hp (by kernel_rfl) (by kernel_rfl) (by kernel_rfl) ?_ | refine AM.opW_tied (by kernel_rfl) ?_ | refine AM.opW_untied (by kernel_rfl) ?_))
          exact hq'
        · (repeat' (first | (simp (maxSteps := 1000000) (disch := first | omega | (simp only [AM.DB, List.length_set, List.length_map]; first | done | omega)) only [AM.RB, Nat.reduceAdd, Nat.reduceMul, Nat.reduceEqDiff, reduceCtorEq, b17_G20, hu, hv]) | refine AM.drawW_fine hp (by kernel_rfl) (by kernel_rfl) (by kernel_rfl) ?_ | refine AM.opW_tied (by kernel_rfl) ?_ | refine AM.opW_untied (by kernel_rfl) ?_))
          refine refKind_w r G.rows hbd G.all nb ?_
          rw [hkb]
          (repeat' (first | (simp (maxSteps := 1000000) (disch := first | omega | (simp only [AM.DB, List.length_set, List.length_map]; first | done | omega)) only [AM.RB, Nat.reduceAdd, Nat.reduceMul, Nat.reduceEqDiff, reduceCtorEq, b17_G20, hw]) | refine AM.drawW_fine hp (by kernel_rfl) (by kernel_rfl) (by kernel_rfl) ?_ | refine AM.opW_tied (by kernel_rfl) ?_ | refine AM.opW_untied (by kernel_rfl) ?_))
          exact hq'
      · (repeat' (first | (simp (maxSteps := 1000000) (disch := first | omega | (simp only [AM.DB, List.length_set, List.length_map]; first | done | omega)) only [AM.RB, Nat.reduceAdd, Nat.reduceMul, Nat.reduceEqDiff, reduceCtorEq, b17_G20, hu]) | refine AM.drawW_fine hp (by kernel_rfl) (by kernel_rfl) (by kernel_rfl) ?_ | refine AM.opW_tied (by kernel_rfl) ?_ | refine AM.opW_untied (by kernel_rfl) ?_))
        refine refKind_w r G.rows hbd G.all nb ?_
        rw [hkb]
        (repeat' (first | (simp (maxSteps := 1000000) (disch := first | omega | (simp only [AM.DB, List.length_set, List.length_map]; first | done | omega)) only [AM.RB, Nat.reduceAdd, Nat.reduceMul, Nat.reduceEqDiff, reduceCtorEq, b17_G20, hw]) | refine AM.drawW_fine hp (by kernel_rfl) (by kernel_rfl) (by kernel_rfl) ?_ | refine AM.opW_tied (by kernel_rfl) ?_ | refine AM.opW_untied (by kernel_rfl) ?_))
        exact hq'
    · have cN : ¬ ((nb : Int) = (na : Int) - 1 ∧ x2 = x1) := fun q => c2 (by omega)
      (repeat' (first | (simp (maxSteps := 1000000) (disch := first | omega | (simp only [AM.DB, List.length_set, List.length_map]; first | done | omega)) only [AM.RB, Nat.reduceAdd, Nat.reduceMul, Nat.reduceEqDiff, reduceCtorEq, b17_G20, decide_eq_true hf1, AM.wrap_i64, decide_eq_true c1]) | refine AM.drawW_fine hp (by kernel_rfl) (by kernel_rfl) (by kernel_rfl) ?_ | refine AM.opW_tied (by kernel_rfl) ?_ | refine AM.opW_untied (by kernel_rfl) ?_))
      refine refCols_w r G.rows ?_
      (repeat' (first | (simp (maxSteps := 1000000) (disch := first | omega | (simp only [AM.DB, List.length_set, List.length_map]; first | done | omega)) only [AM.RB, Nat.reduceAdd, Nat.reduceMul, Nat.reduceEqDiff, reduceCtorEq, b17_G20, e2, w2]) | refine AM.drawW_fine hp (by kernel_rfl) (by kernel_rfl) (by kernel_rfl) ?_ | refine AM.opW_tied (by kernel_rfl) ?_ | refine AM.opW_untied (by kernel_rfl) ?_))
      refine refCols_w r G.rows ?_
      (repeat' (first | (simp (maxSteps := 1000000) (disch := first | omega | (simp only [AM.DB, List.length_set, List.length_map]; first | done | omega)) only [AM.RB, Nat.reduceAdd, Nat.reduceMul, Nat.reduceEqDiff, reduceCtorEq, b17_G20, e1, w1, decide_eq_false c2]) | refine AM.drawW_fine hp (by kernel_rfl) (by kernel_rfl) (by kernel_rfl) ?_ | refine AM.opW_tied (by kernel_rfl) ?_ | refine AM.opW_untied (by kernel_rfl) ?_))
      by_cases c3 : (x2 : Int) < x1
      · rw [if_neg (fun q => cN q), if_pos (by omega)] at hq
        (repeat' (first | (simp (maxSteps := 1000000) (disch := first | omega | (simp only [AM.DB, List.length_set, List.length_map]; first | done | omega)) only [AM.RB, Nat.reduceAdd, Nat.reduceMul, Nat.reduceEqDiff, reduceCtorEq, b17_G20, decide_eq_true hf1, AM.wrap_i64]) | refine AM.drawW_fine hp (by kernel_rfl) (by kernel_rfl) (by kernel_rfl) ?_ | refine AM.opW_tied (by kernel_rfl) ?_ | refine AM.opW_untied (by kernel_rfl) ?_))
        refine refCols_w r G.rows ?_
        (repeat' (first | (simp (maxSteps := 1000000) (disch := first | omega | (simp only [AM.DB, List.length_set, List.length_map]; first | done | omega)) only [AM.RB, Nat.reduceAdd, Nat.reduceMul, Nat.reduceEqDiff, reduceCtorEq, b17_G20, e2, w2]) | refine AM.drawW_fine hp (by kernel_rfl) (by kernel_rfl) (by kernel_rfl) ?_ | refine AM.opW_tied (by kernel_rfl) ?_ | refine AM.opW_untied (by kernel_rfl) ?_))
        refine refCols_w r G.rows ?_
        (repeat' (first | (simp (maxSteps := 1000000) (disch := first | omega | (simp only [AM.DB, List.length_set, List.length_map]; first | done | omega)) only [AM.RB, Nat.reduceAdd, Nat.reduceMul, Nat.reduceEqDiff, reduceCtorEq, b17_G20, e1, w1, decide_eq_true c3]) | refine AM.drawW_fine hp (by kernel_rfl) (by kernel_rfl) (by kernel_rfl) ?_ | refine AM.opW_tied (by kernel_rfl) ?_ | refine AM.opW_untied (by kernel_rfl) ?_))
        obtain ⟨u, hu⟩ : ∃ x, decide ((ka.toNat : Int) = 46) = x := ⟨_, rfl⟩
        obtain ⟨v, hv⟩ : ∃ x, decide ((ka.toNat : Int) = 94) = x := ⟨_, rfl⟩
        obtain ⟨w, hw⟩ : ∃ x, decide ((kb.toNat : Int) = 118) = x := ⟨_, rfl⟩
        have hq' : Q (.bool ((u || v) && !w)) h := by rw [← hu, ← hv, ← hw]; exact hq
        refine refKind_w r G.rows hbd G.all na ?_
        rw [hka]
        cases u
        · cases v
          · (repeat' (first | (simp (maxSteps := 1000000) (disch := first | omega | (simp only [AM.DB, List.length_set, List.length_map]; first | done | omega)) only [AM.RB, Nat.reduceAdd, Nat.reduceMul, Nat.reduceEqDiff, reduceCtorEq, b17_G20, hu, hv]) | refine AM.drawW_fine hp (by kernel_rfl) (by kernel_rfl) (by kernel_rfl) ?_ | refine AM.opW_tied (by kernel_rfl) ?_ | refine AM.opW_untied (by kernel_rfl) ?_))
            exact hq'
          · (repeat' (first | (simp (maxSteps := 1000000) (disch := first | omega | (simp only [AM.DB, List.length_set, List.length_map]; first | done | omega)) only [AM.RB, Nat.reduceAdd, Nat.reduceMul, Nat.reduceEqDiff, reduceCtorEq, b17_G20, hu, hv]) | refine AM.drawW_fine hp (by kernel_rfl) (by kernel_rfl) (by kernel_rfl) ?_ | refine AM.opW_tied (by kernel_rfl) ?_ | refine AM.opW_untied (by kernel_rfl) ?_))
            refine refKind_w r G.rows hbd G.all nb ?_
            rw [hkb]
            (repeat' (first | (simp (maxSteps := 1000000) (disch := first | omega | (simp only [AM.DB, List.length_set, List.length_map]; first | done | omega)) only [AM.RB, Nat.reduceAdd, Nat.reduceMul, Nat.reduceEqDiff, reduceCtorEq, b17_G20, hw]) | refine AM.drawW_fine hp (by kernel_rfl) (by kernel_rfl) (by kernel_rfl) ?_ | refine AM.opW_tied (by kernel_rfl) ?_ | refine AM.opW_untied (by kernel_rfl) ?_))
            exact hq'
        · (repeat' (first | (simp (maxSteps := 1000000) (disch := first | omega | (simp only [AM.DB, List.length_set, List.length_map]; first | done | omega)) only [AM.RB, Nat.reduceAdd, Nat.reduceMul, Nat.reduceEqDiff, reduceCtorEq, b17_G20, hu]) | refine AM.drawW_fine hp (by kernel_rfl) (by kernel_rfl) (by kernel_rfl) ?_ | refine AM.opW_tied (by kernel_rfl) ?_ | refine AM.opW_untied (by kernel_rfl) ?_))
          refine refKind_w r G.rows hbd G.all nb ?_
          rw [hkb]
          (repeat' (first | (simp (maxSteps := 1000000) (disch := first | omega | (simp only [AM.DB, List.length_set, List.length_map]; first | done | omega)) only [AM.RB, Nat.reduceAdd, Nat.reduceMul, Nat.reduceEqDiff, reduceCtorEq, b17_G20, hw]) | refine AM.drawW_fine hp (by kernel_rfl) (by kernel_rfl) (by kernel_rfl) ?_ | refine AM.opW_tied (by kernel_rfl) ?_ | refine AM.opW_untied (by kernel_rfl) ?_))
          exact hq'
      · (repeat' (first | (simp (maxSteps := 1000000) (disch := first | omega | (simp only [AM.DB, List.length_set, List.length_map]; first | done | omega)) only [AM.RB, Nat.reduceAdd, Nat.reduceMul, Nat.reduceEqDiff, reduceCtorEq, b17_G20, decide_eq_true hf1, AM.wrap_i64]) | refine AM.drawW_fine hp (by kernel_rfl) (by kernel_rfl) (by kernel_rfl) ?_ | refine AM.opW_tied (by kernel_rfl) ?_ | refine AM.opW_untied (by kernel_rfl) ?_))
        refine refCols_w r G.rows ?_
        (repeat' (first | (simp (maxSteps := 1000000) (disch := first | omega | (simp only [AM.DB, List.length_set, List.length_map]; first | done | omega)) only [AM.RB, Nat.reduceAdd, Nat.reduceMul, Nat.reduceEqDiff, reduceCtorEq, b17_G20, e2, w2]) | refine AM.drawW_fine hp (by kernel_rfl) (by kernel_rfl) (by kernel_rfl) ?_ | refine AM.opW_tied (by kernel_rfl) ?_ | refine AM.opW_untied (by kernel_rfl) ?_))
        refine refCols_w r G.rows ?_
        (repeat' (first | (simp (maxSteps := 1000000) (disch := first | omega | (simp only [AM.DB, List.length_set, List.length_map]; first | done | omega)) only [AM.RB, Nat.reduceAdd, Nat.reduceMul, Nat.reduceEqDiff, reduceCtorEq, b17_G20, e1, w1, decide_eq_false c3]) | refine AM.drawW_fine hp (by kernel_rfl) (by kernel_rfl) (by kernel_rfl) ?_ | refine AM.opW_tied (by kernel_rfl) ?_ | refine AM.opW_untied (by kernel_rfl) ?_))
        refine refCols_w r G.rows ?_
        (repeat' (first | (simp (maxSteps := 1000000) (disch := first | omega | (simp only [AM.DB, List.length_set, List.length_map]; first | done | omega)) only [AM.RB, Nat.reduceAdd, Nat.reduceMul, Nat.reduceEqDiff, reduceCtorEq, b17_G20, e2, w2]) | refine AM.drawW_fine hp (by kernel_rfl) (by kernel_rfl) (by kernel_rfl) ?_ | refine AM.opW_tied (by kernel_rfl) ?_ | refine AM.opW_untied (by kernel_rfl) ?_))
        refine refCols_w r G.rows ?_
        by_cases c4 : (x1 : Int) < x2
        · rw [if_neg (fun q => cN q), if_neg (by omega), if_pos (by omega)] at hq
          (repeat' (first | (simp (maxSteps := 1000000) (disch := first | omega | (simp only [AM.DB, List.length_set, List.length_map]; first | done | omega)) only [AM.RB, Nat.reduceAdd, Nat.reduceMul, Nat.reduceEqDiff, reduceCtorEq, b17_G20, e1, w1, decide_eq_true c4]) | refine AM.drawW_fine hp (by kernel_rfl) (by kernel_rfl) (by kernel_rfl) ?_ | refine AM.opW_tied (by kernel_rfl) ?_ | refine AM.opW_untied (by kernel_rfl) ?_))
          obtain ⟨u, hu⟩ : ∃ x, decide ((ka.toNat : Int) = 46) = x := ⟨_, rfl⟩
          obtain ⟨v, hv⟩ : ∃ x, decide ((ka.toNat : Int) = 118) = x := ⟨_, rfl⟩
          obtain ⟨w, hw⟩ : ∃ x, decide ((kb.toNat : Int) = 94) = x := ⟨_, rfl⟩
          have hq' : Q (.bool ((u || v) && !w)) h := by rw [← hu, ← hv, ← hw]; exact hq
          refine refKind_w r G.rows hbd G.all na ?_
          rw [hka]
          cases u
          · cases v
            · (repeat' (first | (simp (maxSteps := 1000000) (disch := first | omega | (simp only [AM.DB, List.length_set, List.length_map]; first | done | omega)) only [AM.RB, Nat.reduceAdd, Nat.reduceMul, Nat.reduceEqDiff, reduceCtorEq, b17_G20, hu, hv]) | refine AM.drawW_fine hp (by kernel_rfl) (by kernel_rfl) (by kernel_rfl) ?_ | refine AM.opW_tied (by kernel_rfl) ?_ | refine AM.opW_untied (by kernel_rfl) ?_))
              exact hq'
            · (repeat' (first | (simp (maxSteps := 1000000) (disch := first | omega | (simp only [AM.DB, List.length_set, List.length_map]; first | done | omega)) only [AM.RB, Nat.reduceAdd, Nat.reduceMul, Nat.reduceEqDiff, reduceCtorEq, b17_G20, hu, hv]) | refine AM.drawW_fine hp (by kernel_rfl) (by kernel_rfl) (by kernel_rfl) ?_ | refine AM.opW_tied (by kernel_rfl) ?_ | refine AM.opW_untied (by kernel_rfl) ?_))
              refine refKind_w r G.rows hbd G.all nb ?_
              rw [hkb]
              (repeat' (first | (simp (maxSteps := 1000000) (disch := first | omega | (simp only [AM.DB, List.length_set, List.length_map]; first | done | omega)) only [AM.RB, Nat.reduceAdd, Nat.reduceMul, Nat.reduceEqDiff, reduceCtorEq, b17_G20, hw]) | refine AM.drawW_fine hp (by kernel_rfl) (by kernel_rfl) (by kernel_rfl) ?_ | refine AM.opW_tied (by kernel_rfl) ?_ | refine AM.opW_untied (by kernel_rfl) ?_))
              exact hq'
          · (repeat' (first | (simp (maxSteps := 1000000) (disch := first | omega | (simp only [AM.DB, List.length_set, List.length_map]; first | done | omega)) only [AM.RB, Nat.reduceAdd, Nat.reduceMul, Nat.reduceEqDiff, reduceCtorEq, b17_G20, hu]) | refine AM.drawW_fine hp (by kernel_rfl) (by kernel_rfl) (by kernel_rfl) ?_ | refine AM.opW_tied (by kernel_rfl) ?_ | refine AM.opW_untied (by kernel_rfl) ?_))
            refine refKind_w r G.rows hbd G.all nb ?_
            rw [hkb]
            (repeat' (first | (simp (maxSteps := 1000000) (disch := first | omega | (simp only [AM.DB, List.length_set, List.length_map]; first | done | omega)) only [AM.RB, Nat.reduceAdd, Nat.reduceMul, Nat.reduceEqDiff, reduceCtorEq, b17_G20, hw]) | refine AM.drawW_fine hp (by kernel_rfl) (by kernel_rfl) (by kernel_rfl) ?_ | refine AM.opW_tied (by kernel_rfl) ?_ | refine AM.opW_untied (by kernel_rfl) ?_))
            exact hq'
        · rw [if_neg (fun q => cN q), if_neg (by omega), if_neg (by omega)] at hq
          (repeat' (first | (simp (maxSteps := 1000000) (disch := first | omega | (simp only [AM.DB, List.length_set, List.length_map]; first | done | omega)) only [AM.RB, Nat.reduceAdd, Nat.reduceMul, Nat.reduceEqDiff, reduceCtorEq, b17_G20, e1, w1, decide_eq_false c4]) | refine AM.drawW_fine hp (by kernel_rfl) (by kernel_rfl) (by kernel_rfl) ?_ | refine AM.opW_tied (by kernel_rfl) ?_ | refine AM.opW_untied (by kernel_rfl) ?_))
          obtain ⟨u, hu⟩ : ∃ x, decide ((ka.toNat : Int) = 46) = x := ⟨_, rfl⟩
          obtain ⟨v, hv⟩ : ∃ x, decide ((ka.toNat : Int) = 62) = x := ⟨_, rfl⟩
          obtain ⟨w, hw⟩ : ∃ x, decide ((kb.toNat : Int) = 60) = x := ⟨_, rfl⟩
          have hq' : Q (.bool ((u || v) && !w)) h := by rw [← hu, ← hv, ← hw]; exact hq
          refine refKind_w r G.rows hbd G.all na ?_
          rw [hka]
          cases u
          · cases v
            · (repeat' (first | (simp (maxSteps := 1000000) (disch := first | omega | (simp only [AM.DB, List.length_set, List.length_map]; first | done | omega)) only [AM.RB, Nat.reduceAdd, Nat.reduceMul, Nat.reduceEqDiff, reduceCtorEq, b17_G20, hu, hv]) | refine AM.drawW_fine hp (by kernel_rfl) (by kernel_rfl) (by kernel_rfl) ?_ | refine AM.opW_tied (by kernel_rfl) ?_ | refine AM.opW_untied (by kernel_rfl) ?_))
              exact hq'
            · (repeat' (first | (simp (maxSteps := 1000000) (disch := first | omega | (simp only [AM.DB, List.length_set, List.length_map]; first | done | omega)) only [AM.RB, Nat.reduceAdd, Nat.reduceMul, Nat.reduceEqDiff, reduceCtorEq, b17_G20, hu, hv]) | refine AM.drawW_fine hp (by kernel_rfl) (by kernel_rfl) (by kernel_rfl) ?_ | refine AM.opW_tied (by kernel_rfl) ?_ | refine AM.opW_untied (by kernel_rfl) ?_))
              refine refKind_w r G.rows hbd G.all nb ?_
              rw [hkb]
              (repeat' (first | (simp (maxSteps := 1000000) (disch := first | omega | (simp only [AM.DB, List.length_set, List.length_map]; first | done | omega)) only [AM.RB, Nat.reduceAdd, Nat.reduceMul, Nat.reduceEqDiff, reduceCtorEq, b17_G20, hw]) | refine AM.drawW_fine hp (by kernel_rfl) (by kernel_rfl) (by kernel_rfl) ?_ | refine AM.opW_tied (by kernel_rfl) ?_ | refine AM.opW_untied (by kernel_rfl) ?_))
              exact hq'
          · (repeat' (first | (simp (maxSteps := 1000000) (disch := first | omega | (simp only [AM.DB, List.length_set, List.length_map]; first | done | omega)) only [AM.RB, Nat.reduceAdd, Nat.reduceMul, Nat.reduceEqDiff, reduceCtorEq, b17_G20, hu]) | refine AM.drawW_fine hp (by kernel_rfl) (by kernel_rfl) (by kernel_rfl) ?_ | refine AM.opW_tied (by kernel_rfl) ?_ | refine AM.opW_untied (by kernel_rfl) ?_))
            refine refKind_w r G.rows hbd G.all nb ?_
            rw [hkb]
            (repeat' (first | (simp (maxSteps := 1000000) (disch := first | omega | (simp only [AM.DB, List.length_set, List.length_map]; first | done | omega)) only [AM.RB, Nat.reduceAdd, Nat.reduceMul, Nat.reduceEqDiff, reduceCtorEq, b17_G20, hw]) | refine AM.drawW_fine hp (by kernel_rfl) (by kernel_rfl) (by kernel_rfl) ?_ | refine AM.opW_tied (by kernel_rfl) ?_ | refine AM.opW_untied (by kernel_rfl) ?_))
            exact hq'
  · have cN : ¬ ((nb : Int) = (na : Int) - 1 ∧ x2 = x1) := fun q => c1 q.1
    (repeat' (first | (simp (maxSteps := 1000000) (disch := first | omega | (simp only [AM.DB, List.length_set, List.length_map]; first | done | omega)) only [AM.RB, Nat.reduceAdd, Nat.reduceMul, Nat.reduceEqDiff, reduceCtorEq, b17_G20, decide_eq_true hf1, AM.wrap_i64, decide_eq_false c1]) | refine AM.drawW_fine hp (by kernel_rfl) (by kernel_rfl) (by kernel_rfl) ?_ | refine AM.opW_tied (by kernel_rfl) ?_ | refine AM.opW_untied (by kernel_rfl) ?_))
    by_cases c3 : (x2 : Int) < x1
    · rw [if_neg (fun q => cN q), if_pos (by omega)] at hq
      (repeat' (first | (simp (maxSteps := 1000000) (disch := first | omega | (simp only [AM.DB, List.length_set, List.length_map]; first | done | omega)) only [AM.RB, Nat.reduceAdd, Nat.reduceMul, Nat.reduceEqDiff, reduceCtorEq, b17_G20, decide_eq_true hf1, AM.wrap_i64]) | refine AM.drawW_fine hp (by kernel_rfl) (by kernel_rfl) (by kernel_rfl) ?_ | refine AM.opW_tied (by kernel_rfl) ?_ | refine AM.opW_untied (by kernel_rfl) ?_))
      refine refCols_w r G.rows ?_
      (repeat' (first | (simp (maxSteps := 1000000) (disch := first | omega | (simp only [AM.DB, List.length_set, List.length_map]; first | done | omega)) only [AM.RB, Nat.reduceAdd, Nat.reduceMul, Nat.reduceEqDiff, reduceCtorEq, b17_G20, e2, w2]) | refine AM.drawW_fine hp (by kernel_rfl) (by kernel_rfl) (by kernel_rfl) ?_ | refine AM.opW_tied (by kernel_rfl) ?_ | refine AM.opW_untied (by kernel_rfl) ?_))
      refine refCols_w r G.rows ?_
      (repeat' (first | (simp (maxSteps := 1000000) (disch := first | omega | (simp only [AM.DB, List.length_set, List.length_map]; first | done | omega)) only [AM.RB, Nat.reduceAdd, Nat.reduceMul, Nat.reduceEqDiff, reduceCtorEq, b17_G20, e1, w1, decide_eq_true c3]) | refine AM.drawW_fine hp (by kernel_rfl) (by kernel_rfl) (by kernel_rfl) ?_ | refine AM.opW_tied (by kernel_rfl) ?_ | refine AM.opW_untied (by kernel_rfl) ?_))
      obtain ⟨u, hu⟩ : ∃ x, decide ((ka.toNat : Int) = 46) = x := ⟨_, rfl⟩
      obtain ⟨v, hv⟩ : ∃ x, decide ((ka.toNat : Int) = 94) = x := ⟨_, rfl⟩
      obtain ⟨w, hw⟩ : ∃ x, decide ((kb.toNat : Int) = 118) = x := ⟨_, rfl⟩
      have hq' : Q (.bool ((u || v) && !w)) h := by rw [← hu, ← hv, ← hw]; exact hq
      refine refKind_w r G.rows hbd G.all na ?_
      rw [hka]
      cases u
      · cases v
        · (repeat' (first | (simp (maxSteps := 1000000) (disch := first | omega | (simp only [AM.DB, List.length_set, List.length_map]; first | done | omega)) only [AM.RB, Nat.reduceAdd, Nat.reduceMul, Nat.reduceEqDiff, reduceCtorEq, b17_G20, hu, hv]) | refine AM.drawW_fine hp (by kernel_rfl) (by kernel_rfl) (by kernel_rfl) ?_ | refine AM.opW_tied (by kernel_rfl) ?_ | refine AM.opW_untied (by kernel_rfl) ?_))
          exact hq'
        · (repeat' (first | (simp (maxSteps := 1000000) (disch := first | omega | (simp only [AM.DB, List.length_set, List.length_map]; first | done | omega)) only [AM.RB, Nat.reduceAdd, Nat.reduceMul, Nat.reduceEqDiff, reduceCtorEq, b17_G20, hu, hv]) | refine AM.drawW_fine hp (by kernel_rfl) (by kernel_rfl) (by kernel_rfl) ?_ | refine AM.opW_tied (by kernel_rfl) ?_ | refine AM.opW_untied (by kernel_rfl) ?_))
          refine refKind_w r G.rows hbd G.all nb ?_
          rw [hkb]
          (repeat' (first | (simp (maxSteps := 1000000) (disch := first | omega | (simp only [AM.DB, List.length_set, List.length_map]; first | done | omega)) only [AM.RB, Nat.reduceAdd, Nat.reduceMul, Nat.reduceEqDiff, reduceCtorEq, b17_G20, hw]) | refine AM.drawW_fine hp (by kernel_rfl) (by kernel_rfl) (by kernel_rfl) ?_ | refine AM.opW_tied (by kernel_rfl) ?_ | refine AM.opW_untied (by kernel_rfl) ?_))
          exact hq'
      · (repeat' (first | (simp (maxSteps := 1000000) (disch := first | omega | (simp only [AM.DB, List.length_set, List.length_map]; first | done | omega)) only [AM.RB, Nat.reduceAdd, Nat.reduceMul, Nat.reduceEqDiff, reduceCtorEq, b17_G20, hu]) | refine AM.drawW_fine hp (by kernel_rfl) (by kernel_rfl) (by kernel_rfl) ?_ | refine AM.opW_tied (by kernel_rfl) ?_ | refine AM.opW_untied (by kernel_rfl) ?_))
        refine refKind_w r G.rows hbd G.all nb ?_
        rw [hkb]
        (repeat' (first | (simp (maxSteps := 1000000) (disch := first | omega | (simp only [AM.DB, List.length_set, List.length_map]; first | done | omega)) only [AM.RB, Nat.reduceAdd, Nat.reduceMul, Nat.reduceEqDiff, reduceCtorEq, b17_G20, hw]) | refine AM.drawW_fine hp (by kernel_rfl) (by kernel_rfl) (by kernel_rfl) ?_ | refine AM.opW_tied (by kernel_rfl) ?_ | refine AM.opW_untied (by kernel_rfl) ?_))
        exact hq'
    · (repeat' (first | (simp (maxSteps := 1000000) (disch := first | omega | (simp only [AM.DB, List.length_set, List.length_map]; first | done | omega)) only [AM.RB, Nat.reduceAdd, Nat.reduceMul, Nat.reduceEqDiff, reduceCtorEq, b17_G20, decide_eq_true hf1, AM.wrap_i64]) | refine AM.drawW_fine hp (by kernel_rfl) (by kernel_rfl) (by kernel_rfl) ?_ | refine AM.opW_tied (by kernel_rfl) ?_ | refine AM.opW_untied (by kernel_rfl) ?_))
      refine refCols_w r G.rows ?_
      (repeat' (first | (simp (maxSteps := 1000000) (disch := first | omega | (simp only [AM.DB, List.length_set, List.length_map]; first | done | omega)) only [AM.RB, Nat.reduceAdd, Nat.reduceMul, Nat.reduceEqDiff, reduceCtorEq, b17_G20, e2, w2]) | refine AM.drawW_fine hp (by kernel_rfl) (by kernel_rfl) (by kernel_rfl) ?_ | refine AM.opW_tied (by kernel_rfl) ?_ | refine AM.opW_untied (by kernel_rfl) ?_))
      refine refCols_w r G.rows ?_
      (repeat' (first | (simp (maxSteps := 1000000) (disch := first | omega | (simp only [AM.DB, List.length_set, List.length_map]; first | done | omega)) only [AM.RB, Nat.reduceAdd, Nat.reduceMul, Nat.reduceEqDiff, reduceCtorEq, b17_G20, e1, w1, decide_eq_false c3]) | refine AM.drawW_fine hp (by kernel_rfl) (by kernel_rfl) (by kernel_rfl) ?_ | refine AM.opW_tied (by kernel_rfl) ?_ | refine AM.opW_untied (by kernel_rfl) ?_))
      refine refCols_w r G.rows ?_
      (repeat' (first | (simp (maxSteps := 1000000) (disch := first | omega | (simp only [AM.DB, List.length_set, List.length_map]; first | done | omega)) only [AM.RB, Nat.reduceAdd, Nat.reduceMul, Nat.reduceEqDiff, reduceCtorEq, b17_G20, e2, w2]) | refine AM.drawW_fine hp (by kernel_rfl) (by kernel_rfl) (by kernel_rfl) ?_ | refine AM.opW_tied (by kernel_rfl) ?_ | refine AM.opW_untied (by kernel_rfl) ?_))
      refine refCols_w r G.rows ?_
      by_cases c4 : (x1 : Int) < x2
      · rw [if_neg (fun q => cN q), if_neg (by omega), if_pos (by omega)] at hq
        (repeat' (first | (simp (maxSteps := 1000000) (disch := first | omega | (simp only [AM.DB, List.length_set, List.length_map]; first | done | omega)) only [AM.RB, Nat.reduceAdd, Nat.reduceMul, Nat.reduceEqDiff, reduceCtorEq, b17_G20, e1, w1, decide_eq_true c4]) | refine AM.drawW_fine hp (by kernel_rfl) (by kernel_rfl) (by kernel_rfl) ?_ | refine AM.opW_tied (by kernel_rfl) ?_ | refine AM.opW_untied (by kernel_rfl) ?_))
        obtain ⟨u, hu⟩ : ∃ x, decide ((ka.toNat : Int) = 46) = x := ⟨_, rfl⟩
        obtain ⟨v, hv⟩ : ∃ x, decide ((ka.toNat : Int) = 118) = x := ⟨_, rfl⟩
        obtain ⟨w, hw⟩ : ∃ x, decide ((kb.toNat : Int) = 94) = x := ⟨_, rfl⟩
        have hq' : Q (.bool ((u || v) && !w)) h := by rw [← hu, ← hv, ← hw]; exact hq
        refine refKind_w r G.rows hbd G.all na ?_
        rw [hka]
        cases u
        · cases v
          · (repeat' (first | (simp (maxSteps := 1000000) (disch := first | omega | (simp only [AM.DB, List.length_set, List.length_map]; first | done | omega)) only [AM.RB, Nat.reduceAdd, Nat.reduceMul, Nat.reduceEqDiff, reduceCtorEq, b17_G20, hu, hv]) | refine AM.drawW_fine hp (by kernel_rfl) (by kernel_rfl) (by kernel_rfl) ?_ | refine AM.opW_tied (by kernel_rfl) ?_ | refine AM.opW_untied (by kernel_rfl) ?_))
            exact hq'
          · (repeat' (first | (simp (maxSteps := 1000000) (disch := first | omega | (simp only [AM.DB, List.length_set, List.length_map]; first | done | omega)) only [AM.RB, Nat.reduceAdd, Nat.reduceMul, Nat.reduceEqDiff, reduceCtorEq, b17_G20, hu, hv]) | refine AM.drawW_fine hp (by kernel_rfl) (by kernel_rfl) (by kernel_rfl) ?_ | refine AM.opW_tied (by kernel_rfl) ?_ | refine AM.opW_untied (by kernel_rfl) ?_))
            refine refKind_w r G.rows hbd G.all nb ?_
            rw [hkb]
            (repeat' (first | (simp (maxSteps := 1000000) (disch := first | omega | (simp only [AM.DB, List.length_set, List.length_map]; first | done | omega)) only [AM.RB, Nat.reduceAdd, Nat.reduceMul, Nat.reduceEqDiff, reduceCtorEq, b17_G20, hw]) | refine AM.drawW_fine hp (by kernel_rfl) (by kernel_rfl) (by kernel_rfl) ?_ | refine AM.opW_tied (by kernel_rfl) ?_ | refine AM.opW_untied (by kernel_rfl) ?_))
            exact hq'
        · (repeat' (first | (simp (maxSteps := 1000000) (disch := first | omega | (simp only [AM.DB, List.length_set, List.length_map]; first | done | omega)) only [AM.RB, Nat.reduceAdd, Nat.reduceMul, Nat.reduceEqDiff, reduceCtorEq, b17_G20, hu]) | refine AM.drawW_fine hp (by kernel_rfl) (by kernel_rfl) (by kernel_rfl) ?_ | refine AM.opW_tied (by kernel_rfl) ?_ | refine AM.opW_untied (by kernel_rfl) ?_))
          refine refKind_w r G.rows hbd G.all nb ?_
          rw [hkb]
          (repeat' (first | (simp (maxSteps := 1000000) (disch := first | omega | (simp only [AM.DB, List.length_set, List.length_map]; first | done | omega)) only [AM.RB, Nat.reduceAdd, Nat.reduceMul, Nat.reduceEqDiff, reduceCtorEq, b17_G20, hw]) | refine AM.drawW_fine hp (by kernel_rfl) (by kernel_rfl) (by kernel_rfl) ?_ | refine AM.opW_tied (by kernel_rfl) ?_ | refine AM.opW_untied (by kernel_rfl) ?_))
          exact hq'
      · rw [if_neg (fun q => cN q), if_neg (by omega), if_neg (by omega)] at hq
        (repeat' (first | (simp (maxSteps := 1000000) (disch := first | omega | (simp only [AM.DB, List.length_set, List.length_map]; first | done | omega)) only [AM.RB, Nat.reduceAdd, Nat.reduceMul, Nat.reduceEqDiff, reduceCtorEq, b17_G20, e1, w1, decide_eq_false c4]) | refine AM.drawW_fine hp (by kernel_rfl) (by kernel_rfl) (by kernel_rfl) ?_ | refine AM.opW_tied (by kernel_rfl) ?_ | refine AM.opW_untied (by kernel_rfl) ?_))
        obtain ⟨u, hu⟩ : ∃ x, decide ((ka.toNat : Int) = 46) = x := ⟨_, rfl⟩
        obtain ⟨v, hv⟩ : ∃ x, decide ((ka.toNat : Int) = 62) = x := ⟨_, rfl⟩
        obtain ⟨w, hw⟩ : ∃ x, decide ((kb.toNat : Int) = 60) = x := ⟨_, rfl⟩
        have hq' : Q (.bool ((u || v) && !w)) h := by rw [← hu, ← hv, ← hw]; exact hq
        refine refKind_w r G.rows hbd G.all na ?_
        rw [hka]
        cases u
        · cases v
          · (repeat' (first | (simp (maxSteps := 1000000) (disch := first | omega | (simp only [AM.DB, List.length_set, List.length_map]; first | done | omega)) only [AM.RB, Nat.reduceAdd, Nat.reduceMul, Nat.reduceEqDiff, reduceCtorEq, b17_G20, hu, hv]) | refine AM.drawW_fine hp (by kernel_rfl) (by kernel_rfl) (by kernel_rfl) ?_ | refine AM.opW_tied (by kernel_rfl) ?_ | refine AM.opW_untied (by kernel_rfl) ?_))
            exact hq'
          · (repeat' (first | (simp (maxSteps := 1000000) (disch := first | omega | (simp only [AM.DB, List.length_set, List.length_map]; first | done | omega)) only [AM.RB, Nat.reduceAdd, Nat.reduceMul, Nat.reduceEqDiff, reduceCtorEq, b17_G20, hu, hv]) | refine AM.drawW_fine hp (by kernel_rfl) (by kernel_rfl) (by kernel_rfl) ?_ | refine AM.opW_tied (by kernel_rfl) ?_ | refine AM.opW_untied (by kernel_rfl) ?_))
            refine refKind_w r G.rows hbd G.all nb ?_
            rw [hkb]
            (repeat' (first | (simp (maxSteps := 1000000) (disch := first | omega | (simp only [AM.DB, List.length_set, List.length_map]; first | done | omega)) only [AM.RB, Nat.reduceAdd, Nat.reduceMul, Nat.reduceEqDiff, reduceCtorEq, b17_G20, hw]) | refine AM.drawW_fine hp (by kernel_rfl) (by kernel_rfl) (by kernel_rfl) ?_ | refine AM.opW_tied (by kernel_rfl) ?_ | refine AM.opW_untied (by kernel_rfl) ?_))
            exact hq'
        · (repeat' (first | (simp (maxSteps := 1000000) (disch := first | omega | (simp only [AM.DB, List.length_set, List.length_map]; first | done | omega)) only [AM.RB, Nat.reduceAdd, Nat.reduceMul, Nat.reduceEqDiff, reduceCtorEq, b17_G20, hu]) | refine AM.drawW_fine hp (by kernel_rfl) (by kernel_rfl) (by kernel_rfl) ?_ | refine AM.opW_tied (by kernel_rfl) ?_ | refine AM.opW_untied (by kernel_rfl) ?_))
          refine refKind_w r G.rows hbd G.all nb ?_
          rw [hkb]
          (repeat' (first | (simp (maxSteps := 1000000) (disch := first | omega | (simp only [AM.DB, List.length_set, List.length_map]; first | done | omega)) only [AM.RB, Nat.reduceAdd, Nat.reduceMul, Nat.reduceEqDiff, reduceCtorEq, b17_G20, hw]) | refine AM.drawW_fine hp (by kernel_rfl) (by kernel_rfl) (by kernel_rfl) ?_ | refine AM.opW_tied (by kernel_rfl) ?_ | refine AM.opW_untied (by kernel_rfl) ?_))
          exact hq'

/-! ### Lists of the document's -/
def nxt (L : List (List UInt8)) (a : Int) (n : Nat) : List Int := ((List.range n).filter fun (b : Nat) => edgeL L a b).map fun (b : Nat) => (b : Int)
theorem nxt_succ (L : List (List UInt8)) (a : Int) (n : Nat) : nxt L a (n + 1) = nxt L a n ++ if edgeL L a n = true then [(n : Int)] else [] := by
  unfold nxt
  rw [List.range_succ, List.filter_append, List.map_append, List.filter_cons]
  congr 1
  split <;> simp
theorem nxt_len (L : List (List UInt8)) (a : Int) (n : Nat) : (nxt L a n).length ≤ n := by
  unfold nxt; rw [List.length_map]; exact Nat.le_trans (List.length_filter_le _ _) (by simp)
theorem nxt_eq {L : List (List UInt8)} (f : Fit L) (a : Int) : nxt L a L.flatten.length = nextL L a := by
  rw [nextL_eq f]
  unfold nxt
  split
  · rename_i h
    congr 1
    apply List.filter_congr
    intro b hb
    have := List.mem_range.1 hb
    unfold edgeL
    rw [decide_eq_true ⟨h, by omega, by omega⟩, Bool.true_and, Int.toNat_natCast]
  · rename_i h
    rw [List.map_eq_nil_iff, List.filter_eq_nil_iff]
    intro b _
    unfold edgeL
    rw [decide_eq_false (fun q => h q.1)]; simp
theorem edge_mem {L : List (List UInt8)} (f : Fit L) (a b : Int) : decide (b ∈ nextL L a) = edgeL L a b := by
  rw [← nxt_eq f]
  unfold nxt
  cases he : edgeL L a b with
  | true =>
    have h := he
    unfold edgeL at h
    rw [Bool.and_eq_true, decide_eq_true_eq] at h
    obtain ⟨⟨_, h1, h2⟩, _⟩ := h
    obtain ⟨n, rfl⟩ := Int.eq_ofNat_of_zero_le h1
    exact decide_eq_true (List.mem_map.2 ⟨n, List.mem_filter.2 ⟨List.mem_range.2 (by omega), he⟩, rfl⟩)
  | false =>
    refine decide_eq_false fun q => ?_
    obtain ⟨n, hn, rfl⟩ := List.mem_map.1 q
    rw [(List.mem_filter.1 hn).2] at he; cases he

theorem refNext_w {h : AHeap} {p : Nat} {lv : Value} {L : List (List UInt8)} {l : List UInt8} (r : Rp h p lv L) (G : Good l L) (hl : h.low ≤ h.next) (a : Int) {Q : VQ}
    (hq : ∀ v h', Ow h' 3 1 v (nextL L a).length ((nextL L a).map (.int .i64)) → Fr none' h h' → (∀ id, idOf v id → h.next ≤ id) → Q v h') : W 63 [pv p, .int .i64 a] h Q := by
  have hK := G.fit.k1024
  have hbd : L.length ≤ 4000000 ∧ (L.getD 0 []).length ≤ 4000000 := by have := G.r32; have := G.c32; omega
  have glen := G.len
  refine AM.enter hp (fn := Tryd.f63) (rs := [.tmp 4]) (nt := 22) (by kernel_rfl) Tryd.func63 rfl rfl rfl (by kernel_rfl) ?_
  (first | (simp (maxSteps := 1000000) (disch := first | omega | (simp only [AM.DB, List.length_set, List.length_map]; first | done | omega)) only [AM.RB, Nat.reduceAdd, Nat.reduceMul, Nat.reduceEqDiff, reduceCtorEq, b63_G20]) | skip)
  refine AM.loop_w hp 22 (fun q : Nat × Value => [(0, pv p), (1, .int .i64 a), (5, q.2), (6, .int .i64 q.1)])
    (fun q h' => q.1 ≤ L.flatten.length ∧ Fr none' h h' ∧ Ow h' 3 1 q.2 (nxt L a q.1).length ((nxt L a q.1).map (.int .i64)) ∧ ∀ id, idOf q.2 id → h.next ≤ id) (fun q => L.flatten.length - q.1) (by kernel_rfl) (0, .slice none 0 0) ?_ ?_ ?_
  · simp (maxSteps := 1000000) (disch := first | omega | (simp only [AM.DB, List.length_set, List.length_map]; first | done | omega)) only [AM.RB, Nat.reduceAdd, Nat.reduceMul, Nat.reduceEqDiff, reduceCtorEq, b63_G20]
  · exact ⟨Nat.zero_le _, Fr.refl _ _, Ow.nil _ _ _, fun _ q => q.elim⟩
  rintro ⟨n, s⟩ h1 ρ ⟨hn, fr, ho, hid⟩
  simp only at hn ho hid ⊢
  have r1 := r.fr0 fr
  have hl1 := hl.fr0 fr
  have nx1 := fr.next
  have hal := nxt_len L a n
  obtain ⟨sa, sc, rfl⟩ := ho.form
  (first | (simp (maxSteps := 1000000) (disch := first | omega | (simp only [AM.DB, List.length_set, List.length_map]; first | done | omega)) only [AM.RB, Nat.reduceAdd, Nat.reduceMul, Nat.reduceEqDiff, reduceCtorEq, b63_G20]) | skip)
  refine refCells_w r1 G.rows hbd ?_
  (first | (simp (maxSteps := 1000000) (disch := first | omega | (simp only [AM.DB, List.length_set, List.length_map]; first | done | omega)) only [AM.RB, Nat.reduceAdd, Nat.reduceMul, Nat.reduceEqDiff, reduceCtorEq, b63_G20]) | skip)
  refine AM.condV_split (fun hlt => ?_) (fun hlt => ?_)
  · (first | (simp (maxSteps := 1000000) (disch := first | omega | (simp only [AM.DB, List.length_set, List.length_map]; first | done | omega)) only [AM.RB, Nat.reduceAdd, Nat.reduceMul, Nat.reduceEqDiff, reduceCtorEq, b63_G20]) | skip)
    refine refEdge_w r1 G a n ?_
    have hs := nxt_succ L a n
    cases he : edgeL L a n
    · rw [he, if_neg (by simp), List.append_nil] at hs
      (first | (simp (maxSteps := 1000000) (disch := first | omega | (simp only [AM.DB, List.length_set, List.length_map]; first | done | omega)) only [AM.RB, Nat.reduceAdd, Nat.reduceMul, Nat.reduceEqDiff, reduceCtorEq, b63_G20, AM.wrap_i64]) | skip)
      exact ⟨(n + 1, .slice sa (nxt L a n).length sc), by simp only; omega, ⟨rfl, congrArg _ (by simp only; omega)⟩, by simp only; omega, fr, by simp only; rw [hs]; exact ho, hid⟩
    · rw [he, if_pos rfl] at hs
      (first | (simp (maxSteps := 1000000) (disch := first | omega | (simp only [AM.DB, List.length_set, List.length_map]; first | done | omega)) only [AM.RB, Nat.reduceAdd, Nat.reduceMul, Nat.reduceEqDiff, reduceCtorEq, b63_G20, AM.wrap_i64]) | skip)
      generalize hE_ : AHeap.alloc h1 _ = h2; obtain ⟨g2, fr2, n2, l2⟩ := AM.new_get hE_; clear hE_
      refine AM.appends_w ap_22 ap_22 (ho.fr0 fr2) (AM.Rd.whole (n := 1) (c := [.int .i64 n]) g2 rfl) rfl (by omega) (AM.fits (by omega) (by omega)) (AM.fits' (by omega)) fun v3 h3 o3 fr3 hid3 => ?_
      obtain ⟨va, vc, rfl⟩ := o3.form
      (first | (simp (maxSteps := 1000000) (disch := first | omega | (simp only [AM.DB, List.length_set, List.length_map]; first | done | omega)) only [AM.RB, Nat.reduceAdd, Nat.reduceMul, Nat.reduceEqDiff, reduceCtorEq, b63_G20, AM.wrap_i64]) | skip)
      refine ⟨(n + 1, _), by simp only; omega, ⟨rfl, congrArg _ (by simp only; omega)⟩, by simp only; omega, (fr.trans fr2).fresh fr3 hid, ?_, fun id q => ?_⟩
      · simp only; rw [hs, List.length_append, List.map_append]; exact o3
      · rcases hid3 id q with q | q
        · exact hid id q
        · omega
  · have e : n = L.flatten.length := by omega
    subst e
    rw [nxt_eq G.fit] at ho
    (first | (simp (maxSteps := 1000000) (disch := first | omega | (simp only [AM.DB, List.length_set, List.length_map]; first | done | omega)) only [AM.RB, Nat.reduceAdd, Nat.reduceMul, Nat.reduceEqDiff, reduceCtorEq, b63_G20]) | skip)
    rw [nxt_eq G.fit]
    exact hq _ _ ho fr (by rw [nxt_eq G.fit] at hid; exact hid)
end Go.Proofs.YtgdcbjpookldoaaDoor

namespace Go.Proofs.YtgdcbjpookldoaaDoor
open Go.AM

theorem Mt.start {h : AHeap} {p : Nat} {kv : Value} {L : List (List UInt8)} (m : Mp h p kv L.length (L.getD 0 []).length L.flatten tl0) : Mt h p L (fun id => id = p ∨ idOf kv id) :=
  ⟨kv, fun id q => .inr q, .inl rfl, fun id q => q.elim (fun e => by rw [e]; exact AM.get_some_lt m.1) (fun q => m.2.1.lt q), .inl m⟩
theorem nextL_len {L : List (List UInt8)} (f : Fit L) (i : Int) : (nextL L i).length ≤ 1024 := by rw [← nxt_eq f]; exact Nat.le_trans (nxt_len _ _ _) f.k1024
/-- What the laws keep of a map between calls. -/
structure Keep (h0 h : AHeap) (p : Nat) (L : List (List UInt8)) (S : Nat → Prop) : Prop where
  mt : Mt h p L S
  low : h.low = h0.low
  next : h0.next ≤ h.next
  ways : h.get GW = some (.cells waysC 123 false)

end Go.Proofs.YtgdcbjpookldoaaDoor

namespace Go.Proofs.YtgdcbjpookldoaaDoor
open Go.AM

/-! ### Laws of edges -/
/-- What an edge tells. -/
theorem edgeL_facts {L : List (List UInt8)} {a b : Int} (h : edgeL L a b = true) : ((0 ≤ a ∧ a < L.flatten.length) ∧ 0 ≤ b ∧ b < L.flatten.length) ∧ farL L a b = 1 ∧ freeP L.flatten a = true ∧ freeP L.flatten b = true := by
  unfold edgeL edgeN at h
  simp only [Bool.and_eq_true, decide_eq_true_eq, Bool.or_eq_true, Bool.not_eq_true', decide_eq_false_iff_not] at h
  obtain ⟨hin, ⟨⟨⟨h1, h2⟩, h3⟩, _⟩, _⟩ := h
  refine ⟨hin, by unfold farL; rw [if_pos hin]; exact h3, ?_, ?_⟩
  · unfold freeP kindP
    rw [decide_eq_true hin.1, if_pos hin.1.1, Bool.true_and]
    have : decide (L.flatten.getD a.toNat 0 = 35) = false := decide_eq_false fun e => h1 (by rw [e]; rfl)
    rw [this]; rfl
  · unfold freeP kindP
    rw [decide_eq_true hin.2, if_pos hin.2.1, Bool.true_and]
    have : decide (L.flatten.getD b.toNat 0 = 35) = false := decide_eq_false fun e => h2 (by rw [e]; rfl)
    rw [this]; rfl
end Go.Proofs.YtgdcbjpookldoaaDoor

namespace Go.Proofs.YtgdcbjpookldoaaDoor
open Go.AM

/-! ### A text out of rows -/
/-- Rows that are a map's. -/
structure Rows' (L : List (List UInt8)) (C : Nat) : Prop where
  c0 : 0 < C
  c32 : C ≤ 32
  all : ∀ T ∈ L, T.length = C
  cell : ∀ T ∈ L, ∀ c ∈ T, cellB c = true
end Go.Proofs.YtgdcbjpookldoaaDoor

namespace Go.Proofs.YtgdcbjpookldoaaDoor
open Go.AM

/-! ### Walls below, walls above -/
abbrev wallR (C : Nat) : List UInt8 := List.replicate C 35
end Go.Proofs.YtgdcbjpookldoaaDoor

namespace Go.Proofs.YtgdcbjpookldoaaDoor
open Go.AM

abbrev colsL (L : List (List UInt8)) : Nat := (L.getD 0 []).length
theorem Good.any {l : List UInt8} {L : List (List UInt8)} (g : Good l L) : L.any freeL = true := by
  rw [← any_flat]; exact (allP_any _).1 g.some
def below (L : List (List UInt8)) : List (List UInt8) := L ++ [wallR (colsL L)]
def above (L : List (List UInt8)) : List (List UInt8) := wallR (colsL L) :: L
end Go.Proofs.YtgdcbjpookldoaaDoor

namespace Go.Proofs.YtgdcbjpookldoaaDoor
open Go.AM

/-! ### Several maps at once -/
/-- A map in memory that owns none of some others. -/
def Mk (h : AHeap) (p : Nat) (L : List (List UInt8)) (B : Nat → Prop) : Prop := (∃ S, Mt h p L S ∧ ∀ id, B id → ¬ S id) ∧ ∀ id, B id → id < h.next
theorem Mk.mp {h : AHeap} {p : Nat} {L : List (List UInt8)} {B : Nat → Prop} (m : Mk h p L B) : ∃ kv tl, Mp h p kv L.length (L.getD 0 []).length L.flatten tl := by
  obtain ⟨⟨S, m, _⟩, _⟩ := m
  exact m.mp
theorem Mk.lt {h : AHeap} {p : Nat} {L : List (List UInt8)} {B : Nat → Prop} (m : Mk h p L B) : p < h.next := by
  obtain ⟨⟨S, m, _⟩, _⟩ := m
  exact m.lt m.self
theorem Mk.frB {h h' : AHeap} {p : Nat} {L : List (List UInt8)} {B T : Nat → Prop} (m : Mk h p L B) (fr : Fr T h h') (hT : ∀ id, T id → B id) : Mk h' p L B := by
  obtain ⟨⟨S, m, hB⟩, hb⟩ := m
  have hn := fr.next
  exact ⟨⟨S, m.fr fr fun id q1 q2 => hB id (hT id q2) q1, hB⟩, fun id q => Nat.lt_of_lt_of_le (hb id q) hn⟩
theorem Mk.fr0 {h h' : AHeap} {p : Nat} {L : List (List UInt8)} {B : Nat → Prop} (m : Mk h p L B) (fr : Fr none' h h') : Mk h' p L B := m.frB fr fun _ q => q.elim
theorem Mk.grow {h h' : AHeap} {p : Nat} {L : List (List UInt8)} {B S S' : Nat → Prop} (hB : ∀ id, B id → ¬ S id) (hb : ∀ id, B id → id < h.next) (m' : Mt h' p L S') (hS : ∀ id, S' id → S id ∨ h.next ≤ id) (hn : h.next ≤ h'.next) : Mk h' p L B := by
  refine ⟨⟨S', m', fun id q1 q2 => ?_⟩, fun id q => Nat.lt_of_lt_of_le (hb id q) hn⟩
  have := hb id q1
  rcases hS id q2 with q | q
  · exact hB id q1 q
  · omega
theorem nextK_w {h : AHeap} {p : Nat} {L : List (List UInt8)} {B : Nat → Prop} (m : Mk h p L B) (f : Fit L) (hw : h.get GW = some (.cells waysC 123 false)) (hgl : GW < h.low) (hl : h.low ≤ h.next) (i : Int) {Q : VQ}
    (hq : ∀ v h', Mk h' p L B → Ow h' 3 1 v (nextL L i).length ((nextL L i).map (.int .i64)) → Fr (fun id => id = p) h h' → (∀ id, idOf v id → h.next ≤ id) → Q v h') : W 25 [pv p, .int .i64 i] h Q := by
  obtain ⟨⟨S, m, hB⟩, hb⟩ := m
  exact next_w m f hw hgl hl i fun v h' S' m' hS' o fr hid => hq v h' (Mk.grow hB hb m' hS' fr.next) o fr fun id q => (hid id q).1
theorem edgeK_w {h : AHeap} {p : Nat} {L : List (List UInt8)} {B : Nat → Prop} (m : Mk h p L B) (f : Fit L) (hw : h.get GW = some (.cells waysC 123 false)) (hgl : GW < h.low) (hl : h.low ≤ h.next) (a b : Int) {Q : VQ}
    (hq : ∀ h', Mk h' p L B → Fr (fun id => id = p) h h' → Q (.bool (edgeL L a b)) h') : W 44 [pv p, .int .i64 a, .int .i64 b] h Q := by
  obtain ⟨⟨S, m, hB⟩, hb⟩ := m
  exact edge_w m f hw hgl hl a b fun h' S' m' hS' fr => by rw [edge_mem f]; exact hq h' (Mk.grow hB hb m' hS' fr.next) fr
/-- A map that was just read. -/
theorem Mk.start {h h0 : AHeap} {p : Nat} {kv : Value} {L : List (List UInt8)} {B : Nat → Prop} (m : Mp h p kv L.length (L.getD 0 []).length L.flatten tl0) (hp' : h0.next ≤ p) (hid : ∀ id, idOf kv id → h0.next ≤ id) (hn : h0.next ≤ h.next) (hB : ∀ id, B id → id < h0.next) : Mk h p L B :=
  ⟨⟨_, Mt.start m, fun id q1 q2 => by
    have := hB id q1
    rcases q2 with rfl | q2
    · omega
    · have := hid id q2; omega⟩, fun id q => Nat.lt_of_lt_of_le (hB id q) hn⟩
/-- Later ones are none of its own. -/
theorem Mk.more {h : AHeap} {p : Nat} {L : List (List UInt8)} {B C : Nat → Prop} (m : Mk h p L B) {h' : AHeap} (fr : Fr none' h h') (hC : ∀ id, C id → B id ∨ (h.next ≤ id ∧ id < h'.next)) : Mk h' p L C := by
  obtain ⟨⟨S, m, hB⟩, hb⟩ := m
  have hn := fr.next
  refine ⟨⟨S, m.fr0 fr, fun id q1 q2 => ?_⟩, fun id q => ?_⟩
  · rcases hC id q1 with q | q
    · exact hB id q q2
    · have := m.lt q2; omega
  · rcases hC id q with q | q
    · exact Nat.lt_of_lt_of_le (hb id q) hn
    · exact q.2

end Go.Proofs.YtgdcbjpookldoaaDoor

namespace Go.Proofs.YtgdcbjpookldoaaDoor
open Go.AM
set_option maxRecDepth 8000
theorem b60_RT1 : type_of% (And.intro (@AM.bdV_some) (And.intro (@bd_100) (And.intro (@AM.bin_add) (And.intro (@AM.bin_lss) (And.intro (@AM.bin_neq) (And.intro (@AM.boxK_agg) (And.intro (@AM.boxK_bool) (And.intro (@AM.boxK_func) (And.intro (@AM.boxK_int) (And.intro (@AM.boxK_map) (And.intro (@AM.boxK_pointer) (And.intro (@AM.boxK_slice) (And.intro (@AM.boxK_string) (And.intro (@AM.fa_ptr) (And.intro (@fd_100_1) (And.intro (@AM.fillL_cons) (And.intro (@AM.fillL_nil) (And.intro (@AM.fillS_agg) (And.intro (@AM.fillS_bool) (And.intro (@AM.fillS_func) (And.intro (@AM.fillS_int) (And.intro (@AM.fillS_map) (And.intro (@AM.fillS_pointer) (And.intro (@AM.fillS_slice) (And.intro (@AM.fillS_string) (And.intro (@AM.iaO_ok) (And.intro (AM.ia_slice el_22) (And.intro (@AM.ldO_agg) (And.intro (@AM.ldO_one) (And.intro (@AM.ld_ptr) (And.intro (AM.len_slice ul_22) (And.intro (@lk_3) (And.intro (@lk_98) (And.intro (@AM.op_binOp) (And.intro (@AM.op_box) (And.intro (@AM.op_build) (And.intro (@AM.op_fieldAddr) (And.intro (@AM.op_indexAddr) (And.intro (@AM.op_len) (And.intro (@AM.op_load) (And.intro (@AM.op_makeMap0) (And.intro (@AM.op_mapUpdate) (@AM.op_nilCheck))))))))))))))))))))))))))))))))))))))))))) := And.intro (@AM.bdV_some) (And.intro (@bd_100) (And.intro (@AM.bin_add) (And.intro (@AM.bin_lss) (And.intro (@AM.bin_neq) (And.intro (@AM.boxK_agg) (And.intro (@AM.boxK_bool) (And.intro (@AM.boxK_func) (And.intro (@AM.boxK_int) (And.intro (@AM.boxK_map) (And.intro (@AM.boxK_pointer) (And.intro (@AM.boxK_slice) (And.intro (@AM.boxK_string) (And.intro (@AM.fa_ptr) (And.intro (@fd_100_1) (And.intro (@AM.fillL_cons) (And.intro (@AM.fillL_nil) (And.intro (@AM.fillS_agg) (And.intro (@AM.fillS_bool) (And.intro (@AM.fillS_func) (And.intro (@AM.fillS_int) (And.intro (@AM.fillS_map) (And.intro (@AM.fillS_pointer) (And.intro (@AM.fillS_slice) (And.intro (@AM.fillS_string) (And.intro (@AM.iaO_ok) (And.intro (AM.ia_slice el_22) (And.intro (@AM.ldO_agg) (And.intro (@AM.ldO_one) (And.intro (@AM.ld_ptr) (And.intro (AM.len_slice ul_22) (And.intro (@lk_3) (And.intro (@lk_98) (And.intro (@AM.op_binOp) (And.intro (@AM.op_box) (And.intro (@AM.op_build) (And.intro (@AM.op_fieldAddr) (And.intro (@AM.op_indexAddr) (And.intro (@AM.op_len) (And.intro (@AM.op_load) (And.intro (@AM.op_makeMap0) (And.intro (@AM.op_mapUpdate) (@AM.op_nilCheck))))))))))))))))))))))))))))))))))))))))))


/-! ### A search in memory -/
def outB (B : List Int) (from' x : Int) : Bool := decide (x ∈ B) && !decide (x = from')
def outMap (B : List Int) (from' : Int) (ml : List (Int × Value)) : Prop := ∀ x, mgetL ml x = if outB B from' x = true then some (.int .i64 1) else none
theorem outB_nil (f x : Int) : outB [] f x = false := by unfold outB; simp
theorem outB_take {B : List Int} {f x : Int} {i : Nat} (hi : i < B.length) : outB (B.take (i + 1)) f x = (outB (B.take i) f x || (decide (x = B.getD i 0) && !decide (x = f))) := by
  unfold outB
  rw [List.take_succ_eq_append_getElem hi]
  have e : B.getD i 0 = B[i] := by simp [List.getD, hi]
  rw [e]
  generalize B.take i = T
  generalize B[i] = b
  by_cases h1 : x ∈ T <;> by_cases h2 : x = b <;> by_cases h3 : x = f <;> simp [h1, h2, h3]
set_option maxHeartbeats 2000000 in
theorem without_w {h : AHeap} {p n : Nat} {s : Value} {B : List Int} (hs : Rd h 3 1 s n (B.map (.int .i64))) (hn : n ≤ 4000000) (hl : h.low ≤ h.next) (from' : Int) {Q : VQ}
    (hq : ∀ h' ml, h'.get (h.next + 2) = some (.cells [pv p, .map (some h.next), .map (some (h.next + 1))] 100 false) → h'.get h.next = some (.map (encM ml)) → outMap B from' ml → h'.get (h.next + 1) = some (.map []) → Fr none' h h' → h'.next = h.next + 3 → Q (pv (h.next + 2)) h') :
    W 60 [pv p, s, .int .i64 from'] h Q := by
  obtain ⟨sa, sc, rfl⟩ := hs.form
  have hln : B.length = n := by simpa using hs.length
  refine AM.enter hp (fn := Tryd.f60) (rs := [.tmp 6]) (nt := 31) (by kernel_rfl) Tryd.func60 rfl rfl rfl (by kernel_rfl) ?_
  (repeat' (first | (simp (maxSteps := 1000000) (disch := first | omega | (simp only [AM.DB, List.length_set, List.length_map]; first | done | omega)) only [AM.RB, Nat.reduceAdd, Nat.reduceMul, Nat.reduceEqDiff, reduceCtorEq, b60_RT1]) | refine AM.build_w ?_))
  generalize hE_ : AHeap.alloc (AHeap.alloc (AHeap.alloc h _) _) _ = h3
  have g1 : h3.get h.next = some (.map []) := by rw [← hE_, AM.get_alloc_ne (by simp; omega), AM.get_alloc_ne (by simp), AM.get_alloc_self rfl]
  have g2 : h3.get (h.next + 1) = some (.map []) := by rw [← hE_, AM.get_alloc_ne (by simp), AM.get_alloc_self (by simp)]
  have g3 : h3.get (h.next + 2) = some (.cells [pv p, .map (some h.next), .map (some (h.next + 1))] 100 false) := by rw [← hE_, AM.get_alloc_self (by simp)]
  have fr3 : Fr none' h h3 := by rw [← hE_]; exact (((Fr.refl _ _).alloc _).alloc _).alloc _
  have n3 : h3.next = h.next + 3 := by rw [← hE_]; rfl
  have l3 : h3.low = h.low := by rw [← hE_]; rfl
  clear hE_
  refine AM.loop_w hp 31 (fun i : Nat => [(2, .int .i64 from'), (7, pv (h.next + 2)), (15, .slice sa n sc), (16, .int .i64 n), (17, .int .i64 i)])
    (fun i h' => i ≤ n ∧ Fr (fun id => id = h.next) h3 h' ∧ h'.next = h3.next ∧ ∃ ml, h'.get h.next = some (.map (encM ml)) ∧ outMap (B.take i) from' ml) (fun i => n - i) (by kernel_rfl) 0 ?_ ?_ ?_
  · simp (maxSteps := 1000000) (disch := first | omega | (simp only [AM.DB, List.length_set, List.length_map]; first | done | omega)) only [AM.RB, Nat.reduceAdd, Nat.reduceMul, Nat.reduceEqDiff, reduceCtorEq, b60_RT1]
    first | rfl | skip
  · exact ⟨Nat.zero_le _, Fr.refl _ _, rfl, [], g1, fun x => by rw [List.take_zero, outB_nil]; rfl⟩
  rintro i h4 ρ ⟨hi, fr4, n4, ml, gm, om⟩
  have l4 := fr4.low
  have gs := fr4.get g3 (fun q => by omega)
  have g24 := fr4.get g2 (fun q => by omega)
  have r4 := (hs.fr0 fr3).fr fr4 (fun id q q2 => by have := hs.lt q; omega)
  have lm : h4.low ≤ h.next := by omega
  (repeat' (first | (simp (maxSteps := 1000000) (disch := first | omega | (simp only [AM.DB, List.length_set, List.length_map]; first | done | omega)) only [AM.RB, Nat.reduceAdd, Nat.reduceMul, Nat.reduceEqDiff, reduceCtorEq, b60_RT1]) | refine AM.build_w ?_))
  refine AM.condV_split (fun hlt => ?_) (fun hlt => ?_)
  · have hin : i < n := by omega
    have ot := fun x => outB_take (f := from') (x := x) (show i < B.length by omega)
    obtain ⟨b, hb⟩ : ∃ b, B.getD i 0 = b := ⟨_, rfl⟩
    simp only [hb] at ot
    by_cases c : b = from'
    · have d : decide (b = from') = true := decide_eq_true c
      (repeat' (first | (simp (maxSteps := 1000000) (disch := first | omega | (simp only [AM.DB, List.length_set, List.length_map]; first | done | omega)) only [AM.RB, Nat.reduceAdd, Nat.reduceMul, Nat.reduceEqDiff, reduceCtorEq, b60_RT1, r4.ia el_22, Rd.ldi r4 lk_3, Int.toNat_natCast, hb, d, AM.wrap_i64]) | refine AM.build_w ?_))
      refine ⟨i + 1, by omega, ?_, by omega, fr4, n4, ml, gm, fun x => ?_⟩
      · simp (maxSteps := 1000000) (disch := first | omega | (simp only [AM.DB, List.length_set, List.length_map]; first | done | omega)) only [AM.RB, Nat.reduceAdd, Nat.reduceMul, Nat.reduceEqDiff, reduceCtorEq, b60_RT1]
        first | rfl | skip
      · rw [om x, ot x]
        by_cases e : x = b
        · have : x = from' := e.trans c
          simp [this]
        · simp [e]
    · have d : decide (b = from') = false := decide_eq_false c
      (repeat' (first | (simp (maxSteps := 1000000) (disch := first | omega | (simp only [AM.DB, List.length_set, List.length_map]; first | done | omega)) only [AM.RB, Nat.reduceAdd, Nat.reduceMul, Nat.reduceEqDiff, reduceCtorEq, b60_RT1, r4.ia el_22, Rd.ldi r4 lk_3, Int.toNat_natCast, hb, d, gs, AM.update_enc mp_98 gm lm]) | refine AM.build_w ?_))
      generalize hE_ : AHeap.put h4 _ _ = h5; obtain ⟨g5, fr5, n5, l5⟩ := AM.put_get hE_ (by omega); clear hE_
      (repeat' (first | (simp (maxSteps := 1000000) (disch := first | omega | (simp only [AM.DB, List.length_set, List.length_map]; first | done | omega)) only [AM.RB, Nat.reduceAdd, Nat.reduceMul, Nat.reduceEqDiff, reduceCtorEq, b60_RT1, AM.wrap_i64]) | refine AM.build_w ?_))
      refine ⟨i + 1, by omega, ?_, by omega, fr4.trans fr5, by omega, _, rfl, fun x => ?_⟩
      · simp (maxSteps := 1000000) (disch := first | omega | (simp only [AM.DB, List.length_set, List.length_map]; first | done | omega)) only [AM.RB, Nat.reduceAdd, Nat.reduceMul, Nat.reduceEqDiff, reduceCtorEq, b60_RT1]
        first | rfl | skip
      · rw [AM.mget_set, om x, ot x]
        by_cases e : x = b
        · have : ¬ x = from' := fun q => c (e ▸ q)
          rw [if_pos e, decide_eq_true e, decide_eq_false this]
          simp
        · simp [e]
  · obtain rfl : i = n := by omega
    rw [← hln, List.take_length] at om
    (repeat' (first | (simp (maxSteps := 1000000) (disch := first | omega | (simp only [AM.DB, List.length_set, List.length_map]; first | done | omega)) only [AM.RB, Nat.reduceAdd, Nat.reduceMul, Nat.reduceEqDiff, reduceCtorEq, b60_RT1]) | refine AM.build_w ?_))
    exact hq h4 ml gs gm om g24 (fr3.fresh fr4 (fun id q => by omega)) (by omega)
end Go.Proofs.YtgdcbjpookldoaaDoor

namespace Go.Proofs.YtgdcbjpookldoaaDoor
open Go.AM
set_option maxRecDepth 8000
theorem b61_RT2 : type_of% (And.intro (@List.map_toArray.{0,0}) (And.intro (@AM.boxK_agg) (And.intro (@AM.boxK_bool) (And.intro (@AM.boxK_func) (And.intro (@AM.boxK_int) (And.intro (@AM.boxK_map) (And.intro (@AM.boxK_pointer) (And.intro (@AM.boxK_slice) (And.intro (@AM.boxK_string) (And.intro (@AM.op_box) (@AM.op_makeFunc))))))))))) := And.intro (@List.map_toArray.{0,0}) (And.intro (@AM.boxK_agg) (And.intro (@AM.boxK_bool) (And.intro (@AM.boxK_func) (And.intro (@AM.boxK_int) (And.intro (@AM.boxK_map) (And.intro (@AM.boxK_pointer) (And.intro (@AM.boxK_slice) (And.intro (@AM.boxK_string) (And.intro (@AM.op_box) (@AM.op_makeFunc))))))))))
theorem b82_RT2 : type_of% (And.intro (@AM.bin_add) (And.intro (@AM.bin_gtr) (And.intro (@AM.bin_lss) (And.intro (@AM.fa_ptr) (And.intro (@fd_100_1) (And.intro (@AM.iaO_ok) (And.intro (AM.ia_slice el_22) (And.intro (@AM.ldO_agg) (And.intro (@AM.ldO_one) (And.intro (@AM.ld_ptr) (And.intro (AM.len_slice ul_22) (And.intro (@lk_22) (And.intro (@lk_3) (And.intro (@lk_96) (And.intro (@lk_98) (And.intro (@AM.op_binOp) (And.intro (@AM.op_call) (And.intro (@AM.op_fieldAddr) (And.intro (@AM.op_indexAddr) (And.intro (@AM.op_len) (And.intro (@AM.op_load) (And.intro (@AM.op_lookup) (And.intro (@AM.op_nilCheck) (And.intro (@AM.op_unOp) (And.intro (@AM.un_neg) (@AM.un_not)))))))))))))))))))))))))) := And.intro (@AM.bin_add) (And.intro (@AM.bin_gtr) (And.intro (@AM.bin_lss) (And.intro (@AM.fa_ptr) (And.intro (@fd_100_1) (And.intro (@AM.iaO_ok) (And.intro (AM.ia_slice el_22) (And.intro (@AM.ldO_agg) (And.intro (@AM.ldO_one) (And.intro (@AM.ld_ptr) (And.intro (AM.len_slice ul_22) (And.intro (@lk_22) (And.intro (@lk_3) (And.intro (@lk_96) (And.intro (@lk_98) (And.intro (@AM.op_binOp) (And.intro (@AM.op_call) (And.intro (@AM.op_fieldAddr) (And.intro (@AM.op_indexAddr) (And.intro (@AM.op_len) (And.intro (@AM.op_load) (And.intro (@AM.op_lookup) (And.intro (@AM.op_nilCheck) (And.intro (@AM.op_unOp) (And.intro (@AM.un_neg) (@AM.un_not)))))))))))))))))))))))))
theorem b55_RT2 : type_of% (And.intro (@Option.isNone_none.{0}) (And.intro (@Option.isNone_some.{0}) (And.intro (AM.bin_pnil ul_23) (And.intro (@AM.op_binOp) (And.intro (@AM.op_call) (And.intro (@AM.op_unOp) (And.intro (@AM.un_neg) (@AM.un_not)))))))) := And.intro (@Option.isNone_none.{0}) (And.intro (@Option.isNone_some.{0}) (And.intro (AM.bin_pnil ul_23) (And.intro (@AM.op_binOp) (And.intro (@AM.op_call) (And.intro (@AM.op_unOp) (And.intro (@AM.un_neg) (@AM.un_not)))))))


/-- Those that are not left out. -/
def keptL (B : List Int) (f : Int) (l : List Int) : List Int := l.filter fun c => !outB B f c
theorem keptL_succ (B : List Int) (f : Int) {l : List Int} {i : Nat} (hi : i < l.length) : keptL B f (l.take (i + 1)) = keptL B f (l.take i) ++ if outB B f (l.getD i 0) = true then [] else [l.getD i 0] := by
  unfold keptL
  have e : l.getD i 0 = l[i] := by simp [List.getD, hi]
  rw [List.take_succ_eq_append_getElem hi, List.filter_append, e]
  cases h : outB B f l[i] <;> simp [h]
theorem keptL_at {B : List Int} {f : Int} {l : List Int} {i : Nat} (hi : i < l.length) (h : outB B f (l.getD i 0) = false) : (keptL B f l)[(keptL B f (l.take i)).length]? = some (l.getD i 0) := by
  have e : keptL B f l = keptL B f (l.take i) ++ keptL B f (l.drop i) := by unfold keptL; rw [← List.filter_append, List.take_append_drop]
  rw [e, List.getElem?_append_right (Nat.le_refl _), Nat.sub_self]
  have d : l.drop i = l.getD i 0 :: l.drop (i + 1) := by
    rw [List.drop_eq_getElem_cons hi]
    simp [List.getD, hi]
  rw [d]
  unfold keptL
  rw [List.filter_cons_of_pos (by rw [h]; rfl)]
  rfl
theorem sfree_w {h : AHeap} {sp n c : Nat} {a : Option Addr} {Q : VQ} (hq : ∀ h', h'.get h.next = some (.cells [pv sp] 96 false) → h'.get (h.next + 1) = some (.cells [.slice a n c] 22 false) → Fr none' h h' → h'.next = h.next + 2 → h'.low = h.low → Q (.func (.func 82) #[] #[pv (h.next + 1), pv h.next]) h') : W 61 [pv sp, .slice a n c] h Q := by
  refine AM.enter hp (fn := Tryd.f61) (rs := [.tmp 4]) (nt := 6) (by kernel_rfl) Tryd.func61 rfl rfl rfl (by kernel_rfl) ?_
  (first | (simp (maxSteps := 1000000) (disch := first | omega | (simp only [AM.DB, List.length_set, List.length_map]; first | done | omega)) only [AM.RB, Nat.reduceAdd, Nat.reduceMul, Nat.reduceEqDiff, reduceCtorEq, b61_RT2]) | skip)
  generalize hE_ : AHeap.alloc (AHeap.alloc h _) _ = h2
  refine hq h2 ?_ ?_ ?_ (by rw [← hE_]; rfl) (by rw [← hE_]; rfl)
  · rw [← hE_, AM.get_alloc_ne (by simp), AM.get_alloc_self rfl]
  · rw [← hE_, AM.get_alloc_self (by simp)]
  · rw [← hE_]; exact ((Fr.refl _ _).alloc _).alloc _
set_option maxHeartbeats 4000000 in
theorem free1_w {h : AHeap} {w1 w2 sp o1 n : Nat} {pm dv : Value} {la : Option Addr} {lc : Nat} {l B : List Int} {f : Int} {ml : List (Int × Value)} {e1 e2 e3 : TypeId} {b1 b2 b3 : Bool} (g1 : h.get w1 = some (.cells [.slice la n lc] e1 b1)) (g2 : h.get w2 = some (.cells [pv sp] e2 b2))
    (gs : h.get sp = some (.cells [pm, .map (some o1), dv] e3 b3)) (gm : h.get o1 = some (.map (encM ml))) (om : outMap B f ml) (hr : Rd h 3 1 (.slice la n lc) n (l.map (.int .i64))) (hn : n ≤ 4000000) :
    IterOk Tryd.prog prims (.func (.func 82) #[] #[pv w1, pv w2]) (fun id => id = w1 ∨ id = w2 ∨ id = sp ∨ id = o1 ∨ idOf (.slice la n lc) id) ((keptL B f l).map fun c => [.int .i64 c]) h := by
  intro y J E h0 hnx hR hlow hJ hE hy hJ0
  have hll : l.length = n := by simpa using hr.length
  have gw1 : h0.get w1 = some (.cells [.slice la n lc] e1 b1) := by rw [hR w1 (AM.get_some_lt g1) (.inl rfl)]; exact g1
  have gw2 : h0.get w2 = some (.cells [pv sp] e2 b2) := by rw [hR w2 (AM.get_some_lt g2) (.inr (.inl rfl))]; exact g2
  have gs0 : h0.get sp = some (.cells [pm, .map (some o1), dv] e3 b3) := by rw [hR sp (AM.get_some_lt gs) (.inr (.inr (.inl rfl)))]; exact gs
  have gm0 : h0.get o1 = some (.map (encM ml)) := by rw [hR o1 (AM.get_some_lt gm) (.inr (.inr (.inr (.inl rfl))))]; exact gm
  have hr0 : Rd h0 3 1 (.slice la n lc) n (l.map (.int .i64)) := hr.same fun id hi => hR id (hr.lt hi) (.inr (.inr (.inr (.inr hi))))
  have hRlt : ∀ id, (id = w1 ∨ id = w2 ∨ id = sp ∨ id = o1 ∨ idOf (.slice la n lc) id) → id < h0.next := by
    rintro id (rfl | rfl | rfl | rfl | hi)
    · exact AM.get_some_lt gw1
    · exact AM.get_some_lt gw2
    · exact AM.get_some_lt gs0
    · exact AM.get_some_lt gm0
    · exact hr0.lt hi
  refine AM.enter hp (fn := Tryd.f82) (rs := []) (nt := 24) (by kernel_rfl) Tryd.func82 rfl rfl rfl (by kernel_rfl) ?_
  (first | (simp (maxSteps := 1000000) (disch := first | omega | (simp only [AM.DB, List.length_set, List.length_map]; first | done | omega)) only [AM.RB, Nat.reduceAdd, Nat.reduceMul, Nat.reduceEqDiff, reduceCtorEq, b82_RT2, gw1]) | skip)
  refine AM.loop_w hp 24 (fun i : Nat => [(0, y), (1, pv w1), (2, pv w2), (6, .slice la n lc), (7, .int .i64 n), (8, .int .i64 i)])
    (fun i h' => i ≤ n ∧ (∀ id, (id = w1 ∨ id = w2 ∨ id = sp ∨ id = o1 ∨ idOf (.slice la n lc) id) → h'.get id = h0.get id) ∧ h0.next ≤ h'.next ∧ h'.low = h0.low ∧ ∃ A, (∀ id, A id → h0.next ≤ id ∧ id < h'.next) ∧ J (keptL B f (l.take i)).length A h') (fun i => n - i) (by kernel_rfl) 0 ?_ ?_ ?_
  · simp (maxSteps := 1000000) (disch := first | omega | (simp only [AM.DB, List.length_set, List.length_map]; first | done | omega)) only [AM.RB, Nat.reduceAdd, Nat.reduceMul, Nat.reduceEqDiff, reduceCtorEq, b82_RT2]
    first | rfl | skip
  · exact ⟨Nat.zero_le _, fun _ _ => rfl, Nat.le_refl _, rfl, none', fun id q => q.elim, hJ0⟩
  rintro i h1 ρ ⟨hi, hk, nx1, lw1, A, hA, hJ1⟩
  have r1 := hr0.same fun id q => hk id (.inr (.inr (.inr (.inr q))))
  have gw21 : h1.get w2 = some (.cells [pv sp] e2 b2) := by rw [hk w2 (.inr (.inl rfl))]; exact gw2
  have gs1 : h1.get sp = some (.cells [pm, .map (some o1), dv] e3 b3) := by rw [hk sp (.inr (.inr (.inl rfl)))]; exact gs0
  have gm1 : h1.get o1 = some (.map (encM ml)) := by rw [hk o1 (.inr (.inr (.inr (.inl rfl))))]; exact gm0
  simp (maxSteps := 1000000) (disch := first | omega | (simp only [AM.DB, List.length_set, List.length_map]; first | done | omega)) only [AM.RB, Nat.reduceAdd, Nat.reduceMul, Nat.reduceEqDiff, reduceCtorEq, b82_RT2]
  refine AM.condV_split (fun hlt => ?_) (fun hlt => ?_)
  · have hil : i < l.length := by omega
    have fs := keptL_succ B f hil
    have fa := keptL_at (B := B) (f := f) hil
    obtain ⟨x, hx⟩ : ∃ x, l.getD i 0 = x := ⟨_, rfl⟩
    rw [hx] at fs fa
    have ox := om x
    cases ho : outB B f x with
    | true =>
      rw [ho, if_pos rfl] at ox
      rw [ho, if_pos rfl, List.append_nil] at fs
      have d1 : decide ((0 : Int) < 1) = true := rfl
      (first | (simp (maxSteps := 1000000) (disch := first | omega | (simp only [AM.DB, List.length_set, List.length_map]; first | done | omega)) only [AM.RB, Nat.reduceAdd, Nat.reduceMul, Nat.reduceEqDiff, reduceCtorEq, b82_RT2, r1.ia el_22, Rd.ldi r1 lk_3, Int.toNat_natCast, hx, gw21, gs1, AM.lookup_enc mp_98 gm1, ox, d1, AM.wrap_i64]) | skip)
      refine ⟨i + 1, by omega, ?_, by omega, hk, nx1, lw1, A, hA, by rw [fs]; exact hJ1⟩
      simp (maxSteps := 1000000) (disch := first | omega | (simp only [AM.DB, List.length_set, List.length_map]; first | done | omega)) only [AM.RB, Nat.reduceAdd, Nat.reduceMul, Nat.reduceEqDiff, reduceCtorEq, b82_RT2]
      first | rfl | skip
    | false =>
      rw [ho] at ox
      simp only [ho, Bool.false_eq_true, if_false] at ox fs
      have d1 : decide ((0 : Int) < 0) = false := rfl
      have at' : ((keptL B f l).map fun c => [Value.int .i64 c])[(keptL B f (l.take i)).length]? = some [.int .i64 x] := by rw [List.getElem?_map, fa ho]; rfl
      (first | (simp (maxSteps := 1000000) (disch := first | omega | (simp only [AM.DB, List.length_set, List.length_map]; first | done | omega)) only [AM.RB, Nat.reduceAdd, Nat.reduceMul, Nat.reduceEqDiff, reduceCtorEq, b82_RT2, r1.ia el_22, Rd.ldi r1 lk_3, Int.toNat_natCast, hx, gw21, gs1, AM.lookup_enc mp_98 gm1, ox, d1]) | skip)
      refine AM.CallW.mono (hy _ _ A h1 at' hJ1 hA nx1 lw1 hk) ?_
      rintro v h2 ⟨b, rfl, n2, l2, s2, q2⟩
      cases b with
      | true =>
        (first | (simp (maxSteps := 1000000) (disch := first | omega | (simp only [AM.DB, List.length_set, List.length_map]; first | done | omega)) only [AM.RB, Nat.reduceAdd, Nat.reduceMul, Nat.reduceEqDiff, reduceCtorEq, b82_RT2, AM.wrap_i64]) | skip)
        refine ⟨i + 1, by omega, ?_, by omega, fun id q => (s2 id (by have := hRlt id q; omega) (.inr q)).trans (hk id q), by omega, by omega, A, fun id q => ⟨(hA id q).1, by have := (hA id q).2; omega⟩, ?_⟩
        · simp (maxSteps := 1000000) (disch := first | omega | (simp only [AM.DB, List.length_set, List.length_map]; first | done | omega)) only [AM.RB, Nat.reduceAdd, Nat.reduceMul, Nat.reduceEqDiff, reduceCtorEq, b82_RT2]
          first | rfl | skip
        · rw [fs, List.length_append]; exact q2
      | false =>
        (first | (simp (maxSteps := 1000000) (disch := first | omega | (simp only [AM.DB, List.length_set, List.length_map]; first | done | omega)) only [AM.RB, Nat.reduceAdd, Nat.reduceMul, Nat.reduceEqDiff, reduceCtorEq, b82_RT2]) | skip)
        exact ⟨A, fun id q => ⟨(hA id q).1, by have := (hA id q).2; omega⟩, by omega, by omega, .inr q2⟩
  · obtain rfl : i = n := by omega
    rw [← hll, List.take_length] at hJ1
    (first | (simp (maxSteps := 1000000) (disch := first | omega | (simp only [AM.DB, List.length_set, List.length_map]; first | done | omega)) only [AM.RB, Nat.reduceAdd, Nat.reduceMul, Nat.reduceEqDiff, reduceCtorEq, b82_RT2]) | skip)
    exact ⟨A, hA, nx1, lw1, .inl (by rw [List.length_map]; exact hJ1)⟩
theorem may_w {h : AHeap} {p : Nat} {L : List (List UInt8)} {B : Nat → Prop} (m : Mk h p L B) (f : Fit L) (a b : Int) {Q : VQ} (hq : Q (.int .i64 (if freeP L.flatten a = true ∧ freeP L.flatten b = true then 0 else 2)) h) : W 55 [pv p, .int .i64 a, .int .i64 b] h Q := by
  obtain ⟨kv, tl, mm⟩ := m.mp
  refine AM.enter hp (fn := Tryd.f55) (rs := [.tmp 6]) (nt := 21) (by kernel_rfl) Tryd.func55 rfl rfl rfl (by kernel_rfl) ?_
  (first | (simp (maxSteps := 1000000) (disch := first | omega | (simp only [AM.DB, List.length_set, List.length_map]; first | done | omega)) only [AM.RB, Nat.reduceAdd, Nat.reduceMul, Nat.reduceEqDiff, reduceCtorEq, b55_RT2]) | skip)
  refine free_w mm f.rows a _ ?_
  cases ha : freeP L.flatten a with
  | false =>
    (first | (simp (maxSteps := 1000000) (disch := first | omega | (simp only [AM.DB, List.length_set, List.length_map]; first | done | omega)) only [AM.RB, Nat.reduceAdd, Nat.reduceMul, Nat.reduceEqDiff, reduceCtorEq, b55_RT2]) | skip)
    rw [ha] at hq
    simpa using hq
  | true =>
    (first | (simp (maxSteps := 1000000) (disch := first | omega | (simp only [AM.DB, List.length_set, List.length_map]; first | done | omega)) only [AM.RB, Nat.reduceAdd, Nat.reduceMul, Nat.reduceEqDiff, reduceCtorEq, b55_RT2]) | skip)
    refine free_w mm f.rows b _ ?_
    cases hb : freeP L.flatten b with
    | false =>
      (first | (simp (maxSteps := 1000000) (disch := first | omega | (simp only [AM.DB, List.length_set, List.length_map]; first | done | omega)) only [AM.RB, Nat.reduceAdd, Nat.reduceMul, Nat.reduceEqDiff, reduceCtorEq, b55_RT2]) | skip)
      rw [ha, hb] at hq
      simpa using hq
    | true =>
      (first | (simp (maxSteps := 1000000) (disch := first | omega | (simp only [AM.DB, List.length_set, List.length_map]; first | done | omega)) only [AM.RB, Nat.reduceAdd, Nat.reduceMul, Nat.reduceEqDiff, reduceCtorEq, b55_RT2]) | skip)
      rw [ha, hb] at hq
      simpa using hq
end Go.Proofs.YtgdcbjpookldoaaDoor

namespace Go.Proofs.YtgdcbjpookldoaaDoor
open Go.AM

/-! ### What is around, as the program looks for it -/
def stepA (st : List Int × List Int) (b : Int) : List Int × List Int := if b ∈ st.1 then st else (st.1 ++ [b], st.2 ++ [b])
def visA (l : List Int) (st : List Int × List Int) : List Int × List Int := l.foldl stepA st
theorem visA_succ {l : List Int} {i : Nat} (hi : i < l.length) (st : List Int × List Int) : visA (l.take (i + 1)) st = stepA (visA (l.take i) st) (l.getD i 0) := by
  unfold visA
  have e : l.getD i 0 = l[i] := by simp [List.getD, hi]
  rw [List.take_succ_eq_append_getElem hi, List.foldl_append, e]; rfl
def rndA (N : Int → List Int) (at' : List Int) (st : List Int × List Int) : List Int × List Int := at'.foldl (fun st a => visA (N a) st) st
theorem rndA_succ (N : Int → List Int) {l : List Int} {i : Nat} (hi : i < l.length) (st : List Int × List Int) : rndA N (l.take (i + 1)) st = visA (N (l.getD i 0)) (rndA N (l.take i) st) := by
  unfold rndA
  have e : l.getD i 0 = l[i] := by simp [List.getD, hi]
  rw [List.take_succ_eq_append_getElem hi, List.foldl_append, e]; rfl
/-- Keys, and those who came last, behind so many rounds. -/
def lvlA (N : Int → List Int) (r : Int) : Nat → List Int × List Int
  | 0 => ([r], [r])
  | k + 1 => rndA N (lvlA N r k).2 ((lvlA N r k).1, [])

/-- Everything reached by exactly fewer steps is a key; who came last stands at that distance. -/
theorem visA_mem {l : List Int} : ∀ {st : List Int × List Int} {x : Int}, (x ∈ (visA l st).1 ↔ x ∈ st.1 ∨ x ∈ l) ∧ (x ∈ (visA l st).2 ↔ x ∈ st.2 ∨ (x ∈ l ∧ x ∉ st.1)) := by
  induction l with
  | nil => intro st x; simp [visA]
  | cons b l ih =>
    intro st x
    have e : visA (b :: l) st = visA l (stepA st b) := rfl
    rw [e]
    obtain ⟨h1, h2⟩ := ih (st := stepA st b) (x := x)
    rw [h1, h2]
    unfold stepA
    by_cases hb : b ∈ st.1
    · rw [if_pos hb]
      constructor
      · constructor
        · rintro (h | h)
          · exact .inl h
          · exact .inr (List.mem_cons_of_mem _ h)
        · rintro (h | h)
          · exact .inl h
          · rcases List.mem_cons.1 h with rfl | h
            · exact .inl hb
            · exact .inr h
      · constructor
        · rintro (h | ⟨h, g⟩)
          · exact .inl h
          · exact .inr ⟨List.mem_cons_of_mem _ h, g⟩
        · rintro (h | ⟨h, g⟩)
          · exact .inl h
          · rcases List.mem_cons.1 h with rfl | h
            · exact absurd hb g
            · exact .inr ⟨h, g⟩
    · rw [if_neg hb]
      simp only [List.mem_append, List.mem_cons, List.not_mem_nil, or_false, not_or]
      constructor
      · constructor
        · rintro ((h | h) | h)
          · exact .inl h
          · exact .inr (.inl h)
          · exact .inr (.inr h)
        · rintro (h | h | h)
          · exact .inl (.inl h)
          · exact .inl (.inr h)
          · exact .inr h
      · constructor
        · rintro ((h | rfl) | ⟨h, g, g2⟩)
          · exact .inl h
          · exact .inr ⟨.inl rfl, hb⟩
          · exact .inr ⟨.inr h, g⟩
        · rintro (h | ⟨rfl | h, g⟩)
          · exact .inl (.inl h)
          · exact .inl (.inr rfl)
          · by_cases q : x = b
            · exact .inl (.inr q)
            · exact .inr ⟨h, g, q⟩
theorem rndA_mem (N : Int → List Int) {at' : List Int} : ∀ {st : List Int × List Int} {x : Int}, (x ∈ (rndA N at' st).1 ↔ x ∈ st.1 ∨ ∃ a ∈ at', x ∈ N a) ∧ (x ∈ (rndA N at' st).2 ↔ x ∈ st.2 ∨ ((∃ a ∈ at', x ∈ N a) ∧ x ∉ st.1)) := by
  induction at' with
  | nil => intro st x; simp [rndA]
  | cons a l ih =>
    intro st x
    have e : rndA N (a :: l) st = rndA N l (visA (N a) st) := rfl
    rw [e]
    obtain ⟨h1, h2⟩ := ih (st := visA (N a) st) (x := x)
    obtain ⟨v1, v2⟩ := visA_mem (l := N a) (st := st) (x := x)
    rw [h1, h2, v1, v2]
    constructor
    · constructor
      · rintro ((h | h) | ⟨b, hb, h⟩)
        · exact .inl h
        · exact .inr ⟨a, List.mem_cons_self .., h⟩
        · exact .inr ⟨b, List.mem_cons_of_mem _ hb, h⟩
      · rintro (h | ⟨b, hb, h⟩)
        · exact .inl (.inl h)
        · rcases List.mem_cons.1 hb with rfl | hb
          · exact .inl (.inr h)
          · exact .inr ⟨b, hb, h⟩
    · constructor
      · rintro ((h | ⟨h, g⟩) | ⟨⟨b, hb, h⟩, g⟩)
        · exact .inl h
        · exact .inr ⟨⟨a, List.mem_cons_self .., h⟩, g⟩
        · exact .inr ⟨⟨b, List.mem_cons_of_mem _ hb, h⟩, fun q => g (.inl q)⟩
      · rintro (h | ⟨⟨b, hb, h⟩, g⟩)
        · exact .inl (.inl h)
        · rcases List.mem_cons.1 hb with rfl | hb
          · exact .inl (.inr ⟨h, g⟩)
          · by_cases q : x ∈ N a
            · exact .inl (.inr ⟨q, g⟩)
            · exact .inr ⟨⟨b, hb, h⟩, fun t => t.elim g q⟩
/-- Behind k rounds: keys are those within k steps; the last ones those at k steps exactly. -/
theorem lvlA_spec (N : Int → List Int) (r : Int) : ∀ k x, (x ∈ (lvlA N r k).1 ↔ ∃ j, j ≤ k ∧ Wk N r j x) ∧ (x ∈ (lvlA N r k).2 ↔ isD N r x k)
  | 0, x => by
    have w0 : ∀ y, Wk N r 0 y ↔ y = r := fun y => by
      constructor
      · intro h
        generalize e : (0 : Nat) = z at h
        cases h with
        | zero => rfl
        | step => omega
      · rintro rfl; exact .zero
    constructor
    · rw [lvlA]; simp only [List.mem_singleton]
      exact ⟨fun h => ⟨0, Nat.le_refl _, (w0 x).2 h⟩, fun ⟨j, hj, w⟩ => (w0 x).1 (by rw [show j = 0 by omega] at w; exact w)⟩
    · rw [lvlA]; simp only [List.mem_singleton]
      exact ⟨fun h => ⟨(w0 x).2 h, fun e he => by omega⟩, fun h => (w0 x).1 h.1⟩
  | k + 1, x => by
    obtain ⟨m1, m2⟩ := rndA_mem N (at' := (lvlA N r k).2) (st := ((lvlA N r k).1, [])) (x := x)
    have ih1 := fun y => (lvlA_spec N r k y).1
    have ih2 := fun y => (lvlA_spec N r k y).2
    rw [lvlA, m1, m2]
    simp only [List.not_mem_nil, false_or]
    have st : (∃ a, a ∈ (lvlA N r k).2 ∧ x ∈ N a) → Wk N r (k + 1) x := fun ⟨a, ha, hx⟩ => .step ((ih2 a).1 ha).1 hx
    have ts : isD N r x (k + 1) → ∃ a, a ∈ (lvlA N r k).2 ∧ x ∈ N a := fun q => by
      obtain ⟨c, wc, hc⟩ := q.1.last
      exact ⟨c, (ih2 c).2 ⟨wc, fun e he w => q.2 (e + 1) (by omega) (.step w hc)⟩, hc⟩
    constructor
    · constructor
      · rintro (h | h)
        · obtain ⟨j, hj, w⟩ := (ih1 x).1 h
          exact ⟨j, by omega, w⟩
        · exact ⟨k + 1, Nat.le_refl _, st h⟩
      · rintro ⟨j, hj, w⟩
        by_cases q : ∃ i, i ≤ k ∧ Wk N r i x
        · exact .inl ((ih1 x).2 q)
        · obtain rfl : j = k + 1 := by
            by_cases t : j ≤ k
            · exact absurd ⟨j, t, w⟩ q
            · omega
          exact .inr (ts ⟨w, fun e he w' => q ⟨e, by omega, w'⟩⟩)
    · constructor
      · rintro ⟨h, g⟩
        exact ⟨st h, fun e he w => g ((ih1 x).2 ⟨e, by omega, w⟩)⟩
      · intro q
        exact ⟨ts q, fun h => by obtain ⟨j, hj, w⟩ := (ih1 x).1 h; exact q.2 j (by omega) w⟩
/-- When no one came last all is told. -/
theorem lvlA_end {N : Int → List Int} {r : Int} {k : Nat} (h : (lvlA N r k).2 = []) : ∀ m, k ≤ m → ∀ x, (x ∈ (lvlA N r k).1 ↔ ∃ j, j ≤ m ∧ Wk N r j x) := by
  intro m hm x
  rw [(lvlA_spec N r k x).1]
  constructor
  · rintro ⟨j, hj, w⟩; exact ⟨j, by omega, w⟩
  · rintro ⟨j, hj, w⟩
    obtain ⟨d, hd, q⟩ := w.least
    by_cases t : d ≤ k
    · exact ⟨d, t, q.1⟩
    · exfalso
      have key : ∀ e y, isD N r y (k + e) → False := by
        intro e
        induction e with
        | zero =>
          intro y q
          have := (lvlA_spec N r k y).2.2 q
          rw [h] at this; cases this
        | succ e ih =>
          intro y q
          obtain ⟨c, wc, hc⟩ := (show Wk N r (k + e + 1) y from q.1).last
          exact ih c ⟨wc, fun e' he w => q.2 (e' + 1) (by omega) (.step w hc)⟩
      exact key (d - k) x (by rw [show k + (d - k) = d by omega]; exact q)
end Go.Proofs.YtgdcbjpookldoaaDoor

namespace Go.Proofs.YtgdcbjpookldoaaDoor
open Go.AM
set_option maxRecDepth 8000
theorem b64_RT5 : type_of% (And.intro (@AM.bin_add) (And.intro (@AM.bin_eql) (And.intro (@AM.bin_lss) (And.intro (@AM.bin_neq) (And.intro (@AM.iaO_ok) (And.intro (AM.ia_slice el_22) (And.intro (@AM.ldO_agg) (And.intro (@AM.ldO_one) (And.intro (@AM.ld_ptr) (And.intro (AM.len_slice ul_22) (And.intro (@lk_3) (And.intro (@AM.op_binOp) (And.intro (@AM.op_indexAddr) (And.intro (@AM.op_len) (@AM.op_load))))))))))))))) := And.intro (@AM.bin_add) (And.intro (@AM.bin_eql) (And.intro (@AM.bin_lss) (And.intro (@AM.bin_neq) (And.intro (@AM.iaO_ok) (And.intro (AM.ia_slice el_22) (And.intro (@AM.ldO_agg) (And.intro (@AM.ldO_one) (And.intro (@AM.ld_ptr) (And.intro (AM.len_slice ul_22) (And.intro (@lk_3) (And.intro (@AM.op_binOp) (And.intro (@AM.op_indexAddr) (And.intro (@AM.op_len) (@AM.op_load))))))))))))))


/-! ### The document's: who is left out, what is around -/
/-- What the program's neighbours are: those that are not left out. -/
abbrev nbA (L : List (List UInt8)) (B : List Int) (f : Int) (a : Int) : List Int := keptL B f (nextL L a)
theorem nextL_in {L : List (List UInt8)} (f : Fit L) {b c : Int} (h : c ∈ nextL L b) : 0 ≤ c ∧ c < L.flatten.length := by
  have hc1 : decide (c ∈ nextL L b) = true := decide_eq_true h
  rw [edge_mem f] at hc1
  exact freeP_in (edgeL_facts hc1).2.2.2
theorem nbA_in {L : List (List UInt8)} (f : Fit L) (B : List Int) (fr : Int) : ∀ b : Int, 0 ≤ b ∧ b < L.flatten.length → ∀ c ∈ nbA L B fr b, 0 ≤ c ∧ c < L.flatten.length :=
  fun _ _ _ hc => nextL_in f (List.mem_filter.1 hc).1

abbrev slT (id n : Nat) : Value := .slice (some ⟨id, 0, none⟩) n n
theorem refOut_w {h : AHeap} {s : Value} {n : Nat} {B : List Int} (hs : Rd h 3 1 s n (B.map (.int .i64))) (hn : n ≤ 4000000) (x f : Int) {Q : VQ} (hq : Q (.bool (outB B f x)) h) : W 64 [s, .int .i64 x, .int .i64 f] h Q := by
  obtain ⟨sa, sc, rfl⟩ := hs.form
  have hl : B.length = n := by have := hs.length; rw [List.length_map] at this; omega
  refine AM.enter hp (fn := Tryd.f64) (rs := [.tmp 6]) (nt := 25) (by kernel_rfl) Tryd.func64 rfl rfl rfl (by kernel_rfl) ?_
  (first | (simp (maxSteps := 1000000) (disch := first | omega | (simp only [AM.DB, List.length_set, List.length_map]; first | done | omega)) only [AM.RB, Nat.reduceAdd, Nat.reduceMul, Nat.reduceEqDiff, reduceCtorEq, b64_RT5]) | skip)
  refine AM.loop_w hp 25 (fun i : Nat => [(0, .slice sa n sc), (1, .int .i64 x), (2, .int .i64 f), (7, .int .i64 i)])
    (fun i h' => h' = h ∧ i ≤ n ∧ outB (B.take i) f x = false) (fun i => n - i) (by kernel_rfl) 0 ?_ ?_ ?_
  · simp (maxSteps := 1000000) (disch := first | omega | (simp only [AM.DB, List.length_set, List.length_map]; first | done | omega)) only [AM.RB, Nat.reduceAdd, Nat.reduceMul, Nat.reduceEqDiff, reduceCtorEq, b64_RT5]
    first | rfl | skip
  · exact ⟨rfl, Nat.zero_le _, outB_nil f x⟩
  rintro i h1 ρ ⟨rfl, hi, ho⟩
  (first | (simp (maxSteps := 1000000) (disch := first | omega | (simp only [AM.DB, List.length_set, List.length_map]; first | done | omega)) only [AM.RB, Nat.reduceAdd, Nat.reduceMul, Nat.reduceEqDiff, reduceCtorEq, b64_RT5]) | skip)
  refine AM.condV_split (fun hlt => ?_) (fun hlt => ?_)
  · have hin : i < n := by omega
    have hs1 := outB_take (f := f) (x := x) (show i < B.length by omega)
    rw [ho, Bool.false_or] at hs1
    obtain ⟨b, hb⟩ : ∃ b, B.getD i 0 = b := ⟨_, rfl⟩
    rw [hb] at hs1
    have mem : b ∈ B := by
      rw [← hb]
      have e : B.getD i 0 = B[i]'(by omega) := by simp [List.getD, show i < B.length by omega]
      rw [e]; exact List.getElem_mem _
    by_cases c1 : b = x
    · subst c1
      by_cases c2 : b = f
      · rw [decide_eq_true c2] at hs1
        simp only [Bool.not_true, Bool.and_false] at hs1
        (first | (simp (maxSteps := 1000000) (disch := first | omega | (simp only [AM.DB, List.length_set, List.length_map]; first | done | omega)) only [AM.RB, Nat.reduceAdd, Nat.reduceMul, Nat.reduceEqDiff, reduceCtorEq, b64_RT5, hs.ia el_22, Rd.ldi hs lk_3, Int.toNat_natCast, hb, decide_eq_true c2, AM.wrap_i64]) | skip)
        refine ⟨i + 1, by omega, ?_, by omega, hs1⟩
        simp (maxSteps := 1000000) (disch := first | omega | (simp only [AM.DB, List.length_set, List.length_map]; first | done | omega)) only [AM.RB, Nat.reduceAdd, Nat.reduceMul, Nat.reduceEqDiff, reduceCtorEq, b64_RT5]
        first | rfl | skip
      · have e : outB B f b = true := by unfold outB; rw [decide_eq_true mem, decide_eq_false c2]; rfl
        rw [e] at hq
        (first | (simp (maxSteps := 1000000) (disch := first | omega | (simp only [AM.DB, List.length_set, List.length_map]; first | done | omega)) only [AM.RB, Nat.reduceAdd, Nat.reduceMul, Nat.reduceEqDiff, reduceCtorEq, b64_RT5, hs.ia el_22, Rd.ldi hs lk_3, Int.toNat_natCast, hb, decide_eq_false c2, AM.wrap_i64]) | skip)
        exact hq
    · rw [decide_eq_false (fun q => c1 q.symm), Bool.false_and] at hs1
      (first | (simp (maxSteps := 1000000) (disch := first | omega | (simp only [AM.DB, List.length_set, List.length_map]; first | done | omega)) only [AM.RB, Nat.reduceAdd, Nat.reduceMul, Nat.reduceEqDiff, reduceCtorEq, b64_RT5, hs.ia el_22, Rd.ldi hs lk_3, Int.toNat_natCast, hb, decide_eq_false c1, AM.wrap_i64]) | skip)
      refine ⟨i + 1, by omega, ?_, by omega, hs1⟩
      simp (maxSteps := 1000000) (disch := first | omega | (simp only [AM.DB, List.length_set, List.length_map]; first | done | omega)) only [AM.RB, Nat.reduceAdd, Nat.reduceMul, Nat.reduceEqDiff, reduceCtorEq, b64_RT5]
      first | rfl | skip
  · obtain rfl : i = n := by omega
    rw [List.take_of_length_le (by omega)] at ho
    rw [ho] at hq
    (first | (simp (maxSteps := 1000000) (disch := first | omega | (simp only [AM.DB, List.length_set, List.length_map]; first | done | omega)) only [AM.RB, Nat.reduceAdd, Nat.reduceMul, Nat.reduceEqDiff, reduceCtorEq, b64_RT5]) | skip)
    exact hq
end Go.Proofs.YtgdcbjpookldoaaDoor
