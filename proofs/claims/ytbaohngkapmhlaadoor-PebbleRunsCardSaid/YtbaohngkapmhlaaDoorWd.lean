/- Walks of this claim's functions, and plain laws. -/
import Derived.Test.YtbaohngkapmhlaaDoorWc
set_option linter.unusedSimpArgs false
set_option linter.unusedVariables false
namespace Go.Proofs.YtbaohngkapmhlaaDoor
open Go.AM
set_option maxRecDepth 8000
theorem b72_G20 : type_of% (And.intro (@AM.bin_eql) (And.intro (@AM.bin_gtr) (And.intro (@AM.bin_lss) (And.intro (@AM.bin_neq) (And.intro (@AM.bin_quo) (And.intro (@AM.bin_sub) (And.intro (@AM.op_binOp) (And.intro (@AM.op_call) (And.intro (@AM.op_unOp) (And.intro (@AM.un_neg) (@AM.un_not))))))))))) := And.intro (@AM.bin_eql) (And.intro (@AM.bin_gtr) (And.intro (@AM.bin_lss) (And.intro (@AM.bin_neq) (And.intro (@AM.bin_quo) (And.intro (@AM.bin_sub) (And.intro (@AM.op_binOp) (And.intro (@AM.op_call) (And.intro (@AM.op_unOp) (And.intro (@AM.un_neg) (@AM.un_not))))))))))


def edgeL (L : List (List UInt8)) (a b : Int) : Bool := decide ((0 ≤ a ∧ a < L.flatten.length) ∧ 0 ≤ b ∧ b < L.flatten.length) && edgeN L.flatten (L.getD 0 []).length a.toNat b.toNat
set_option maxHeartbeats 4000000 in
theorem refEdge_w {h : AHeap} {p : Nat} {lv : Value} {L : List (List UInt8)} {l : List UInt8} (r : Rp h p lv L) (G : Good l L) (a b : Int) {Q : VQ} (hq : Q (.bool (edgeL L a b)) h) : W 72 [pv p, .int .i64 a, .int .i64 b] h Q := by
  have hK := G.fit.k1024
  have hC := G.cols
  have g32 := G.r32
  have gc32 := G.c32
  have hbd : L.length ≤ 4000000 ∧ (L.getD 0 []).length ≤ 4000000 := by omega
  unfold edgeL at hq
  refine AM.enter hp (fn := Tryd.f72) (rs := [.tmp 6]) (nt := 80) (by kernel_rfl) Tryd.func72 rfl rfl rfl (by kernel_rfl) ?_
  (repeat' (first | (simp (maxSteps := 1000000) (disch := first | omega | (simp only [AM.DB, List.length_set, List.length_map]; first | done | omega)) only [AM.RB, Nat.reduceAdd, Nat.reduceMul, Nat.reduceEqDiff, reduceCtorEq, b72_G20]) | refine AM.drawW_fine hp (by kernel_rfl) (by kernel_rfl) (by kernel_rfl) ?_ | refine AM.opW_tied (by kernel_rfl) ?_ | refine AM.opW_untied (by kernel_rfl) ?_))
  refine refFree_w r G.rows hbd G.all a ?_
  rw [G.free]
  have hfr : ∀ i : Int, freeP L.flatten i = (decide (0 ≤ i ∧ i < L.flatten.length) && !decide (((L.flatten.getD i.toNat 0).toNat : Int) = 35)) := fun i => by
    unfold freeP kindP
    by_cases hi : 0 ≤ i ∧ i < L.flatten.length
    · rw [if_pos hi.1, show decide (((L.flatten.getD i.toNat 0).toNat : Int) = 35) = decide (L.flatten.getD i.toNat 0 = 35) from u8_lit _ 35 (by omega)]
    · rw [decide_eq_false hi]; rfl
  have hkd : ∀ i : Int, 0 ≤ i → rkind L i = L.flatten.getD i.toNat 0 := fun i hi => by rw [G.kind]; unfold kindP; rw [if_pos hi]
  cases hfa : freeP L.flatten a
  · have e : (decide ((0 ≤ a ∧ a < L.flatten.length) ∧ 0 ≤ b ∧ b < L.flatten.length) && edgeN L.flatten (L.getD 0 []).length a.toNat b.toNat) = false := by
      rw [hfr] at hfa
      unfold edgeN
      by_cases hi : 0 ≤ a ∧ a < L.flatten.length
      · rw [decide_eq_true hi, Bool.true_and] at hfa
        rw [hfa]; simp
      · rw [decide_eq_false (fun q => hi q.1)]; rfl
    rw [e] at hq
    (repeat' (first | (simp (maxSteps := 1000000) (disch := first | omega | (simp only [AM.DB, List.length_set, List.length_map]; first | done | omega)) only [AM.RB, Nat.reduceAdd, Nat.reduceMul, Nat.reduceEqDiff, reduceCtorEq, b72_G20]) | refine AM.drawW_fine hp (by kernel_rfl) (by kernel_rfl) (by kernel_rfl) ?_ | refine AM.opW_tied (by kernel_rfl) ?_ | refine AM.opW_untied (by kernel_rfl) ?_))
    exact hq
  (repeat' (first | (simp (maxSteps := 1000000) (disch := first | omega | (simp only [AM.DB, List.length_set, List.length_map]; first | done | omega)) only [AM.RB, Nat.reduceAdd, Nat.reduceMul, Nat.reduceEqDiff, reduceCtorEq, b72_G20]) | refine AM.drawW_fine hp (by kernel_rfl) (by kernel_rfl) (by kernel_rfl) ?_ | refine AM.opW_tied (by kernel_rfl) ?_ | refine AM.opW_untied (by kernel_rfl) ?_))
  refine refFree_w r G.rows hbd G.all b ?_
  rw [G.free]
  cases hfb : freeP L.flatten b
  · have e : (decide ((0 ≤ a ∧ a < L.flatten.length) ∧ 0 ≤ b ∧ b < L.flatten.length) && edgeN L.flatten (L.getD 0 []).length a.toNat b.toNat) = false := by
      rw [hfr] at hfb
      unfold edgeN
      by_cases hi : 0 ≤ b ∧ b < L.flatten.length
      · rw [decide_eq_true hi, Bool.true_and] at hfb
        rw [hfb]; simp
      · rw [decide_eq_false (fun q => hi q.2)]; rfl
    rw [e] at hq
    (repeat' (first | (simp (maxSteps := 1000000) (disch := first | omega | (simp only [AM.DB, List.length_set, List.length_map]; first | done | omega)) only [AM.RB, Nat.reduceAdd, Nat.reduceMul, Nat.reduceEqDiff, reduceCtorEq, b72_G20]) | refine AM.drawW_fine hp (by kernel_rfl) (by kernel_rfl) (by kernel_rfl) ?_ | refine AM.opW_tied (by kernel_rfl) ?_ | refine AM.opW_untied (by kernel_rfl) ?_))
    exact hq
  (repeat' (first | (simp (maxSteps := 1000000) (disch := first | omega | (simp only [AM.DB, List.length_set, List.length_map]; first | done | omega)) only [AM.RB, Nat.reduceAdd, Nat.reduceMul, Nat.reduceEqDiff, reduceCtorEq, b72_G20]) | refine AM.drawW_fine hp (by kernel_rfl) (by kernel_rfl) (by kernel_rfl) ?_ | refine AM.opW_tied (by kernel_rfl) ?_ | refine AM.opW_untied (by kernel_rfl) ?_))
  refine refFar_w r G a b ?_
  have hia := freeP_in hfa
  have hib := freeP_in hfb
  obtain ⟨na, rfl⟩ := Int.eq_ofNat_of_zero_le hia.1
  obtain ⟨nb, rfl⟩ := Int.eq_ofNat_of_zero_le hib.1
  rw [hfr, decide_eq_true hia, Bool.true_and, Int.toNat_natCast] at hfa
  rw [hfr, decide_eq_true hib, Bool.true_and, Int.toNat_natCast] at hfb
  have hfar : farL L na nb = farN (L.getD 0 []).length na nb := by unfold farL; rw [if_pos ⟨hia, hib⟩]; rfl
  rw [hfar]
  rw [decide_eq_true ⟨hia, hib⟩, Bool.true_and, Int.toNat_natCast, Int.toNat_natCast] at hq
  unfold edgeN at hq
  rw [hfa, hfb, Bool.true_and, Bool.true_and] at hq
  have hka := hkd na hia.1
  have hkb := hkd nb hib.1
  rw [Int.toNat_natCast] at hka hkb
  by_cases hf1 : farN (L.getD 0 []).length na nb = 1
  case neg =>
    rw [decide_eq_false hf1] at hq
    (repeat' (first | (simp (maxSteps := 1000000) (disch := first | omega | (simp only [AM.DB, List.length_set, List.length_map]; first | done | omega)) only [AM.RB, Nat.reduceAdd, Nat.reduceMul, Nat.reduceEqDiff, reduceCtorEq, b72_G20, decide_eq_false hf1]) | refine AM.drawW_fine hp (by kernel_rfl) (by kernel_rfl) (by kernel_rfl) ?_ | refine AM.opW_tied (by kernel_rfl) ?_ | refine AM.opW_untied (by kernel_rfl) ?_))
    simpa using hq
  rw [decide_eq_true hf1, Bool.true_and] at hq
  have hC' : ((L.getD 0 []).length : Int) ≠ 0 := by omega
  have e1 := tdiv_nat na (L.getD 0 []).length
  have e2 := tdiv_nat nb (L.getD 0 []).length
  have w1 := wrap_nat (n := na / (L.getD 0 []).length) (Nat.le_trans (Nat.div_le_self _ _) (by omega))
  have w2 := wrap_nat (n := nb / (L.getD 0 []).length) (Nat.le_trans (Nat.div_le_self _ _) (by omega))
  unfold wayOf at hq
  generalize na / (L.getD 0 []).length = x1 at *
  generalize nb / (L.getD 0 []).length = x2 at *
  obtain ⟨ka, hka'⟩ : ∃ c, L.flatten.getD na 0 = c := ⟨_, rfl⟩
  obtain ⟨kb, hkb'⟩ : ∃ c, L.flatten.getD nb 0 = c := ⟨_, rfl⟩
  rw [hka'] at hka hq
  rw [hkb'] at hkb hq
  clear hfa hfb hfr hkd hfar hka' hkb'
  by_cases c1 : (nb : Int) = (na : Int) - 1
  · by_cases c2 : (x2 : Int) = x1
    · rw [if_pos ⟨c1, by omega⟩] at hq
      (repeat' (first | (simp (maxSteps := 1000000) (disch := first | omega | (simp only [AM.DB, List.length_set, List.length_map]; first | done | omega)) only [AM.RB, Nat.reduceAdd, Nat.reduceMul, Nat.reduceEqDiff, reduceCtorEq, b72_G20, decide_eq_true hf1, AM.wrap_i64, decide_eq_true c1]) | refine AM.drawW_fine hp (by kernel_rfl) (by kernel_rfl) (by kernel_rfl) ?_ | refine AM.opW_tied (by kernel_rfl) ?_ | refine AM.opW_untied (by kernel_rfl) ?_))
      refine refCols_w r G.rows ?_
      (repeat' (first | (simp (maxSteps := 1000000) (disch := first | omega | (simp only [AM.DB, List.length_set, List.length_map]; first | done | omega)) only [AM.RB, Nat.reduceAdd, Nat.reduceMul, Nat.reduceEqDiff, reduceCtorEq, b72_G20, e2, w2]) | refine AM.drawW_fine hp (by kernel_rfl) (by kernel_rfl) (by kernel_rfl) ?_ | refine AM.opW_tied (by kernel_rfl) ?_ | refine AM.opW_untied (by kernel_rfl) ?_))
      refine refCols_w r G.rows ?_
      (repeat' (first | (simp (maxSteps := 1000000) (disch := first | omega | (simp only [AM.DB, List.length_set, List.length_map]; first | done | omega)) only [AM.RB, Nat.reduceAdd, Nat.reduceMul, Nat.reduceEqDiff, reduceCtorEq, b72_G20, e1, w1, decide_eq_true c2]) | refine AM.drawW_fine hp (by kernel_rfl) (by kernel_rfl) (by kernel_rfl) ?_ | refine AM.opW_tied (by kernel_rfl) ?_ | refine AM.opW_untied (by kernel_rfl) ?_))
      obtain ⟨u, hu⟩ : ∃ x, decide ((ka.toNat : Int) = 46) = x := ⟨_, rfl⟩
      obtain ⟨v, hv⟩ : ∃ x, decide ((ka.toNat : Int) = 60) = x := ⟨_, rfl⟩
      obtain ⟨w, hw⟩ : ∃ x, decide ((kb.toNat : Int) = 62) = x := ⟨_, rfl⟩
      have hq' : Q (.bool ((u || v) && !w)) h := by rw [← hu, ← hv, ← hw]; exact hq
      refine refKind_w r G.rows hbd G.all na ?_
      rw [hka]
      cases u
      · cases v
        · (repeat' (first | (simp (maxSteps := 1000000) (disch := first | omega | (simp only [AM.DB, List.length_set, List.length_map]; first | done | omega)) only [AM.RB, Nat.reduceAdd, Nat.reduceMul, Nat.reduceEqDiff, reduceCtorEq, b72_G20, hu, hv]) | refine AM.drawW_fine hp (by kernel_rfl) (by kernel_rfl) (by kernel_rfl) ?_ | refine AM.opW_tied (by kernel_rfl) ?_ | refine AM.opW_untied (by kernel_rfl) ?_))
          exact hq'
        · (repeat' (first | (simp (maxSteps := 1000000) (disch := first | omega | (simp only [AM.DB, List.length_set, List.length_map]; first | done | omega)) only [AM.RB, Nat.reduceAdd, Nat.reduceMul, Nat.reduceEqDiff, reduceCtorEq, b72_G20, hu, hv]) | refine AM.drawW_fine hp (by kernel_rfl) (by kernel_rfl) (by kernel_rfl) ?_ | refine AM.opW_tied (by kernel_rfl) ?_ | refine AM.opW_untied (by kernel_rfl) ?_))
          refine refKind_w r G.rows hbd G.all nb ?_
          rw [hkb]
          (repeat' (first | (simp (maxSteps := 1000000) (disch := first | omega | (simp only [AM.DB, List.length_set, List.length_map]; first | done | omega)) only [AM.RB, Nat.reduceAdd, Nat.reduceMul, Nat.reduceEqDiff, reduceCtorEq, b72_G20, hw]) | refine AM.drawW_fine hp (by kernel_rfl) (by kernel_rfl) (by kernel_rfl) ?_ | refine AM.opW_tied (by kernel_rfl) ?_ | refine AM.opW_untied (by kernel_rfl) ?_))
          exact hq'
      · (repeat' (first | (simp (maxSteps := 1000000) (disch := first | omega | (simp only [AM.DB, List.length_set, List.length_map]; first | done | omega)) only [AM.RB, Nat.reduceAdd, Nat.reduceMul, Nat.reduceEqDiff, reduceCtorEq, b72_G20, hu]) | refine AM.drawW_fine hp (by kernel_rfl) (by kernel_rfl) (by kernel_rfl) ?_ | refine AM.opW_tied (by kernel_rfl) ?_ | refine AM.opW_untied (by kernel_rfl) ?_))
        refine refKind_w r G.rows hbd G.all nb ?_
        rw [hkb]
        (repeat' (first | (simp (maxSteps := 1000000) (disch := first | omega | (simp only [AM.DB, List.length_set, List.length_map]; first | done | omega)) only [AM.RB, Nat.reduceAdd, Nat.reduceMul, Nat.reduceEqDiff, reduceCtorEq, b72_G20, hw]) | refine AM.drawW_fine hp (by kernel_rfl) (by kernel_rfl) (by kernel_rfl) ?_ | refine AM.opW_tied (by kernel_rfl) ?_ | refine AM.opW_untied (by kernel_rfl) ?_))
        exact hq'
    · have cN : ¬ ((nb : Int) = (na : Int) - 1 ∧ x2 = x1) := fun q => c2 (by omega)
      (repeat' (first | (simp (maxSteps := 1000000) (disch := first | omega | (simp only [AM.DB, List.length_set, List.length_map]; first | done | omega)) only [AM.RB, Nat.reduceAdd, Nat.reduceMul, Nat.reduceEqDiff, reduceCtorEq, b72_G20, decide_eq_true hf1, AM.wrap_i64, decide_eq_true c1]) | refine AM.drawW_fine hp (by kernel_rfl) (by kernel_rfl) (by kernel_rfl) ?_ | refine AM.opW_tied (by kernel_rfl) ?_ | refine AM.opW_untied (by kernel_rfl) ?_))
      refine refCols_w r G.rows ?_
      (repeat' (first | (simp (maxSteps := 1000000) (disch := first | omega | (simp only [AM.DB, List.length_set, List.length_map]; first | done | omega)) only [AM.RB, Nat.reduceAdd, Nat.reduceMul, Nat.reduceEqDiff, reduceCtorEq, b72_G20, e2, w2]) | refine AM.drawW_fine hp (by kernel_rfl) (by kernel_rfl) (by kernel_rfl) ?_ | refine AM.opW_tied (by kernel_rfl) ?_ | refine AM.opW_untied (by kernel_rfl) ?_))
      refine refCols_w r G.rows ?_
      (repeat' (first | (simp (maxSteps := 1000000) (disch := first | omega | (simp only [AM.DB, List.length_set, List.length_map]; first | done | omega)) only [AM.RB, Nat.reduceAdd, Nat.reduceMul, Nat.reduceEqDiff, reduceCtorEq, b72_G20, e1, w1, decide_eq_false c2]) | refine AM.drawW_fine hp (by kernel_rfl) (by kernel_rfl) (by kernel_rfl) ?_ | refine AM.opW_tied (by kernel_rfl) ?_ | refine AM.opW_untied (by kernel_rfl) ?_))
      by_cases c3 : (x2 : Int) < x1
      · rw [if_neg (fun q => cN q), if_pos (by omega)] at hq
        (repeat' (first | (simp (maxSteps := 1000000) (disch := first | omega | (simp only [AM.DB, List.length_set, List.length_map]; first | done | omega)) only [AM.RB, Nat.reduceAdd, Nat.reduceMul, Nat.reduceEqDiff, reduceCtorEq, b72_G20, decide_eq_true hf1, AM.wrap_i64]) | refine AM.drawW_fine hp (by kernel_rfl) (by kernel_rfl) (by kernel_rfl) ?_ | refine AM.opW_tied (by kernel_rfl) ?_ | refine AM.opW_untied (by kernel_rfl) ?_))
        refine refCols_w r G.rows ?_
        (repeat' (first | (simp (maxSteps := 1000000) (disch := first | omega | (simp only [AM.DB, List.length_set, List.length_map]; first | done | omega)) only [AM.RB, Nat.reduceAdd, Nat.reduceMul, Nat.reduceEqDiff, reduceCtorEq, b72_G20, e2, w2]) | refine AM.drawW_fine hp (by kernel_rfl) (by kernel_rfl) (by kernel_rfl) ?_ | refine AM.opW_tied (by kernel_rfl) ?_ | refine AM.opW_untied (by kernel_rfl) ?_))
        refine refCols_w r G.rows ?_
        (repeat' (first | (simp (maxSteps := 1000000) (disch := first | omega | (simp only [AM.DB, List.length_set, List.length_map]; first | done | omega)) only [AM.RB, Nat.reduceAdd, Nat.reduceMul, Nat.reduceEqDiff, reduceCtorEq, b72_G20, e1, w1, decide_eq_true c3]) | refine AM.drawW_fine hp (by kernel_rfl) (by kernel_rfl) (by kernel_rfl) ?_ | refine AM.opW_tied (by kernel_rfl) ?_ | refine AM.opW_untied (by kernel_rfl) ?_))
        obtain ⟨u, hu⟩ : ∃ x, decide ((ka.toNat : Int) = 46) = x := ⟨_, rfl⟩
        obtain ⟨v, hv⟩ : ∃ x, decide ((ka.toNat : Int) = 94) = x := ⟨_, rfl⟩
        obtain ⟨w, hw⟩ : ∃ x, decide ((kb.toNat : Int) = 118) = x := ⟨_, rfl⟩
        have hq' : Q (.bool ((u || v) && !w)) h := by rw [← hu, ← hv, ← hw]; exact hq
        refine refKind_w r G.rows hbd G.all na ?_
        rw [hka]
        cases u
        · cases v
          · (repeat' (first | (simp (maxSteps := 1000000) (disch := first | omega | (simp only [AM.DB, List.length_set, List.length_map]; first | done | omega)) only [AM.RB, Nat.reduceAdd, Nat.reduceMul, Nat.reduceEqDiff, reduceCtorEq, b72_G20, hu, hv]) | refine AM.drawW_fine hp (by kernel_rfl) (by kernel_rfl) (by kernel_rfl) ?_ | refine AM.opW_tied (by kernel_rfl) ?_ | refine AM.opW_untied (by kernel_rfl) ?_))
            exact hq'
          · (repeat' (first | (simp (maxSteps := 1000000) (disch := first | omega | (simp only [AM.DB, List.length_set, List.length_map]; first | done | omega)) only [AM.RB, Nat.reduceAdd, Nat.reduceMul, Nat.reduceEqDiff, reduceCtorEq, b72_G20, hu, hv]) | refine AM.drawW_fine hp (by kernel_rfl) (by kernel_rfl) (by kernel_rfl) ?_ | refine AM.opW_tied (by kernel_rfl) ?_ | refine AM.opW_untied (by kernel_rfl) ?_))
            refine refKind_w r G.rows hbd G.all nb ?_
            rw [hkb]
            (repeat' (first | (simp (maxSteps := 1000000) (disch := first | omega | (simp only [AM.DB, List.length_set, List.length_map]; first | done | omega)) only [AM.RB, Nat.reduceAdd, Nat.reduceMul, Nat.reduceEqDiff, reduceCtorEq, b72_G20, hw]) | refine AM.drawW_fine hp (by kernel_rfl) (by kernel_rfl) (by kernel_rfl) ?_ | refine AM.opW_tied (by kernel_rfl) ?_ | refine AM.opW_untied (by kernel_rfl) ?_))
            exact hq'
        · (repeat' (first | (simp (maxSteps := 1000000) (disch := first | omega | (simp only [AM.DB, List.length_set, List.length_map]; first | done | omega)) only [AM.RB, Nat.reduceAdd, Nat.reduceMul, Nat.reduceEqDiff, reduceCtorEq, b72_G20, hu]) | refine AM.drawW_fine hp (by kernel_rfl) (by kernel_rfl) (by kernel_rfl) ?_ | refine AM.opW_tied (by kernel_rfl) ?_ | refine AM.opW_untied (by kernel_rfl) ?_))
          refine refKind_w r G.rows hbd G.all nb ?_
          rw [hkb]
          (repeat' (first | (simp (maxSteps := 1000000) (disch := first | omega | (simp only [AM.DB, List.length_set, List.length_map]; first | done | omega)) only [AM.RB, Nat.reduceAdd, Nat.reduceMul, Nat.reduceEqDiff, reduceCtorEq, b72_G20, hw]) | refine AM.drawW_fine hp (by kernel_rfl) (by kernel_rfl) (by kernel_rfl) ?_ | refine AM.opW_tied (by kernel_rfl) ?_ | refine AM.opW_untied (by kernel_rfl) ?_))
          exact hq'
      · (repeat' (first | (simp (maxSteps := 1000000) (disch := first | omega | (simp only [AM.DB, List.length_set, List.length_map]; first | done | omega)) only [AM.RB, Nat.reduceAdd, Nat.reduceMul, Nat.reduceEqDiff, reduceCtorEq, b72_G20, decide_eq_true hf1, AM.wrap_i64]) | refine AM.drawW_fine hp (by kernel_rfl) (by kernel_rfl) (by kernel_rfl) ?_ | refine AM.opW_tied (by kernel_rfl) ?_ | refine AM.opW_untied (by kernel_rfl) ?_))
        refine refCols_w r G.rows ?_
        (repeat' (first | (simp (maxSteps := 1000000) (disch := first | omega | (simp only [AM.DB, List.length_set, List.length_map]; first | done | omega)) only [AM.RB, Nat.reduceAdd, Nat.reduceMul, Nat.reduceEqDiff, reduceCtorEq, b72_G20, e2, w2]) | refine AM.drawW_fine hp (by kernel_rfl) (by kernel_rfl) (by kernel_rfl) ?_ | refine AM.opW_tied (by kernel_rfl) ?_ | refine AM.opW_untied (by kernel_rfl) ?_))
        refine refCols_w r G.rows ?_
        (repeat' (first | (simp (maxSteps := 1000000) (disch := first | omega | (simp only [AM.DB, List.length_set, List.length_map]; first | done | omega)) only [AM.RB, Nat.reduceAdd, Nat.reduceMul, Nat.reduceEqDiff, reduceCtorEq, b72_G20, e1, w1, decide_eq_false c3]) | refine AM.drawW_fine hp (by kernel_rfl) (by kernel_rfl) (by kernel_rfl) ?_ | refine AM.opW_tied (by kernel_rfl) ?_ | refine AM.opW_untied (by kernel_rfl) ?_))
        refine refCols_w r G.rows ?_
        (repeat' (first | (simp (maxSteps := 1000000) (disch := first | omega | (simp only [AM.DB, List.length_set, List.length_map]; first | done | omega)) only [AM.RB, Nat.reduceAdd, Nat.reduceMul, Nat.reduceEqDiff, reduceCtorEq, b72_G20, e2, w2]) | refine AM.drawW_fine hp (by kernel_rfl) (by kernel_rfl) (by kernel_rfl) ?_ | refine AM.opW_tied (by kernel_rfl) ?_ | refine AM.opW_untied (by kernel_rfl) ?_))
        refine refCols_w r G.rows ?_
        by_cases c4 : (x1 : Int) < x2
        · rw [if_neg (fun q => cN q), if_neg (by omega), if_pos (by omega)] at hq
          (repeat' (first | (simp (maxSteps := 1000000) (disch := first | omega | (simp only [AM.DB, List.length_set, List.length_map]; first | done | omega)) only [AM.RB, Nat.reduceAdd, Nat.reduceMul, Nat.reduceEqDiff, reduceCtorEq, b72_G20, e1, w1, decide_eq_true c4]) | refine AM.drawW_fine hp (by kernel_rfl) (by kernel_rfl) (by kernel_rfl) ?_ | refine AM.opW_tied (by kernel_rfl) ?_ | refine AM.opW_untied (by kernel_rfl) ?_))
          obtain ⟨u, hu⟩ : ∃ x, decide ((ka.toNat : Int) = 46) = x := ⟨_, rfl⟩
          obtain ⟨v, hv⟩ : ∃ x, decide ((ka.toNat : Int) = 118) = x := ⟨_, rfl⟩
          obtain ⟨w, hw⟩ : ∃ x, decide ((kb.toNat : Int) = 94) = x := ⟨_, rfl⟩
          have hq' : Q (.bool ((u || v) && !w)) h := by rw [← hu, ← hv, ← hw]; exact hq
          refine refKind_w r G.rows hbd G.all na ?_
          rw [hka]
          cases u
          · cases v
            · (repeat' (first | (simp (maxSteps := 1000000) (disch := first | omega | (simp only [AM.DB, List.length_set, List.length_map]; first | done | omega)) only [AM.RB, Nat.reduceAdd, Nat.reduceMul, Nat.reduceEqDiff, reduceCtorEq, b72_G20, hu, hv]) | refine AM.drawW_fine hp (by kernel_rfl) (by kernel_rfl) (by kernel_rfl) ?_ | refine AM.opW_tied (by kernel_rfl) ?_ | refine AM.opW_untied (by kernel_rfl) ?_))
              exact hq'
            · (repeat' (first | (simp (maxSteps := 1000000) (disch := first | omega | (simp only [AM.DB, List.length_set, List.length_map]; first | done | omega)) only [AM.RB, Nat.reduceAdd, Nat.reduceMul, Nat.reduceEqDiff, reduceCtorEq, b72_G20, hu, hv]) | refine AM.drawW_fine hp (by kernel_rfl) (by kernel_rfl) (by kernel_rfl) ?_ | refine AM.opW_tied (by kernel_rfl) ?_ | refine AM.opW_untied (by kernel_rfl) ?_))
              refine refKind_w r G.rows hbd G.all nb ?_
              rw [hkb]
              (repeat' (first | (simp (maxSteps := 1000000) (disch := first | omega | (simp only [AM.DB, List.length_set, List.length_map]; first | done | omega)) only [AM.RB, Nat.reduceAdd, Nat.reduceMul, Nat.reduceEqDiff, reduceCtorEq, b72_G20, hw]) | refine AM.drawW_fine hp (by kernel_rfl) (by kernel_rfl) (by kernel_rfl) ?_ | refine AM.opW_tied (by kernel_rfl) ?_ | refine AM.opW_untied (by kernel_rfl) ?_))
              exact hq'
          · (repeat' (first | (simp (maxSteps := 1000000) (disch := first | omega | (simp only [AM.DB, List.length_set, List.length_map]; first | done | omega)) only [AM.RB, Nat.reduceAdd, Nat.reduceMul, Nat.reduceEqDiff, reduceCtorEq, b72_G20, hu]) | refine AM.drawW_fine hp (by kernel_rfl) (by kernel_rfl) (by kernel_rfl) ?_ | refine AM.opW_tied (by kernel_rfl) ?_ | refine AM.opW_untied (by kernel_rfl) ?_))
            refine refKind_w r G.rows hbd G.all nb ?_
            rw [hkb]
            (repeat' (first | (simp (maxSteps := 1000000) (disch := first | omega | (simp only [AM.DB, List.length_set, List.length_map]; first | done | omega)) only [AM.RB, Nat.reduceAdd, Nat.reduceMul, Nat.reduceEqDiff, reduceCtorEq, b72_G20, hw]) | refine AM.drawW_fine hp (by kernel_rfl) (by kernel_rfl) (by kernel_rfl) ?_ | refine AM.opW_tied (by kernel_rfl) ?_ | refine AM.opW_untied (by kernel_rfl) ?_))
            exact hq'
        · rw [if_neg (fun q => cN q), if_neg (by omega), if_neg (by omega)] at hq
          (repeat' (first | (simp (maxSteps := 1000000) (disch := first | omega | (simp only [AM.DB, List.length_set, List.length_map]; first | done | omega)) only [AM.RB, Nat.reduceAdd, Nat.reduceMul, Nat.reduceEqDiff, reduceCtorEq, b72_G20, e1, w1, decide_eq_false c4]) | refine AM.drawW_fine hp (by kernel_rfl) (by kernel_rfl) (by kernel_rfl) ?_ | refine AM.opW_tied (by kernel_rfl) ?_ | refine AM.opW_untied (by kernel_rfl) ?_))
          obtain ⟨u, hu⟩ : ∃ x, decide ((ka.toNat : Int) = 46) = x := ⟨_, rfl⟩
          obtain ⟨v, hv⟩ : ∃ x, decide ((ka.toNat : Int) = 62) = x := ⟨_, rfl⟩
          obtain ⟨w, hw⟩ : ∃ x, decide ((kb.toNat : Int) = 60) = x := ⟨_, rfl⟩
          have hq' : Q (.bool ((u || v) && !w)) h := by rw [← hu, ← hv, ← hw]; exact hq
          refine refKind_w r G.rows hbd G.all na ?_
          rw [hka]
          cases u
          · cases v
            · (repeat' (first | (simp (maxSteps := 1000000) (disch := first | omega | (simp only [AM.DB, List.length_set, List.length_map]; first | done | omega)) only [AM.RB, Nat.reduceAdd, Nat.reduceMul, Nat.reduceEqDiff, reduceCtorEq, b72_G20, hu, hv]) | refine AM.drawW_fine hp (by kernel_rfl) (by kernel_rfl) (by kernel_rfl) ?_ | refine AM.opW_tied (by kernel_rfl) ?_ | refine AM.opW_untied (by kernel_rfl) ?_))
              exact hq'
            · (repeat' (first | (simp (maxSteps := 1000000) (disch := first | omega | (simp only [AM.DB, List.length_set, List.length_map]; first | done | omega)) only [AM.RB, Nat.reduceAdd, Nat.reduceMul, Nat.reduceEqDiff, reduceCtorEq, b72_G20, hu, hv]) | refine AM.drawW_fine hp (by kernel_rfl) (by kernel_rfl) (by kernel_rfl) ?_ | refine AM.opW_tied (by kernel_rfl) ?_ | refine AM.opW_untied (by kernel_rfl) ?_))
              refine refKind_w r G.rows hbd G.all nb ?_
              rw [hkb]
              (repeat' (first | (simp (maxSteps := 1000000) (disch := first | omega | (simp only [AM.DB, List.length_set, List.length_map]; first | done | omega)) only [AM.RB, Nat.reduceAdd, Nat.reduceMul, Nat.reduceEqDiff, reduceCtorEq, b72_G20, hw]) | refine AM.drawW_fine hp (by kernel_rfl) (by kernel_rfl) (by kernel_rfl) ?_ | refine AM.opW_tied (by kernel_rfl) ?_ | refine AM.opW_untied (by kernel_rfl) ?_))
              exact hq'
          · (repeat' (first | (simp (maxSteps := 1000000) (disch := first | omega | (simp only [AM.DB, List.length_set, List.length_map]; first | done | omega)) only [AM.RB, Nat.reduceAdd, Nat.reduceMul, Nat.reduceEqDiff, reduceCtorEq, b72_G20, hu]) | refine AM.drawW_fine hp (by kernel_rfl) (by kernel_rfl) (by kernel_rfl) ?_ | refine AM.opW_tied (by kernel_rfl) ?_ | refine AM.opW_untied (by kernel_rfl) ?_))
            refine refKind_w r G.rows hbd G.all nb ?_
            rw [hkb]
            (repeat' (first | (simp (maxSteps := 1000000) (disch := first | omega | (simp only [AM.DB, List.length_set, List.length_map]; first | done | omega)) only [AM.RB, Nat.reduceAdd, Nat.reduceMul, Nat.reduceEqDiff, reduceCtorEq, b72_G20, hw]) | refine AM.drawW_fine hp (by kernel_rfl) (by kernel_rfl) (by kernel_rfl) ?_ | refine AM.opW_tied (by kernel_rfl) ?_ | refine AM.opW_untied (by kernel_rfl) ?_))
            exact hq'
  · have cN : ¬ ((nb : Int) = (na : Int) - 1 ∧ x2 = x1) := fun q => c1 q.1
    (repeat' (first | (simp (maxSteps := 1000000) (disch := first | omega | (simp only [AM.DB, List.length_set, List.length_map]; first | done | omega)) only [AM.RB, Nat.reduceAdd, Nat.reduceMul, Nat.reduceEqDiff, reduceCtorEq, b72_G20, decide_eq_true hf1, AM.wrap_i64, decide_eq_false c1]) | refine AM.drawW_fine hp (by kernel_rfl) (by kernel_rfl) (by kernel_rfl) ?_ | refine AM.opW_tied (by kernel_rfl) ?_ | refine AM.opW_untied (by kernel_rfl) ?_))
    by_cases c3 : (x2 : Int) < x1
    · rw [if_neg (fun q => cN q), if_pos (by omega)] at hq
      (repeat' (first | (simp (maxSteps := 1000000) (disch := first | omega | (simp only [AM.DB, List.length_set, List.length_map]; first | done | omega)) only [AM.RB, Nat.reduceAdd, Nat.reduceMul, Nat.reduceEqDiff, reduceCtorEq, b72_G20, decide_eq_true hf1, AM.wrap_i64]) | refine AM.drawW_fine hp (by kernel_rfl) (by kernel_rfl) (by kernel_rfl) ?_ | refine AM.opW_tied (by kernel_rfl) ?_ | refine AM.opW_untied (by kernel_rfl) ?_))
      refine refCols_w r G.rows ?_
      (repeat' (first | (simp (maxSteps := 1000000) (disch := first | omega | (simp only [AM.DB, List.length_set, List.length_map]; first | done | omega)) only [AM.RB, Nat.reduceAdd, Nat.reduceMul, Nat.reduceEqDiff, reduceCtorEq, b72_G20, e2, w2]) | refine AM.drawW_fine hp (by kernel_rfl) (by kernel_rfl) (by kernel_rfl) ?_ | refine AM.opW_tied (by kernel_rfl) ?_ | refine AM.opW_untied (by kernel_rfl) ?_))
      refine refCols_w r G.rows ?_
      (repeat' (first | (simp (maxSteps := 1000000) (disch := first | omega | (simp only [AM.DB, List.length_set, List.length_map]; first | done | omega)) only [AM.RB, Nat.reduceAdd, Nat.reduceMul, Nat.reduceEqDiff, reduceCtorEq, b72_G20, e1, w1, decide_eq_true c3]) | refine AM.drawW_fine hp (by kernel_rfl) (by kernel_rfl) (by kernel_rfl) ?_ | refine AM.opW_tied (by kernel_rfl) ?_ | refine AM.opW_untied (by kernel_rfl) ?_))
      obtain ⟨u, hu⟩ : ∃ x, decide ((ka.toNat : Int) = 46) = x := ⟨_, rfl⟩
      obtain ⟨v, hv⟩ : ∃ x, decide ((ka.toNat : Int) = 94) = x := ⟨_, rfl⟩
      obtain ⟨w, hw⟩ : ∃ x, decide ((kb.toNat : Int) = 118) = x := ⟨_, rfl⟩
      have hq' : Q (.bool ((u || v) && !w)) h := by rw [← hu, ← hv, ← hw]; exact hq
      refine refKind_w r G.rows hbd G.all na ?_
      rw [hka]
      cases u
      · cases v
        · (repeat' (first | (simp (maxSteps := 1000000) (disch := first | omega | (simp only [AM.DB, List.length_set, List.length_map]; first | done | omega)) only [AM.RB, Nat.reduceAdd, Nat.reduceMul, Nat.reduceEqDiff, reduceCtorEq, b72_G20, hu, hv]) | refine AM.drawW_fine hp (by kernel_rfl) (by kernel_rfl) (by kernel_rfl) ?_ | refine AM.opW_tied (by kernel_rfl) ?_ | refine AM.opW_untied (by kernel_rfl) ?_))
          exact hq'
        · (repeat' (first | (simp (maxSteps := 1000000) (disch := first | omega | (simp only [AM.DB, List.length_set, List.length_map]; first | done | omega)) only [AM.RB, Nat.reduceAdd, Nat.reduceMul, Nat.reduceEqDiff, reduceCtorEq, b72_G20, hu, hv]) | refine AM.drawW_fine hp (by kernel_rfl) (by kernel_rfl) (by kernel_rfl) ?_ | refine AM.opW_tied (by kernel_rfl) ?_ | refine AM.opW_untied (by kernel_rfl) ?_))
          refine refKind_w r G.rows hbd G.all nb ?_
          rw [hkb]
          (repeat' (first | (simp (maxSteps := 1000000) (disch := first | omega | (simp only [AM.DB, List.length_set, List.length_map]; first | done | omega)) only [AM.RB, Nat.reduceAdd, Nat.reduceMul, Nat.reduceEqDiff, reduceCtorEq, b72_G20, hw]) | refine AM.drawW_fine hp (by kernel_rfl) (by kernel_rfl) (by kernel_rfl) ?_ | refine AM.opW_tied (by kernel_rfl) ?_ | refine AM.opW_untied (by kernel_rfl) ?_))
          exact hq'
      · (repeat' (first | (simp (maxSteps := 1000000) (disch := first | omega | (simp only [AM.DB, List.length_set, List.length_map]; first | done | omega)) only [AM.RB, Nat.reduceAdd, Nat.reduceMul, Nat.reduceEqDiff, reduceCtorEq, b72_G20, hu]) | refine AM.drawW_fine hp (by kernel_rfl) (by kernel_rfl) (by kernel_rfl) ?_ | refine AM.opW_tied (by kernel_rfl) ?_ | refine AM.opW_untied (by kernel_rfl) ?_))
        refine refKind_w r G.rows hbd G.all nb ?_
        rw [hkb]
        (repeat' (first | (simp (maxSteps := 1000000) (disch := first | omega | (simp only [AM.DB, List.length_set, List.length_map]; first | done | omega)) only [AM.RB, Nat.reduceAdd, Nat.reduceMul, Nat.reduceEqDiff, reduceCtorEq, b72_G20, hw]) | refine AM.drawW_fine hp (by kernel_rfl) (by kernel_rfl) (by kernel_rfl) ?_ | refine AM.opW_tied (by kernel_rfl) ?_ | refine AM.opW_untied (by kernel_rfl) ?_))
        exact hq'
    · (repeat' (first | (simp (maxSteps := 1000000) (disch := first | omega | (simp only [AM.DB, List.length_set, List.length_map]; first | done | omega)) only [AM.RB, Nat.reduceAdd, Nat.reduceMul, Nat.reduceEqDiff, reduceCtorEq, b72_G20, decide_eq_true hf1, AM.wrap_i64]) | refine AM.drawW_fine hp (by kernel_rfl) (by kernel_rfl) (by kernel_rfl) ?_ | refine AM.opW_tied (by kernel_rfl) ?_ | refine AM.opW_untied (by kernel_rfl) ?_))
      refine refCols_w r G.rows ?_
      (repeat' (first | (simp (maxSteps := 1000000) (disch := first | omega | (simp only [AM.DB, List.length_set, List.length_map]; first | done | omega)) only [AM.RB, Nat.reduceAdd, Nat.reduceMul, Nat.reduceEqDiff, reduceCtorEq, b72_G20, e2, w2]) | refine AM.drawW_fine hp (by kernel_rfl) (by kernel_rfl) (by kernel_rfl) ?_ | refine AM.opW_tied (by kernel_rfl) ?_ | refine AM.opW_untied (by kernel_rfl) ?_))
      refine refCols_w r G.rows ?_
      (repeat' (first | (simp (maxSteps := 1000000) (disch := first | omega | (simp only [AM.DB, List.length_set, List.length_map]; first | done | omega)) only [AM.RB, Nat.reduceAdd, Nat.reduceMul, Nat.reduceEqDiff, reduceCtorEq, b72_G20, e1, w1, decide_eq_false c3]) | refine AM.drawW_fine hp (by kernel_rfl) (by kernel_rfl) (by kernel_rfl) ?_ | refine AM.opW_tied (by kernel_rfl) ?_ | refine AM.opW_untied (by kernel_rfl) ?_))
      refine refCols_w r G.rows ?_
      (repeat' (first | (simp (maxSteps := 1000000) (disch := first | omega | (simp only [AM.DB, List.length_set, List.length_map]; first | done | omega)) only [AM.RB, Nat.reduceAdd, Nat.reduceMul, Nat.reduceEqDiff, reduceCtorEq, b72_G20, e2, w2]) | refine AM.drawW_fine hp (by kernel_rfl) (by kernel_rfl) (by kernel_rfl) ?_ | refine AM.opW_tied (by kernel_rfl) ?_ | refine AM.opW_untied (by kernel_rfl) ?_))
      refine refCols_w r G.rows ?_
      by_cases c4 : (x1 : Int) < x2
      · rw [if_neg (fun q => cN q), if_neg (by omega), if_pos (by omega)] at hq
        (repeat' (first | (simp (maxSteps := 1000000) (disch := first | omega | (simp only [AM.DB, List.length_set, List.length_map]; first | done | omega)) only [AM.RB, Nat.reduceAdd, Nat.reduceMul, Nat.reduceEqDiff, reduceCtorEq, b72_G20, e1, w1, decide_eq_true c4]) | refine AM.drawW_fine hp (by kernel_rfl) (by kernel_rfl) (by kernel_rfl) ?_ | refine AM.opW_tied (by kernel_rfl) ?_ | refine AM.opW_untied (by kernel_rfl) ?_))
        obtain ⟨u, hu⟩ : ∃ x, decide ((ka.toNat : Int) = 46) = x := ⟨_, rfl⟩
        obtain ⟨v, hv⟩ : ∃ x, decide ((ka.toNat : Int) = 118) = x := ⟨_, rfl⟩
        obtain ⟨w, hw⟩ : ∃ x, decide ((kb.toNat : Int) = 94) = x := ⟨_, rfl⟩
        have hq' : Q (.bool ((u || v) && !w)) h := by rw [← hu, ← hv, ← hw]; exact hq
        refine refKind_w r G.rows hbd G.all na ?_
        rw [hka]
        cases u
        · cases v
          · (repeat' (first | (simp (maxSteps := 1000000) (disch := first | omega | (simp only [AM.DB, List.length_set, List.length_map]; first | done | omega)) only [AM.RB, Nat.reduceAdd, Nat.reduceMul, Nat.reduceEqDiff, reduceCtorEq, b72_G20, hu, hv]) | refine AM.drawW_fine hp (by kernel_rfl) (by kernel_rfl) (by kernel_rfl) ?_ | refine AM.opW_tied (by kernel_rfl) ?_ | refine AM.opW_untied (by kernel_rfl) ?_))
            exact hq'
          · (repeat' (first | (simp (maxSteps := 1000000) (disch := first | omega | (simp only [AM.DB, List.length_set, List.length_map]; first | done | omega)) only [AM.RB, Nat.reduceAdd, Nat.reduceMul, Nat.reduceEqDiff, reduceCtorEq, b72_G20, hu, hv]) | refine AM.drawW_fine hp (by kernel_rfl) (by kernel_rfl) (by kernel_rfl) ?_ | refine AM.opW_tied (by kernel_rfl) ?_ | refine AM.opW_untied (by kernel_rfl) ?_))
            refine refKind_w r G.rows hbd G.all nb ?_
            rw [hkb]
            (repeat' (first | (simp (maxSteps := 1000000) (disch := first | omega | (simp only [AM.DB, List.length_set, List.length_map]; first | done | omega)) only [AM.RB, Nat.reduceAdd, Nat.reduceMul, Nat.reduceEqDiff, reduceCtorEq, b72_G20, hw]) | refine AM.drawW_fine hp (by kernel_rfl) (by kernel_rfl) (by kernel_rfl) ?_ | refine AM.opW_tied (by kernel_rfl) ?_ | refine AM.opW_untied (by kernel_rfl) ?_))
            exact hq'
        · (repeat' (first | (simp (maxSteps := 1000000) (disch := first | omega | (simp only [AM.DB, List.length_set, List.length_map]; first | done | omega)) only [AM.RB, Nat.reduceAdd, Nat.reduceMul, Nat.reduceEqDiff, reduceCtorEq, b72_G20, hu]) | refine AM.drawW_fine hp (by kernel_rfl) (by kernel_rfl) (by kernel_rfl) ?_ | refine AM.opW_tied (by kernel_rfl) ?_ | refine AM.opW_untied (by kernel_rfl) ?_))
          refine refKind_w r G.rows hbd G.all nb ?_
          rw [hkb]
          (repeat' (first | (simp (maxSteps := 1000000) (disch := first | omega | (simp only [AM.DB, List.length_set, List.length_map]; first | done | omega)) only [AM.RB, Nat.reduceAdd, Nat.reduceMul, Nat.reduceEqDiff, reduceCtorEq, b72_G20, hw]) | refine AM.drawW_fine hp (by kernel_rfl) (by kernel_rfl) (by kernel_rfl) ?_ | refine AM.opW_tied (by kernel_rfl) ?_ | refine AM.opW_untied (by kernel_rfl) ?_))
          exact hq'
      · rw [if_neg (fun q => cN q), if_neg (by omega), if_neg (by omega)] at hq
        (repeat' (first | (simp (maxSteps := 1000000) (disch := first | omega | (simp only [AM.DB, List.length_set, List.length_map]; first | done | omega)) only [AM.RB, Nat.reduceAdd, Nat.reduceMul, Nat.reduceEqDiff, reduceCtorEq, b72_G20, e1, w1, decide_eq_false c4]) | refine AM.drawW_fine hp (by kernel_rfl) (by kernel_rfl) (by kernel_rfl) ?_ | refine AM.opW_tied (by kernel_rfl) ?_ | refine AM.opW_untied (by kernel_rfl) ?_))
        obtain ⟨u, hu⟩ : ∃ x, decide ((ka.toNat : Int) = 46) = x := ⟨_, rfl⟩
        obtain ⟨v, hv⟩ : ∃ x, decide ((ka.toNat : Int) = 62) = x := ⟨_, rfl⟩
        obtain ⟨w, hw⟩ : ∃ x, decide ((kb.toNat : Int) = 60) = x := ⟨_, rfl⟩
        have hq' : Q (.bool ((u || v) && !w)) h := by rw [← hu, ← hv, ← hw]; exact hq
        refine refKind_w r G.rows hbd G.all na ?_
        rw [hka]
        cases u
        · cases v
          · (repeat' (first | (simp (maxSteps := 1000000) (disch := first | omega | (simp only [AM.DB, List.length_set, List.length_map]; first | done | omega)) only [AM.RB, Nat.reduceAdd, Nat.reduceMul, Nat.reduceEqDiff, reduceCtorEq, b72_G20, hu, hv]) | refine AM.drawW_fine hp (by kernel_rfl) (by kernel_rfl) (by kernel_rfl) ?_ | refine AM.opW_tied (by kernel_rfl) ?_ | refine AM.opW_untied (by kernel_rfl) ?_))
            exact hq'
          · (repeat' (first | (simp (maxSteps := 1000000) (disch := first | omega | (simp only [AM.DB, List.length_set, List.length_map]; first | done | omega)) only [AM.RB, Nat.reduceAdd, Nat.reduceMul, Nat.reduceEqDiff, reduceCtorEq, b72_G20, hu, hv]) | refine AM.drawW_fine hp (by kernel_rfl) (by kernel_rfl) (by kernel_rfl) ?_ | refine AM.opW_tied (by kernel_rfl) ?_ | refine AM.opW_untied (by kernel_rfl) ?_))
            refine refKind_w r G.rows hbd G.all nb ?_
            rw [hkb]
            (repeat' (first | (simp (maxSteps := 1000000) (disch := first | omega | (simp only [AM.DB, List.length_set, List.length_map]; first | done | omega)) only [AM.RB, Nat.reduceAdd, Nat.reduceMul, Nat.reduceEqDiff, reduceCtorEq, b72_G20, hw]) | refine AM.drawW_fine hp (by kernel_rfl) (by kernel_rfl) (by kernel_rfl) ?_ | refine AM.opW_tied (by kernel_rfl) ?_ | refine AM.opW_untied (by kernel_rfl) ?_))
            exact hq'
        · (repeat' (first | (simp (maxSteps := 1000000) (disch := first | omega | (simp only [AM.DB, List.length_set, List.length_map]; first | done | omega)) only [AM.RB, Nat.reduceAdd, Nat.reduceMul, Nat.reduceEqDiff, reduceCtorEq, b72_G20, hu]) | refine AM.drawW_fine hp (by kernel_rfl) (by kernel_rfl) (by kernel_rfl) ?_ | refine AM.opW_tied (by kernel_rfl) ?_ | refine AM.opW_untied (by kernel_rfl) ?_))
          refine refKind_w r G.rows hbd G.all nb ?_
          rw [hkb]
          (repeat' (first | (simp (maxSteps := 1000000) (disch := first | omega | (simp only [AM.DB, List.length_set, List.length_map]; first | done | omega)) only [AM.RB, Nat.reduceAdd, Nat.reduceMul, Nat.reduceEqDiff, reduceCtorEq, b72_G20, hw]) | refine AM.drawW_fine hp (by kernel_rfl) (by kernel_rfl) (by kernel_rfl) ?_ | refine AM.opW_tied (by kernel_rfl) ?_ | refine AM.opW_untied (by kernel_rfl) ?_))
          exact hq'

/-! ### Lists of the document's -/
def nxt (L : List (List UInt8)) (a : Int) (n : Nat) : List Int := ((List.range n).filter fun (b : Nat) => edgeL L a b).map fun (b : Nat) => (b : Int)
theorem nxt_eq {L : List (List UInt8)} (f : Fit L) (a : Int) : nxt L a L.flatten.length = nextL L a := by
  rw [nextL_eq f]
  unfold nxt
  split
  · rename_i h
    congr 1
    apply List.filter_congr
    intro b hb
    have := List.mem_range.1 hb
    unfold edgeL
    rw [decide_eq_true ⟨h, by omega, by omega⟩, Bool.true_and, Int.toNat_natCast]
  · rename_i h
    rw [List.map_eq_nil_iff, List.filter_eq_nil_iff]
    intro b _
    unfold edgeL
    rw [decide_eq_false (fun q => h q.1)]; simp
theorem edge_mem {L : List (List UInt8)} (f : Fit L) (a b : Int) : decide (b ∈ nextL L a) = edgeL L a b := by
  rw [← nxt_eq f]
  unfold nxt
  cases he : edgeL L a b with
  | true =>
    have h := he
    unfold edgeL at h
    rw [Bool.and_eq_true, decide_eq_true_eq] at h
    obtain ⟨⟨_, h1, h2⟩, _⟩ := h
    obtain ⟨n, rfl⟩ := Int.eq_ofNat_of_zero_le h1
    exact decide_eq_true (List.mem_map.2 ⟨n, List.mem_filter.2 ⟨List.mem_range.2 (by omega), he⟩, rfl⟩)
  | false =>
    refine decide_eq_false fun q => ?_
    obtain ⟨n, hn, rfl⟩ := List.mem_map.1 q
    rw [(List.mem_filter.1 hn).2] at he; cases he


end Go.Proofs.YtbaohngkapmhlaaDoor

namespace Go.Proofs.YtbaohngkapmhlaaDoor
open Go.AM

theorem Mt.start {h : AHeap} {p : Nat} {kv : Value} {L : List (List UInt8)} (m : Mp h p kv L.length (L.getD 0 []).length L.flatten tl0) : Mt h p L (fun id => id = p ∨ idOf kv id) :=
  ⟨kv, fun id q => .inr q, .inl rfl, fun id q => q.elim (fun e => by rw [e]; exact AM.get_some_lt m.1) (fun q => m.2.1.lt q), .inl m⟩
/-- What the laws keep of a map between calls. -/
structure Keep (h0 h : AHeap) (p : Nat) (L : List (List UInt8)) (S : Nat → Prop) : Prop where
  mt : Mt h p L S
  low : h.low = h0.low
  next : h0.next ≤ h.next
  ways : h.get GW = some (.cells waysC 166 false)

end Go.Proofs.YtbaohngkapmhlaaDoor

namespace Go.Proofs.YtbaohngkapmhlaaDoor
open Go.AM

/-! ### Laws of edges -/
end Go.Proofs.YtbaohngkapmhlaaDoor

namespace Go.Proofs.YtbaohngkapmhlaaDoor
open Go.AM

/-! ### States, and steps: plain -/
abbrev St := List Int × List Int
abbrev Sp := Int × Int × Int
theorem getD_set (l : List Int) (i j : Nat) (v : Int) : (l.set i v).getD j 0 = if i = j ∧ j < l.length then v else l.getD j 0 := by
  rw [List.getD, List.getD, List.getElem?_set]
  by_cases e : i = j
  · subst e
    by_cases h : i < l.length
    · rw [if_pos rfl, if_pos h, if_pos ⟨rfl, h⟩]; rfl
    · rw [if_pos rfl, if_neg h, if_neg (fun q => h q.2), List.getElem?_eq_none (by omega)]
  · rw [if_neg e, if_neg (fun q => e q.1)]
def hoOk (K : List UInt8) (m : Nat) (h : Int) (cell : Nat) : Bool := decide (h = -1) || (decide (0 ≤ h) && decide (h < m) && freeP K cell)
def atOk (K : List UInt8) (ho : List Int) (r : Nat) (c : Int) : Bool := freeP K c && decide (ho.getD c.toNat 0 = r)
/-- May a state be? -/
def chk (K : List UInt8) (s : St) : Bool := decide (1 ≤ s.1.length) && decide (s.1.length ≤ 64) && decide (s.2.length = K.length) && ((List.range K.length).all fun c => hoOk K s.1.length (s.2.getD c 0) c) && ((List.range s.1.length).all fun r => atOk K s.2 r (s.1.getD r 0))
structure Chk (K : List UInt8) (s : St) : Prop where
  l1 : 1 ≤ s.1.length
  l64 : s.1.length ≤ 64
  ln : s.2.length = K.length
  hos : ∀ c, c < K.length → s.2.getD c 0 = -1 ∨ ((0 ≤ s.2.getD c 0 ∧ s.2.getD c 0 < s.1.length) ∧ freeP K c = true)
  ats : ∀ r, r < s.1.length → freeP K (s.1.getD r 0) = true ∧ s.2.getD (s.1.getD r 0).toNat 0 = r
theorem hoOk_iff (K : List UInt8) (m : Nat) (h : Int) (c : Nat) : hoOk K m h c = true ↔ (h = -1 ∨ ((0 ≤ h ∧ h < m) ∧ freeP K c = true)) := by
  unfold hoOk
  rw [Bool.or_eq_true, Bool.and_eq_true, Bool.and_eq_true, decide_eq_true_eq, decide_eq_true_eq, decide_eq_true_eq]
theorem atOk_iff (K : List UInt8) (ho : List Int) (r : Nat) (c : Int) : atOk K ho r c = true ↔ (freeP K c = true ∧ ho.getD c.toNat 0 = r) := by
  unfold atOk
  rw [Bool.and_eq_true, decide_eq_true_eq]
theorem chk_iff (K : List UInt8) (s : St) : chk K s = true ↔ Chk K s := by
  unfold chk
  rw [Bool.and_eq_true, Bool.and_eq_true, Bool.and_eq_true, Bool.and_eq_true, decide_eq_true_eq, decide_eq_true_eq, decide_eq_true_eq, List.all_eq_true, List.all_eq_true]
  constructor
  · rintro ⟨⟨⟨⟨h1, h2⟩, h3⟩, h4⟩, h5⟩
    exact ⟨h1, h2, h3, fun c hc => (hoOk_iff _ _ _ _).1 (h4 c (List.mem_range.2 hc)), fun r hr => (atOk_iff _ _ _ _).1 (h5 r (List.mem_range.2 hr))⟩
  · rintro ⟨h1, h2, h3, h4, h5⟩
    exact ⟨⟨⟨⟨h1, h2⟩, h3⟩, fun c hc => (hoOk_iff _ _ _ _).2 (h4 c (List.mem_range.1 hc))⟩, fun r hr => (atOk_iff _ _ _ _).2 (h5 r (List.mem_range.1 hr))⟩
/-- May a step be? -/
def may (L : List (List UInt8)) (s : St) (x : Sp) : Bool :=
  if x.1 = 0 then decide (x.2.1 = 0) && decide (x.2.2 = 0) else
    decide (0 ≤ x.2.1) && decide (x.2.1 < s.1.length) && freeP L.flatten x.2.2 &&
    (if x.1 = 1 then decide (s.2.getD x.2.2.toNat 0 = -1)
     else if x.1 = 2 then decide (s.2.getD x.2.2.toNat 0 = x.2.1) && !decide (s.1.getD x.2.1.toNat 0 = x.2.2)
     else if x.1 = 3 then decide (s.2.getD x.2.2.toNat 0 = x.2.1) && edgeL L (s.1.getD x.2.1.toNat 0) x.2.2
     else false)
/-- What a step makes of a state. -/
def turnS (s : St) (x : Sp) : St :=
  if x.1 = 1 then (s.1, s.2.set x.2.2.toNat x.2.1) else if x.1 = 2 then (s.1, s.2.set x.2.2.toNat (-1)) else if x.1 = 3 then (s.1.set x.2.1.toNat x.2.2, s.2) else s
theorem turnS_len (s : St) (x : Sp) : (turnS s x).1.length = s.1.length ∧ (turnS s x).2.length = s.2.length := by
  unfold turnS
  split
  · exact ⟨rfl, by simp⟩
  · split
    · exact ⟨rfl, by simp⟩
    · split
      · exact ⟨by simp, rfl⟩
      · exact ⟨rfl, rfl⟩
/-- A step that may be, of a state that may be. -/
inductive May (L : List (List UInt8)) (s : St) : Sp → Prop where
  | none : May L s (0, 0, 0)
  | grant (r c : Nat) : r < s.1.length → freeP L.flatten c = true → c < L.flatten.length → s.2.getD c 0 = -1 → May L s (1, r, c)
  | release (r c : Nat) : r < s.1.length → freeP L.flatten c = true → c < L.flatten.length → s.2.getD c 0 = r → s.1.getD r 0 ≠ c → May L s (2, r, c)
  | move (r c : Nat) : r < s.1.length → freeP L.flatten c = true → c < L.flatten.length → s.2.getD c 0 = r → edgeL L (s.1.getD r 0) c = true → May L s (3, r, c)
theorem may_iff (L : List (List UInt8)) (s : St) (x : Sp) : may L s x = true ↔ May L s x := by
  obtain ⟨k, r, c⟩ := x
  constructor
  · intro h
    unfold may at h
    simp only at h
    split at h
    · rename_i hk
      subst hk
      rw [Bool.and_eq_true, decide_eq_true_eq, decide_eq_true_eq] at h
      obtain ⟨rfl, rfl⟩ := h
      exact .none
    · rw [Bool.and_eq_true, Bool.and_eq_true, Bool.and_eq_true, decide_eq_true_eq, decide_eq_true_eq] at h
      obtain ⟨⟨⟨h1, h2⟩, h3⟩, h4⟩ := h
      obtain ⟨c1, c2⟩ := freeP_in h3
      obtain ⟨r, rfl⟩ := Int.eq_ofNat_of_zero_le h1
      obtain ⟨c, rfl⟩ := Int.eq_ofNat_of_zero_le c1
      rw [Int.toNat_natCast, Int.toNat_natCast] at h4
      split at h4
      · rename_i hk; subst hk
        exact .grant r c (by omega) h3 (by omega) (of_decide_eq_true h4)
      · split at h4
        · rename_i hk; subst hk
          rw [Bool.and_eq_true, decide_eq_true_eq, Bool.not_eq_true', decide_eq_false_iff_not] at h4
          exact .release r c (by omega) h3 (by omega) h4.1 h4.2
        · split at h4
          · rename_i hk; subst hk
            rw [Bool.and_eq_true, decide_eq_true_eq] at h4
            exact .move r c (by omega) h3 (by omega) h4.1 h4.2
          · cases h4
  · rintro (_ | ⟨r, c, h1, h2, h3, h4⟩ | ⟨r, c, h1, h2, h3, h4, h5⟩ | ⟨r, c, h1, h2, h3, h4, h5⟩)
    · rfl
    all_goals (
      unfold may
      simp only [Int.toNat_natCast]
      rw [if_neg (by decide), decide_eq_true (show (0 : Int) ≤ (r : Int) by omega), decide_eq_true (show (r : Int) < (s.1.length : Int) by omega), h2])
    · rw [if_pos trivial, decide_eq_true h4]; rfl
    · rw [if_neg (by decide), if_pos trivial, decide_eq_true h4, decide_eq_false h5]; rfl
    · rw [if_neg (by decide), if_neg (by decide), if_pos trivial, decide_eq_true h4, h5]; rfl
theorem turnS_1 (s : St) (r c : Nat) : turnS s (1, (r : Int), (c : Int)) = (s.1, s.2.set c r) := rfl
theorem turnS_2 (s : St) (r c : Nat) : turnS s (2, (r : Int), (c : Int)) = (s.1, s.2.set c (-1)) := rfl
theorem turnS_3 (s : St) (r c : Nat) : turnS s (3, (r : Int), (c : Int)) = (s.1.set r c, s.2) := rfl
/-- Who is in a cell holds it: no two robots are in one. -/
theorem Chk.apart {K : List UInt8} {s : St} (q : Chk K s) {r t : Nat} (hr : r < s.1.length) (ht : t < s.1.length) (h : s.1.getD r 0 = s.1.getD t 0) : r = t := by
  have h1 := (q.ats r hr).2
  have h2 := (q.ats t ht).2
  rw [h] at h1
  omega
theorem Chk.cell {K : List UInt8} {s : St} (q : Chk K s) {r : Nat} (hr : r < s.1.length) : ∃ c : Nat, s.1.getD r 0 = c ∧ c < K.length ∧ freeP K c = true ∧ s.2.getD c 0 = r := by
  obtain ⟨h1, h2⟩ := q.ats r hr
  obtain ⟨c1, c2⟩ := freeP_in h1
  obtain ⟨c, hc⟩ := Int.eq_ofNat_of_zero_le c1
  rw [hc] at h1 h2 c2
  exact ⟨c, hc, by omega, h1, by rwa [Int.toNat_natCast] at h2⟩
/-- A step that may be leads to a state that may be. -/
theorem Chk.turn {L : List (List UInt8)} {s : St} {x : Sp} (q : Chk L.flatten s) (m : May L s x) : Chk L.flatten (turnS s x) := by
  cases m with
  | none => exact q
  | grant r c hr hf hc hh =>
    rw [turnS_1]
    refine ⟨q.l1, q.l64, by simpa using q.ln, fun d hd => ?_, fun t ht => ?_⟩
    · rw [getD_set]
      split
      · rename_i e
        obtain ⟨rfl, _⟩ := e
        exact .inr ⟨⟨by omega, by simpa using hr⟩, hf⟩
      · exact q.hos d hd
    · obtain ⟨d, e1, e2, e3, e4⟩ := q.cell ht
      refine ⟨(q.ats t ht).1, ?_⟩
      show (s.2.set c r).getD (s.1.getD t 0).toNat 0 = t
      rw [e1, Int.toNat_natCast, getD_set, if_neg, e4]
      rintro ⟨rfl, _⟩
      omega
  | release r c hr hf hc hh hn =>
    rw [turnS_2]
    refine ⟨q.l1, q.l64, by simpa using q.ln, fun d hd => ?_, fun t ht => ?_⟩
    · rw [getD_set]
      split
      · exact .inl rfl
      · exact q.hos d hd
    · obtain ⟨d, e1, e2, e3, e4⟩ := q.cell ht
      refine ⟨(q.ats t ht).1, ?_⟩
      show (s.2.set c (-1)).getD (s.1.getD t 0).toNat 0 = t
      rw [e1, Int.toNat_natCast, getD_set, if_neg, e4]
      rintro ⟨rfl, _⟩
      have : t = r := by omega
      subst this
      exact hn e1
  | move r c hr hf hc hh he =>
    rw [turnS_3]
    refine ⟨by simpa using q.l1, by simpa using q.l64, q.ln, fun d hd => ?_, fun t ht => ?_⟩
    · show s.2.getD d 0 = -1 ∨ ((0 ≤ s.2.getD d 0 ∧ s.2.getD d 0 < (s.1.set r c).length) ∧ freeP L.flatten d = true)
      rw [List.length_set]
      exact q.hos d hd
    · have ht : t < s.1.length := by simpa using ht
      show freeP L.flatten ((s.1.set r c).getD t 0) = true ∧ s.2.getD ((s.1.set r c).getD t 0).toNat 0 = t
      rw [getD_set]
      split
      · rename_i e
        obtain ⟨rfl, _⟩ := e
        rw [Int.toNat_natCast]
        exact ⟨hf, hh⟩
      · exact q.ats t ht

/-! ### Undone, and in either order -/
end Go.Proofs.YtbaohngkapmhlaaDoor

namespace Go.Proofs.YtbaohngkapmhlaaDoor
open Go.AM

/-! ### The first state -/
def hR (P : List Int) (c : Int) : Nat → Int
  | 0 => -1
  | k + 1 => if P.getD k 0 = c then k else hR P c k
def refHo (K : List UInt8) (P : List Int) : List Int := (List.range K.length).map fun (c : Nat) => hR P c P.length
def hoS (n : Nat) (P : List Int) : Nat → List Int
  | 0 => List.replicate n (-1)
  | k + 1 => (hoS n P k).set (P.getD k 0).toNat k
theorem hoS_len (n : Nat) (P : List Int) : ∀ k, (hoS n P k).length = n
  | 0 => List.length_replicate
  | k + 1 => by rw [hoS, List.length_set, hoS_len n P k]
theorem hoS_at {K : List UInt8} {P : List Int} : ∀ k, (∀ j, j < k → freeP K (P.getD j 0) = true) → ∀ c, c < K.length → (hoS K.length P k).getD c 0 = hR P c k
  | 0, _, c, hc => by
    rw [hoS, hR, List.getD, List.getElem?_replicate, if_pos hc]; rfl
  | k + 1, hf, c, hc => by
    have ih := hoS_at k (fun j hj => hf j (by omega)) c hc
    obtain ⟨c1, c2⟩ := freeP_in (hf k (by omega))
    rw [hoS, hR, getD_set, hoS_len, ih]
    by_cases e : P.getD k 0 = c
    · rw [if_pos e, if_pos ⟨by omega, hc⟩]
    · rw [if_neg e, if_neg (fun q => e (by omega))]
theorem hoS_ref {K : List UInt8} {P : List Int} (hf : ∀ j, j < P.length → freeP K (P.getD j 0) = true) : hoS K.length P P.length = refHo K P := by
  unfold refHo
  apply List.ext_getElem
  · rw [hoS_len]; simp
  · intro c h1 h2
    rw [hoS_len] at h1
    have := hoS_at P.length hf c h1
    have e : (hoS K.length P P.length).getD c 0 = (hoS K.length P P.length)[c]'(by rw [hoS_len]; exact h1) := by simp [List.getD, hoS_len, h1]
    rw [e] at this
    rw [this]
    simp
theorem hR_no {P : List Int} {c : Int} : ∀ k, hR P c k ≠ -1 → ∃ j, j < k ∧ P.getD j 0 = c
  | 0, h => absurd rfl h
  | k + 1, h => by
    rw [hR] at h
    by_cases e : P.getD k 0 = c
    · exact ⟨k, by omega, e⟩
    · rw [if_neg e] at h
      obtain ⟨j, hj, e⟩ := hR_no k h
      exact ⟨j, by omega, e⟩
def startS (K : List UInt8) (P : List Int) : St := (P, refHo K P)
theorem start_free {K : List UInt8} {P : List Int} {k : Nat} (hk : k < P.length) (h : freeP K (P.getD k 0) = false) : chk K (startS K P) = false := by
  cases hc : chk K (startS K P) with
  | false => rfl
  | true =>
    have := (((chk_iff _ _).1 hc).ats k hk).1
    rw [show (startS K P).1.getD k 0 = P.getD k 0 from rfl, h] at this
    cases this
theorem start_dup {K : List UInt8} {P : List Int} {k : Nat} (hk : k < P.length) (hf : ∀ j, j < k → freeP K (P.getD j 0) = true) (hk2 : freeP K (P.getD k 0) = true) (h : (hoS K.length P k).getD (P.getD k 0).toNat 0 ≠ -1) : chk K (startS K P) = false := by
  cases hc : chk K (startS K P) with
  | false => rfl
  | true =>
    obtain ⟨c1, c2⟩ := freeP_in hk2
    rw [hoS_at k hf _ (by omega)] at h
    obtain ⟨j, hj, e⟩ := hR_no k h
    have := ((chk_iff _ _).1 hc).apart (r := j) (t := k) (by show j < P.length; omega) hk (by show P.getD j 0 = P.getD k 0; omega)
    omega

/-! ### Where lists part -/
/-! ### The step between two states -/
/-! ### All steps that may be -/
end Go.Proofs.YtbaohngkapmhlaaDoor

namespace Go.Proofs.YtbaohngkapmhlaaDoor
open Go.AM

/-! ### A text out of rows -/
/-- Rows that are a map's. -/
structure Rows' (L : List (List UInt8)) (C : Nat) : Prop where
  c0 : 0 < C
  c32 : C ≤ 32
  all : ∀ T ∈ L, T.length = C
  cell : ∀ T ∈ L, ∀ c ∈ T, cellB c = true
end Go.Proofs.YtbaohngkapmhlaaDoor

namespace Go.Proofs.YtbaohngkapmhlaaDoor
open Go.AM

/-! ### Walls below, walls above -/
abbrev wallR (C : Nat) : List UInt8 := List.replicate C 35
end Go.Proofs.YtbaohngkapmhlaaDoor

namespace Go.Proofs.YtbaohngkapmhlaaDoor
open Go.AM

abbrev colsL (L : List (List UInt8)) : Nat := (L.getD 0 []).length
theorem Good.any {l : List UInt8} {L : List (List UInt8)} (g : Good l L) : L.any freeL = true := by
  rw [← any_flat]; exact (allP_any _).1 g.some
def below (L : List (List UInt8)) : List (List UInt8) := L ++ [wallR (colsL L)]
def above (L : List (List UInt8)) : List (List UInt8) := wallR (colsL L) :: L
end Go.Proofs.YtbaohngkapmhlaaDoor

namespace Go.Proofs.YtbaohngkapmhlaaDoor
open Go.AM

/-! ### Several maps at once -/
/-- A map in memory that owns none of some others. -/
def Mk (h : AHeap) (p : Nat) (L : List (List UInt8)) (B : Nat → Prop) : Prop := (∃ S, Mt h p L S ∧ ∀ id, B id → ¬ S id) ∧ ∀ id, B id → id < h.next
theorem Mk.mp {h : AHeap} {p : Nat} {L : List (List UInt8)} {B : Nat → Prop} (m : Mk h p L B) : ∃ kv tl, Mp h p kv L.length (L.getD 0 []).length L.flatten tl := by
  obtain ⟨⟨S, m, _⟩, _⟩ := m
  exact m.mp
theorem Mk.lt {h : AHeap} {p : Nat} {L : List (List UInt8)} {B : Nat → Prop} (m : Mk h p L B) : p < h.next := by
  obtain ⟨⟨S, m, _⟩, _⟩ := m
  exact m.lt m.self
theorem Mk.frB {h h' : AHeap} {p : Nat} {L : List (List UInt8)} {B T : Nat → Prop} (m : Mk h p L B) (fr : Fr T h h') (hT : ∀ id, T id → B id) : Mk h' p L B := by
  obtain ⟨⟨S, m, hB⟩, hb⟩ := m
  have hn := fr.next
  exact ⟨⟨S, m.fr fr fun id q1 q2 => hB id (hT id q2) q1, hB⟩, fun id q => Nat.lt_of_lt_of_le (hb id q) hn⟩
theorem Mk.fr0 {h h' : AHeap} {p : Nat} {L : List (List UInt8)} {B : Nat → Prop} (m : Mk h p L B) (fr : Fr none' h h') : Mk h' p L B := m.frB fr fun _ q => q.elim
theorem Mk.grow {h h' : AHeap} {p : Nat} {L : List (List UInt8)} {B S S' : Nat → Prop} (hB : ∀ id, B id → ¬ S id) (hb : ∀ id, B id → id < h.next) (m' : Mt h' p L S') (hS : ∀ id, S' id → S id ∨ h.next ≤ id) (hn : h.next ≤ h'.next) : Mk h' p L B := by
  refine ⟨⟨S', m', fun id q1 q2 => ?_⟩, fun id q => Nat.lt_of_lt_of_le (hb id q) hn⟩
  have := hb id q1
  rcases hS id q2 with q | q
  · exact hB id q1 q
  · omega
theorem edgeK_w {h : AHeap} {p : Nat} {L : List (List UInt8)} {B : Nat → Prop} (m : Mk h p L B) (f : Fit L) (hw : h.get GW = some (.cells waysC 166 false)) (hgl : GW < h.low) (hl : h.low ≤ h.next) (a b : Int) {Q : VQ}
    (hq : ∀ h', Mk h' p L B → Fr (fun id => id = p) h h' → Q (.bool (edgeL L a b)) h') : W 19 [pv p, .int .i64 a, .int .i64 b] h Q := by
  obtain ⟨⟨S, m, hB⟩, hb⟩ := m
  exact edge_w m f hw hgl hl a b fun h' S' m' hS' fr => by rw [edge_mem f]; exact hq h' (Mk.grow hB hb m' hS' fr.next) fr
/-- A map that was just read. -/
theorem Mk.start {h h0 : AHeap} {p : Nat} {kv : Value} {L : List (List UInt8)} {B : Nat → Prop} (m : Mp h p kv L.length (L.getD 0 []).length L.flatten tl0) (hp' : h0.next ≤ p) (hid : ∀ id, idOf kv id → h0.next ≤ id) (hn : h0.next ≤ h.next) (hB : ∀ id, B id → id < h0.next) : Mk h p L B :=
  ⟨⟨_, Mt.start m, fun id q1 q2 => by
    have := hB id q1
    rcases q2 with rfl | q2
    · omega
    · have := hid id q2; omega⟩, fun id q => Nat.lt_of_lt_of_le (hB id q) hn⟩
/-- Later ones are none of its own. -/
theorem Mk.more {h : AHeap} {p : Nat} {L : List (List UInt8)} {B C : Nat → Prop} (m : Mk h p L B) {h' : AHeap} (fr : Fr none' h h') (hC : ∀ id, C id → B id ∨ (h.next ≤ id ∧ id < h'.next)) : Mk h' p L C := by
  obtain ⟨⟨S, m, hB⟩, hb⟩ := m
  have hn := fr.next
  refine ⟨⟨S, m.fr0 fr, fun id q1 q2 => ?_⟩, fun id q => ?_⟩
  · rcases hC id q1 with q | q
    · exact hB id q q2
    · have := m.lt q2; omega
  · rcases hC id q with q | q
    · exact Nat.lt_of_lt_of_le (hb id q) hn
    · exact q.2

end Go.Proofs.YtbaohngkapmhlaaDoor

namespace Go.Proofs.YtbaohngkapmhlaaDoor
open Go.AM
set_option maxRecDepth 8000
theorem b81_PC1 : type_of% (And.intro (@Option.isNone_none.{0}) (And.intro (@Option.isNone_some.{0}) (And.intro (@AM.bin_eql) (And.intro (AM.bin_pnil ul_26) (And.intro (@AM.op_binOp) (@AM.op_call)))))) := And.intro (@Option.isNone_none.{0}) (And.intro (@Option.isNone_some.{0}) (And.intro (@AM.bin_eql) (And.intro (AM.bin_pnil ul_26) (And.intro (@AM.op_binOp) (@AM.op_call)))))
theorem b82_PC1 : type_of% (And.intro (@AM.bin_geq) (And.intro (@AM.bin_lss) (And.intro (@AM.fa_ptr) (And.intro (@fd_59_0) (And.intro (@AM.ldO_agg) (And.intro (@AM.ldO_one) (And.intro (@AM.ld_ptr) (And.intro (AM.len_slice ul_22) (And.intro (@lk_22) (And.intro (@AM.op_binOp) (And.intro (@AM.op_fieldAddr) (And.intro (@AM.op_len) (@AM.op_load))))))))))))) := And.intro (@AM.bin_geq) (And.intro (@AM.bin_lss) (And.intro (@AM.fa_ptr) (And.intro (@fd_59_0) (And.intro (@AM.ldO_agg) (And.intro (@AM.ldO_one) (And.intro (@AM.ld_ptr) (And.intro (AM.len_slice ul_22) (And.intro (@lk_22) (And.intro (@AM.op_binOp) (And.intro (@AM.op_fieldAddr) (And.intro (@AM.op_len) (@AM.op_load))))))))))))
theorem b39_PC1 : type_of% (And.intro (@List.map_toArray.{0,0}) (And.intro (@AM.bin_add) (And.intro (@AM.bin_gtr) (And.intro (@AM.bin_lss) (And.intro (@AM.bin_neq) (And.intro (@AM.boxK_agg) (And.intro (@AM.boxK_bool) (And.intro (@AM.boxK_func) (And.intro (@AM.boxK_int) (And.intro (@AM.boxK_map) (And.intro (@AM.boxK_pointer) (And.intro (@AM.boxK_slice) (And.intro (@AM.boxK_string) (And.intro (@AM.fa_ptr) (And.intro (@fd_59_0) (And.intro (@fd_59_1) (And.intro (@AM.iaO_ok) (And.intro (AM.ia_slice el_22) (And.intro (@AM.ldO_agg) (And.intro (@AM.ldO_one) (And.intro (@AM.ld_ptr) (And.intro (AM.len_slice ul_22) (And.intro (@lk_22) (And.intro (@lk_3) (And.intro (@AM.op_binOp) (And.intro (@AM.op_box) (And.intro (@AM.op_call) (And.intro (@AM.op_fieldAddr) (And.intro (@AM.op_indexAddr) (And.intro (@AM.op_len) (And.intro (@AM.op_load) (And.intro (@AM.op_makeFunc) (And.intro (@AM.op_unOp) (And.intro (@AM.un_neg) (@AM.un_not))))))))))))))))))))))))))))))))))) := And.intro (@List.map_toArray.{0,0}) (And.intro (@AM.bin_add) (And.intro (@AM.bin_gtr) (And.intro (@AM.bin_lss) (And.intro (@AM.bin_neq) (And.intro (@AM.boxK_agg) (And.intro (@AM.boxK_bool) (And.intro (@AM.boxK_func) (And.intro (@AM.boxK_int) (And.intro (@AM.boxK_map) (And.intro (@AM.boxK_pointer) (And.intro (@AM.boxK_slice) (And.intro (@AM.boxK_string) (And.intro (@AM.fa_ptr) (And.intro (@fd_59_0) (And.intro (@fd_59_1) (And.intro (@AM.iaO_ok) (And.intro (AM.ia_slice el_22) (And.intro (@AM.ldO_agg) (And.intro (@AM.ldO_one) (And.intro (@AM.ld_ptr) (And.intro (AM.len_slice ul_22) (And.intro (@lk_22) (And.intro (@lk_3) (And.intro (@AM.op_binOp) (And.intro (@AM.op_box) (And.intro (@AM.op_call) (And.intro (@AM.op_fieldAddr) (And.intro (@AM.op_indexAddr) (And.intro (@AM.op_len) (And.intro (@AM.op_load) (And.intro (@AM.op_makeFunc) (And.intro (@AM.op_unOp) (And.intro (@AM.un_neg) (@AM.un_not))))))))))))))))))))))))))))))))))


/-- A state: a struct of two slices. -/
def StR (h : AHeap) (v : Value) (s : St) : Prop := ∃ a b, v = .agg #[a, b] ∧ Rd h 3 1 a s.1.length (s.1.map (.int .i64)) ∧ Rd h 3 1 b s.2.length (s.2.map (.int .i64))
theorem StR.fr0 {h h' : AHeap} {v : Value} {s : St} (x : StR h v s) (fr : Fr none' h h') : StR h' v s := by
  obtain ⟨a, b, rfl, ra, rb⟩ := x
  exact ⟨a, b, rfl, ra.fr0 fr, rb.fr0 fr⟩
theorem pnone_w {h : AHeap} {p : Nat} {kv : Value} {tl : List Value} {L : List (List UInt8)} (m : Mp h p kv L.length (L.getD 0 []).length L.flatten tl) (f : Fit L) {Q : VQ} (hq : Q (.bool false) h) : W 81 [pv p] h Q := by
  have hK := f.k1024
  have hbd : L.length ≤ 4000000 ∧ (L.getD 0 []).length ≤ 4000000 := by have := f.r32; have := f.c32; omega
  have hpos : 0 < L.length * (L.getD 0 []).length := Nat.mul_pos f.rows f.cols
  have d0 : decide (((L.length * (L.getD 0 []).length : Nat) : Int) = 0) = false := decide_eq_false (by omega)
  refine AM.enter hp (fn := Tryd.f81) (rs := [.tmp 2]) (nt := 10) (by kernel_rfl) Tryd.func81 rfl rfl rfl (by kernel_rfl) ?_
  (first | (simp (maxSteps := 1000000) (disch := first | omega | (simp only [AM.DB, List.length_set, List.length_map]; first | done | omega)) only [AM.RB, Nat.reduceAdd, Nat.reduceMul, Nat.reduceEqDiff, reduceCtorEq, b81_PC1]) | skip)
  refine cells_w m f.rows hbd _ ?_
  (first | (simp (maxSteps := 1000000) (disch := first | omega | (simp only [AM.DB, List.length_set, List.length_map]; first | done | omega)) only [AM.RB, Nat.reduceAdd, Nat.reduceMul, Nat.reduceEqDiff, reduceCtorEq, b81_PC1, d0]) | skip)
  exact hq
theorem robot_w {h : AHeap} {q : Nat} {a b : Value} {n : Nat} {cs : List Value} (g : h.get q = some (.cells [a, b] 59 false)) (ra : Rd h 3 1 a n cs) (x : Int) {Q : VQ} (hq : Q (.bool (decide (0 ≤ x) && decide (x < n))) h) : CallW Tryd.prog prims (.func (.func 82) #[] #[pv q]) [.int .i64 x] h Q := by
  obtain ⟨aa, ac, rfl⟩ := ra.form
  refine AM.enter hp (fn := Tryd.f82) (rs := [.tmp 3]) (nt := 13) (by kernel_rfl) Tryd.func82 rfl rfl rfl (by kernel_rfl) ?_
  (first | (simp (maxSteps := 1000000) (disch := first | omega | (simp only [AM.DB, List.length_set, List.length_map]; first | done | omega)) only [AM.RB, Nat.reduceAdd, Nat.reduceMul, Nat.reduceEqDiff, reduceCtorEq, b82_PC1]) | skip)
  by_cases h0 : 0 ≤ x
  · rw [decide_eq_true h0, Bool.true_and] at hq
    (first | (simp (maxSteps := 1000000) (disch := first | omega | (simp only [AM.DB, List.length_set, List.length_map]; first | done | omega)) only [AM.RB, Nat.reduceAdd, Nat.reduceMul, Nat.reduceEqDiff, reduceCtorEq, b82_PC1, decide_eq_true h0, g]) | skip)
    exact hq
  · rw [decide_eq_false h0, Bool.false_and] at hq
    (first | (simp (maxSteps := 1000000) (disch := first | omega | (simp only [AM.DB, List.length_set, List.length_map]; first | done | omega)) only [AM.RB, Nat.reduceAdd, Nat.reduceMul, Nat.reduceEqDiff, reduceCtorEq, b82_PC1, decide_eq_false h0]) | skip)
    exact hq
theorem all_range_false {p : Nat → Bool} {n i : Nat} (hi : i < n) (h : p i = false) : (List.range n).all p = false := by
  rw [List.all_eq_false]
  exact ⟨i, List.mem_range.2 hi, by rw [h]; simp⟩
theorem all_range_true {p : Nat → Bool} {n : Nat} (h : ∀ i, i < n → p i = true) : (List.range n).all p = true :=
  List.all_eq_true.2 fun i hi => h i (List.mem_range.1 hi)
set_option maxHeartbeats 4000000 in
theorem check_w {h : AHeap} {p : Nat} {kv : Value} {tl : List Value} {L : List (List UInt8)} {v : Value} {s : St} (m : Mp h p kv L.length (L.getD 0 []).length L.flatten tl) (f : Fit L) (hs : StR h v s) (hl : h.low ≤ h.next) {Q : VQ}
    (hq : ∀ h', Fr none' h h' → Q (.int .i64 (if chk L.flatten s = true then 0 else 250)) h') : W 39 [pv p, v] h Q := by
  obtain ⟨a, b, rfl, ra, rb⟩ := hs
  obtain ⟨aa, ac, rfl⟩ := ra.form
  obtain ⟨ba, bc, rfl⟩ := rb.form
  have hK := f.k1024
  have flen := f.len
  have hbd : L.length ≤ 4000000 ∧ (L.getD 0 []).length ≤ 4000000 := by have := f.r32; have := f.c32; omega
  have sa1 : (s.1.map (Value.int .i64)).length = s.1.length := List.length_map _
  refine AM.enter hp (fn := Tryd.f39) (rs := [.tmp 4]) (nt := 76) (by kernel_rfl) Tryd.func39 rfl rfl rfl (by kernel_rfl) ?_
  simp (maxSteps := 1000000) (disch := first | omega | (simp only [AM.DB, List.length_set, List.length_map]; first | done | omega)) only [AM.RB, Nat.reduceAdd, Nat.reduceMul, Nat.reduceEqDiff, reduceCtorEq, b39_PC1]
  generalize hE_ : AHeap.alloc h _ = h1; obtain ⟨g1, fr1, n1, l1⟩ := AM.new_get hE_; clear hE_
  have m1 := m.fr0 fr1
  have ra1 := ra.fr0 fr1
  have rb1 := rb.fr0 fr1
  (repeat' (first | (simp (maxSteps := 1000000) (disch := first | omega | (simp only [AM.DB, List.length_set, List.length_map]; first | done | omega)) only [AM.RB, Nat.reduceAdd, Nat.reduceMul, Nat.reduceEqDiff, reduceCtorEq, b39_PC1]) | refine AM.drawW_loose (id := 3) hp (by kernel_rfl) (by kernel_rfl) ?_ | refine AM.opW_tied (by kernel_rfl) ?_ | refine AM.opW_untied (by kernel_rfl) ?_))
  refine pnone_w m1 f ?_
  by_cases c1 : (s.1.length : Int) < 1
  · have e : chk L.flatten s = false := by unfold chk; rw [decide_eq_false (show ¬ 1 ≤ s.1.length by omega)]; rfl
    rw [e] at hq
    (repeat' (first | (simp (maxSteps := 1000000) (disch := first | omega | (simp only [AM.DB, List.length_set, List.length_map]; first | done | omega)) only [AM.RB, Nat.reduceAdd, Nat.reduceMul, Nat.reduceEqDiff, reduceCtorEq, b39_PC1, g1, decide_eq_true c1]) | refine AM.drawW_loose (id := 3) hp (by kernel_rfl) (by kernel_rfl) ?_ | refine AM.opW_tied (by kernel_rfl) ?_ | refine AM.opW_untied (by kernel_rfl) ?_))
    refine ⟨AM.looseOk_by [(12, [0, 16]), (13, [0, 16])] (by kernel_rfl) ?_, ?_⟩
    · simp (maxSteps := 1000000) (disch := first | omega | (simp only [AM.DB, List.length_set, List.length_map]; first | done | omega)) only [AM.RB, Nat.reduceAdd, Nat.reduceMul, Nat.reduceEqDiff, reduceCtorEq, b39_PC1]
    exact hq _ fr1
  by_cases c2 : (64 : Int) < s.1.length
  · have e : chk L.flatten s = false := by unfold chk; rw [decide_eq_false (show ¬ s.1.length ≤ 64 by omega), Bool.and_false]; rfl
    rw [e] at hq
    (repeat' (first | (simp (maxSteps := 1000000) (disch := first | omega | (simp only [AM.DB, List.length_set, List.length_map]; first | done | omega)) only [AM.RB, Nat.reduceAdd, Nat.reduceMul, Nat.reduceEqDiff, reduceCtorEq, b39_PC1, g1, decide_eq_false c1, decide_eq_true c2]) | refine AM.drawW_loose (id := 3) hp (by kernel_rfl) (by kernel_rfl) ?_ | refine AM.opW_tied (by kernel_rfl) ?_ | refine AM.opW_untied (by kernel_rfl) ?_))
    refine ⟨AM.looseOk_by [(12, [0, 16]), (13, [0, 16])] (by kernel_rfl) ?_, ?_⟩
    · simp (maxSteps := 1000000) (disch := first | omega | (simp only [AM.DB, List.length_set, List.length_map]; first | done | omega)) only [AM.RB, Nat.reduceAdd, Nat.reduceMul, Nat.reduceEqDiff, reduceCtorEq, b39_PC1]
    exact hq _ fr1
  (repeat' (first | (simp (maxSteps := 1000000) (disch := first | omega | (simp only [AM.DB, List.length_set, List.length_map]; first | done | omega)) only [AM.RB, Nat.reduceAdd, Nat.reduceMul, Nat.reduceEqDiff, reduceCtorEq, b39_PC1, g1, decide_eq_false c1, decide_eq_false c2]) | refine AM.drawW_loose (id := 3) hp (by kernel_rfl) (by kernel_rfl) ?_ | refine AM.opW_tied (by kernel_rfl) ?_ | refine AM.opW_untied (by kernel_rfl) ?_))
  refine cells_w m1 f.rows hbd _ ?_
  by_cases c3 : (s.2.length : Int) = (L.length * (L.getD 0 []).length : Nat)
  case neg =>
    have e : chk L.flatten s = false := by unfold chk; rw [decide_eq_false (show ¬ s.2.length = L.flatten.length by omega), Bool.and_false]; rfl
    rw [e] at hq
    (repeat' (first | (simp (maxSteps := 1000000) (disch := first | omega | (simp only [AM.DB, List.length_set, List.length_map]; first | done | omega)) only [AM.RB, Nat.reduceAdd, Nat.reduceMul, Nat.reduceEqDiff, reduceCtorEq, b39_PC1, g1, decide_eq_false c3]) | refine AM.drawW_loose (id := 3) hp (by kernel_rfl) (by kernel_rfl) ?_ | refine AM.opW_tied (by kernel_rfl) ?_ | refine AM.opW_untied (by kernel_rfl) ?_))
    refine ⟨AM.looseOk_by [(12, [0, 16]), (13, [0, 16])] (by kernel_rfl) ?_, ?_⟩
    · simp (maxSteps := 1000000) (disch := first | omega | (simp only [AM.DB, List.length_set, List.length_map]; first | done | omega)) only [AM.RB, Nat.reduceAdd, Nat.reduceMul, Nat.reduceEqDiff, reduceCtorEq, b39_PC1]
      (repeat' apply And.intro) <;> (first | (refine AM.stable_len _ _ _ _ _ _ (fun _ => ?_); (simp (maxSteps := 1000000) (disch := first | omega | (simp only [AM.DB, List.length_set, List.length_map]; first | done | omega)) only [AM.RB, Nat.reduceAdd, Nat.reduceMul, Nat.reduceEqDiff, reduceCtorEq, b39_PC1, g1])) | (refine AM.stable_load _ _ _ _ _ _ ?_; (first | (simp (maxSteps := 1000000) (disch := first | omega | (simp only [AM.DB, List.length_set, List.length_map]; first | done | omega)) only [AM.RB, Nat.reduceAdd, Nat.reduceMul, Nat.reduceEqDiff, reduceCtorEq, b39_PC1, g1]) | skip); (first | (refine AM.stabL_int (by omega) ?_; (simp (maxSteps := 1000000) (disch := first | omega | (simp only [AM.DB, List.length_set, List.length_map]; first | done | omega)) only [AM.RB, Nat.reduceAdd, Nat.reduceMul, Nat.reduceEqDiff, reduceCtorEq, b39_PC1, g1])) | (refine AM.stabL_ptr (by omega) (by omega) ?_; (simp (maxSteps := 1000000) (disch := first | omega | (simp only [AM.DB, List.length_set, List.length_map]; first | done | omega)) only [AM.RB, Nat.reduceAdd, Nat.reduceMul, Nat.reduceEqDiff, reduceCtorEq, b39_PC1, g1])) | (refine AM.stabL_string (by omega) ?_; (simp (maxSteps := 1000000) (disch := first | omega | (simp only [AM.DB, List.length_set, List.length_map]; first | done | omega)) only [AM.RB, Nat.reduceAdd, Nat.reduceMul, Nat.reduceEqDiff, reduceCtorEq, b39_PC1, g1])) | (refine AM.stabL_bool (by omega) ?_; (simp (maxSteps := 1000000) (disch := first | omega | (simp only [AM.DB, List.length_set, List.length_map]; first | done | omega)) only [AM.RB, Nat.reduceAdd, Nat.reduceMul, Nat.reduceEqDiff, reduceCtorEq, b39_PC1, g1])) | (refine AM.stabL_rd rb1 (by omega) (by omega) ?_; (simp (maxSteps := 1000000) (disch := first | omega | (simp only [AM.DB, List.length_set, List.length_map]; first | done | omega)) only [AM.RB, Nat.reduceAdd, Nat.reduceMul, Nat.reduceEqDiff, reduceCtorEq, b39_PC1, g1])) | (refine AM.stabL_rd ra1 (by omega) (by omega) ?_; (simp (maxSteps := 1000000) (disch := first | omega | (simp only [AM.DB, List.length_set, List.length_map]; first | done | omega)) only [AM.RB, Nat.reduceAdd, Nat.reduceMul, Nat.reduceEqDiff, reduceCtorEq, b39_PC1, g1])) | (refine AM.stabL_elS rb1 (by omega) (by omega) ?_; (simp (maxSteps := 1000000) (disch := first | omega | (simp only [AM.DB, List.length_set, List.length_map]; first | done | omega)) only [AM.RB, Nat.reduceAdd, Nat.reduceMul, Nat.reduceEqDiff, reduceCtorEq, b39_PC1, g1])) | (refine AM.stabL_elI rb1 (by omega) (by omega) ?_; (simp (maxSteps := 1000000) (disch := first | omega | (simp only [AM.DB, List.length_set, List.length_map]; first | done | omega)) only [AM.RB, Nat.reduceAdd, Nat.reduceMul, Nat.reduceEqDiff, reduceCtorEq, b39_PC1, g1])) | (refine AM.stabL_elS ra1 (by omega) (by omega) ?_; (simp (maxSteps := 1000000) (disch := first | omega | (simp only [AM.DB, List.length_set, List.length_map]; first | done | omega)) only [AM.RB, Nat.reduceAdd, Nat.reduceMul, Nat.reduceEqDiff, reduceCtorEq, b39_PC1, g1])) | (refine AM.stabL_elI ra1 (by omega) (by omega) ?_; (simp (maxSteps := 1000000) (disch := first | omega | (simp only [AM.DB, List.length_set, List.length_map]; first | done | omega)) only [AM.RB, Nat.reduceAdd, Nat.reduceMul, Nat.reduceEqDiff, reduceCtorEq, b39_PC1, g1])))))
    exact hq _ fr1
  have hn : s.2.length = L.flatten.length := by omega
  have k1 : decide (1 ≤ s.1.length) = true := decide_eq_true (by omega)
  have k2 : decide (s.1.length ≤ 64) = true := decide_eq_true (by omega)
  have k3 : decide (s.2.length = L.flatten.length) = true := decide_eq_true hn
  have hchk : chk L.flatten s = (((List.range L.flatten.length).all fun c => hoOk L.flatten s.1.length (s.2.getD c 0) c) && ((List.range s.1.length).all fun r => atOk L.flatten s.2 r (s.1.getD r 0))) := by
    unfold chk
    rw [k1, k2, k3]; simp
  rw [hchk] at hq
  (repeat' (first | (simp (maxSteps := 1000000) (disch := first | omega | (simp only [AM.DB, List.length_set, List.length_map]; first | done | omega)) only [AM.RB, Nat.reduceAdd, Nat.reduceMul, Nat.reduceEqDiff, reduceCtorEq, b39_PC1, g1, decide_eq_true c3]) | refine AM.drawW_loose (id := 3) hp (by kernel_rfl) (by kernel_rfl) ?_ | refine AM.opW_tied (by kernel_rfl) ?_ | refine AM.opW_untied (by kernel_rfl) ?_))
  refine ⟨AM.looseOk_by [(12, [0, 16]), (13, [0, 16])] (by kernel_rfl) ?_, ?_⟩
  · simp (maxSteps := 1000000) (disch := first | omega | (simp only [AM.DB, List.length_set, List.length_map]; first | done | omega)) only [AM.RB, Nat.reduceAdd, Nat.reduceMul, Nat.reduceEqDiff, reduceCtorEq, b39_PC1]
    (repeat' apply And.intro) <;> (first | (refine AM.stable_len _ _ _ _ _ _ (fun _ => ?_); (simp (maxSteps := 1000000) (disch := first | omega | (simp only [AM.DB, List.length_set, List.length_map]; first | done | omega)) only [AM.RB, Nat.reduceAdd, Nat.reduceMul, Nat.reduceEqDiff, reduceCtorEq, b39_PC1, g1])) | (refine AM.stable_load _ _ _ _ _ _ ?_; (first | (simp (maxSteps := 1000000) (disch := first | omega | (simp only [AM.DB, List.length_set, List.length_map]; first | done | omega)) only [AM.RB, Nat.reduceAdd, Nat.reduceMul, Nat.reduceEqDiff, reduceCtorEq, b39_PC1, g1]) | skip); (first | (refine AM.stabL_int (by omega) ?_; (simp (maxSteps := 1000000) (disch := first | omega | (simp only [AM.DB, List.length_set, List.length_map]; first | done | omega)) only [AM.RB, Nat.reduceAdd, Nat.reduceMul, Nat.reduceEqDiff, reduceCtorEq, b39_PC1, g1])) | (refine AM.stabL_ptr (by omega) (by omega) ?_; (simp (maxSteps := 1000000) (disch := first | omega | (simp only [AM.DB, List.length_set, List.length_map]; first | done | omega)) only [AM.RB, Nat.reduceAdd, Nat.reduceMul, Nat.reduceEqDiff, reduceCtorEq, b39_PC1, g1])) | (refine AM.stabL_string (by omega) ?_; (simp (maxSteps := 1000000) (disch := first | omega | (simp only [AM.DB, List.length_set, List.length_map]; first | done | omega)) only [AM.RB, Nat.reduceAdd, Nat.reduceMul, Nat.reduceEqDiff, reduceCtorEq, b39_PC1, g1])) | (refine AM.stabL_bool (by omega) ?_; (simp (maxSteps := 1000000) (disch := first | omega | (simp only [AM.DB, List.length_set, List.length_map]; first | done | omega)) only [AM.RB, Nat.reduceAdd, Nat.reduceMul, Nat.reduceEqDiff, reduceCtorEq, b39_PC1, g1])) | (refine AM.stabL_rd rb1 (by omega) (by omega) ?_; (simp (maxSteps := 1000000) (disch := first | omega | (simp only [AM.DB, List.length_set, List.length_map]; first | done | omega)) only [AM.RB, Nat.reduceAdd, Nat.reduceMul, Nat.reduceEqDiff, reduceCtorEq, b39_PC1, g1])) | (refine AM.stabL_rd ra1 (by omega) (by omega) ?_; (simp (maxSteps := 1000000) (disch := first | omega | (simp only [AM.DB, List.length_set, List.length_map]; first | done | omega)) only [AM.RB, Nat.reduceAdd, Nat.reduceMul, Nat.reduceEqDiff, reduceCtorEq, b39_PC1, g1])) | (refine AM.stabL_elS rb1 (by omega) (by omega) ?_; (simp (maxSteps := 1000000) (disch := first | omega | (simp only [AM.DB, List.length_set, List.length_map]; first | done | omega)) only [AM.RB, Nat.reduceAdd, Nat.reduceMul, Nat.reduceEqDiff, reduceCtorEq, b39_PC1, g1])) | (refine AM.stabL_elI rb1 (by omega) (by omega) ?_; (simp (maxSteps := 1000000) (disch := first | omega | (simp only [AM.DB, List.length_set, List.length_map]; first | done | omega)) only [AM.RB, Nat.reduceAdd, Nat.reduceMul, Nat.reduceEqDiff, reduceCtorEq, b39_PC1, g1])) | (refine AM.stabL_elS ra1 (by omega) (by omega) ?_; (simp (maxSteps := 1000000) (disch := first | omega | (simp only [AM.DB, List.length_set, List.length_map]; first | done | omega)) only [AM.RB, Nat.reduceAdd, Nat.reduceMul, Nat.reduceEqDiff, reduceCtorEq, b39_PC1, g1])) | (refine AM.stabL_elI ra1 (by omega) (by omega) ?_; (simp (maxSteps := 1000000) (disch := first | omega | (simp only [AM.DB, List.length_set, List.length_map]; first | done | omega)) only [AM.RB, Nat.reduceAdd, Nat.reduceMul, Nat.reduceEqDiff, reduceCtorEq, b39_PC1, g1])))))
  refine AM.loop_w hp 76 (fun i : Nat => [(0, pv p), (3, pv h.next), (5, .func (.func 82) #[] #[pv h.next]), (32, .slice ba s.2.length bc), (33, .int .i64 s.2.length), (34, .int .i64 i)])
    (fun i h' => i ≤ s.2.length ∧ Fr none' h1 h' ∧ ∀ c, c < i → hoOk L.flatten s.1.length (s.2.getD c 0) c = true) (fun i => s.2.length - i) (by kernel_rfl) 0 ?_ ?_ ?_
  · simp (maxSteps := 1000000) (disch := first | omega | (simp only [AM.DB, List.length_set, List.length_map]; first | done | omega)) only [AM.RB, Nat.reduceAdd, Nat.reduceMul, Nat.reduceEqDiff, reduceCtorEq, b39_PC1]
    first | rfl | skip
  · exact ⟨Nat.zero_le _, Fr.refl _ _, fun c hc => by omega⟩
  rintro i h2 ρ ⟨hi, fr2, hall⟩
  have m2 := m1.fr0 fr2
  have ra2 := ra1.fr0 fr2
  have rb2 := rb1.fr0 fr2
  have g2 := g1.fr0 fr2
  simp (maxSteps := 1000000) (disch := first | omega | (simp only [AM.DB, List.length_set, List.length_map]; first | done | omega)) only [AM.RB, Nat.reduceAdd, Nat.reduceMul, Nat.reduceEqDiff, reduceCtorEq, b39_PC1]
  refine AM.condV_split (fun hlt => ?_) (fun hlt => ?_)
  · have hil : i < s.2.length := by omega
    obtain ⟨x, hx⟩ : ∃ x, s.2.getD i 0 = x := ⟨_, rfl⟩
    have hnext : hoOk L.flatten s.1.length x i = true → ∀ c, c < i + 1 → hoOk L.flatten s.1.length (s.2.getD c 0) c = true := fun q c hc => by
      by_cases e : c = i
      · subst e; rw [hx]; exact q
      · exact hall c (by omega)
    have hbad : hoOk L.flatten s.1.length x i = false → ((List.range L.flatten.length).all fun c => hoOk L.flatten s.1.length (s.2.getD c 0) c) = false := fun q => all_range_false (i := i) (by omega) (by rw [hx]; exact q)
    by_cases x1 : x = -1
    · have ok : hoOk L.flatten s.1.length x i = true := by unfold hoOk; rw [decide_eq_true x1]; rfl
      (repeat' (first | (simp (maxSteps := 1000000) (disch := first | omega | (simp only [AM.DB, List.length_set, List.length_map]; first | done | omega)) only [AM.RB, Nat.reduceAdd, Nat.reduceMul, Nat.reduceEqDiff, reduceCtorEq, b39_PC1, rb2.ia el_22, Rd.ldi rb2 lk_3, Int.toNat_natCast, hx, decide_eq_true x1, AM.wrap_i64]) | refine AM.drawW_loose (id := 3) hp (by kernel_rfl) (by kernel_rfl) ?_ | refine AM.opW_tied (by kernel_rfl) ?_ | refine AM.opW_untied (by kernel_rfl) ?_))
      exact ⟨i + 1, by omega, congrArg _ (by omega), by omega, fr2, hnext ok⟩
    (repeat' (first | (simp (maxSteps := 1000000) (disch := first | omega | (simp only [AM.DB, List.length_set, List.length_map]; first | done | omega)) only [AM.RB, Nat.reduceAdd, Nat.reduceMul, Nat.reduceEqDiff, reduceCtorEq, b39_PC1, rb2.ia el_22, Rd.ldi rb2 lk_3, Int.toNat_natCast, hx, decide_eq_false x1]) | refine AM.drawW_loose (id := 3) hp (by kernel_rfl) (by kernel_rfl) ?_ | refine AM.opW_tied (by kernel_rfl) ?_ | refine AM.opW_untied (by kernel_rfl) ?_))
    refine robot_w g2 ra2 x ?_
    have hok : hoOk L.flatten s.1.length x i = ((decide (0 ≤ x) && decide (x < s.1.length)) && freeP L.flatten i) := by unfold hoOk; rw [decide_eq_false x1]; rfl
    cases c4 : (decide (0 ≤ x) && decide (x < (s.1.length : Int)))
    · have bad := hbad (by rw [hok, c4]; rfl)
      rw [bad] at hq
      (repeat' (first | (simp (maxSteps := 1000000) (disch := first | omega | (simp only [AM.DB, List.length_set, List.length_map]; first | done | omega)) only [AM.RB, Nat.reduceAdd, Nat.reduceMul, Nat.reduceEqDiff, reduceCtorEq, b39_PC1]) | refine AM.drawW_loose (id := 3) hp (by kernel_rfl) (by kernel_rfl) ?_ | refine AM.opW_tied (by kernel_rfl) ?_ | refine AM.opW_untied (by kernel_rfl) ?_))
      exact hq _ (fr1.trans fr2)
    · (repeat' (first | (simp (maxSteps := 1000000) (disch := first | omega | (simp only [AM.DB, List.length_set, List.length_map]; first | done | omega)) only [AM.RB, Nat.reduceAdd, Nat.reduceMul, Nat.reduceEqDiff, reduceCtorEq, b39_PC1]) | refine AM.drawW_loose (id := 3) hp (by kernel_rfl) (by kernel_rfl) ?_ | refine AM.opW_tied (by kernel_rfl) ?_ | refine AM.opW_untied (by kernel_rfl) ?_))
      refine free_w m2 f.rows i _ ?_
      cases c5 : freeP L.flatten (i : Int)
      · have bad := hbad (by rw [hok, c5, Bool.and_false])
        rw [bad] at hq
        (repeat' (first | (simp (maxSteps := 1000000) (disch := first | omega | (simp only [AM.DB, List.length_set, List.length_map]; first | done | omega)) only [AM.RB, Nat.reduceAdd, Nat.reduceMul, Nat.reduceEqDiff, reduceCtorEq, b39_PC1]) | refine AM.drawW_loose (id := 3) hp (by kernel_rfl) (by kernel_rfl) ?_ | refine AM.opW_tied (by kernel_rfl) ?_ | refine AM.opW_untied (by kernel_rfl) ?_))
        exact hq _ (fr1.trans fr2)
      · (repeat' (first | (simp (maxSteps := 1000000) (disch := first | omega | (simp only [AM.DB, List.length_set, List.length_map]; first | done | omega)) only [AM.RB, Nat.reduceAdd, Nat.reduceMul, Nat.reduceEqDiff, reduceCtorEq, b39_PC1, AM.wrap_i64]) | refine AM.drawW_loose (id := 3) hp (by kernel_rfl) (by kernel_rfl) ?_ | refine AM.opW_tied (by kernel_rfl) ?_ | refine AM.opW_untied (by kernel_rfl) ?_))
        exact ⟨i + 1, by omega, congrArg _ (by omega), by omega, fr2, hnext (by rw [hok, c4, c5]; rfl)⟩
  have ei : i = s.2.length := by omega
  have ho : ((List.range L.flatten.length).all fun c => hoOk L.flatten s.1.length (s.2.getD c 0) c) = true := all_range_true fun c hc => hall c (by omega)
  rw [ho, Bool.true_and] at hq
  (repeat' (first | (simp (maxSteps := 1000000) (disch := first | omega | (simp only [AM.DB, List.length_set, List.length_map]; first | done | omega)) only [AM.RB, Nat.reduceAdd, Nat.reduceMul, Nat.reduceEqDiff, reduceCtorEq, b39_PC1, g2]) | refine AM.drawW_loose (id := 3) hp (by kernel_rfl) (by kernel_rfl) ?_ | refine AM.opW_tied (by kernel_rfl) ?_ | refine AM.opW_untied (by kernel_rfl) ?_))
  refine AM.loop_w hp 76 (fun i : Nat => [(0, pv p), (3, pv h.next), (55, .slice aa s.1.length ac), (56, .int .i64 s.1.length), (57, .int .i64 i)])
    (fun i h' => i ≤ s.1.length ∧ h' = h2 ∧ ∀ r, r < i → atOk L.flatten s.2 r (s.1.getD r 0) = true) (fun i => s.1.length - i) (by kernel_rfl) 0 ?_ ?_ ?_
  · simp (maxSteps := 1000000) (disch := first | omega | (simp only [AM.DB, List.length_set, List.length_map]; first | done | omega)) only [AM.RB, Nat.reduceAdd, Nat.reduceMul, Nat.reduceEqDiff, reduceCtorEq, b39_PC1]
    first | rfl | skip
  · exact ⟨Nat.zero_le _, rfl, fun c hc => by omega⟩
  rintro r h3 ρ ⟨hr, rfl, hall2⟩
  simp (maxSteps := 1000000) (disch := first | omega | (simp only [AM.DB, List.length_set, List.length_map]; first | done | omega)) only [AM.RB, Nat.reduceAdd, Nat.reduceMul, Nat.reduceEqDiff, reduceCtorEq, b39_PC1]
  refine AM.condV_split (fun hlt => ?_) (fun hlt => ?_)
  · have hrl : r < s.1.length := by omega
    obtain ⟨x, hx⟩ : ∃ x, s.1.getD r 0 = x := ⟨_, rfl⟩
    have hbad : atOk L.flatten s.2 r x = false → ((List.range s.1.length).all fun r => atOk L.flatten s.2 r (s.1.getD r 0)) = false := fun q => all_range_false (i := r) hrl (by rw [hx]; exact q)
    (repeat' (first | (simp (maxSteps := 1000000) (disch := first | omega | (simp only [AM.DB, List.length_set, List.length_map]; first | done | omega)) only [AM.RB, Nat.reduceAdd, Nat.reduceMul, Nat.reduceEqDiff, reduceCtorEq, b39_PC1, ra2.ia el_22, Rd.ldi ra2 lk_3, Int.toNat_natCast, hx]) | refine AM.drawW_loose (id := 3) hp (by kernel_rfl) (by kernel_rfl) ?_ | refine AM.opW_tied (by kernel_rfl) ?_ | refine AM.opW_untied (by kernel_rfl) ?_))
    refine free_w m2 f.rows x _ ?_
    cases c5 : freeP L.flatten x
    · have bad := hbad (by unfold atOk; rw [c5]; rfl)
      rw [bad] at hq
      (repeat' (first | (simp (maxSteps := 1000000) (disch := first | omega | (simp only [AM.DB, List.length_set, List.length_map]; first | done | omega)) only [AM.RB, Nat.reduceAdd, Nat.reduceMul, Nat.reduceEqDiff, reduceCtorEq, b39_PC1]) | refine AM.drawW_loose (id := 3) hp (by kernel_rfl) (by kernel_rfl) ?_ | refine AM.opW_tied (by kernel_rfl) ?_ | refine AM.opW_untied (by kernel_rfl) ?_))
      exact hq _ (fr1.trans fr2)
    · obtain ⟨x1, x2⟩ := freeP_in c5
      obtain ⟨xn, rfl⟩ := Int.eq_ofNat_of_zero_le x1
      have hok : atOk L.flatten s.2 r (xn : Int) = decide (s.2.getD xn 0 = r) := by unfold atOk; rw [c5, Int.toNat_natCast]; rfl
      have hxl : xn < s.2.length := by omega
      cases c6 : decide (s.2.getD xn 0 = (r : Int))
      · have bad := hbad (by rw [hok, c6])
        rw [bad] at hq
        (repeat' (first | (simp (maxSteps := 1000000) (disch := first | omega | (simp only [AM.DB, List.length_set, List.length_map]; first | done | omega)) only [AM.RB, Nat.reduceAdd, Nat.reduceMul, Nat.reduceEqDiff, reduceCtorEq, b39_PC1, g2, rb2.ia el_22, Rd.ldi rb2 lk_3, Int.toNat_natCast, c6]) | refine AM.drawW_loose (id := 3) hp (by kernel_rfl) (by kernel_rfl) ?_ | refine AM.opW_tied (by kernel_rfl) ?_ | refine AM.opW_untied (by kernel_rfl) ?_))
        exact hq _ (fr1.trans fr2)
      · (repeat' (first | (simp (maxSteps := 1000000) (disch := first | omega | (simp only [AM.DB, List.length_set, List.length_map]; first | done | omega)) only [AM.RB, Nat.reduceAdd, Nat.reduceMul, Nat.reduceEqDiff, reduceCtorEq, b39_PC1, g2, rb2.ia el_22, Rd.ldi rb2 lk_3, Int.toNat_natCast, c6, AM.wrap_i64]) | refine AM.drawW_loose (id := 3) hp (by kernel_rfl) (by kernel_rfl) ?_ | refine AM.opW_tied (by kernel_rfl) ?_ | refine AM.opW_untied (by kernel_rfl) ?_))
        refine ⟨r + 1, by omega, congrArg _ (by omega), by omega, fun c hc => ?_⟩
        by_cases e : c = r
        · subst e; rw [hx, hok, c6]
        · exact hall2 c (by omega)
  have er : r = s.1.length := by omega
  have ho2 : ((List.range s.1.length).all fun r => atOk L.flatten s.2 r (s.1.getD r 0)) = true := all_range_true fun c hc => hall2 c (by omega)
  rw [ho2] at hq
  (repeat' (first | (simp (maxSteps := 1000000) (disch := first | omega | (simp only [AM.DB, List.length_set, List.length_map]; first | done | omega)) only [AM.RB, Nat.reduceAdd, Nat.reduceMul, Nat.reduceEqDiff, reduceCtorEq, b39_PC1]) | refine AM.drawW_loose (id := 3) hp (by kernel_rfl) (by kernel_rfl) ?_ | refine AM.opW_tied (by kernel_rfl) ?_ | refine AM.opW_untied (by kernel_rfl) ?_))
  exact hq _ (fr1.trans fr2)

end Go.Proofs.YtbaohngkapmhlaaDoor

namespace Go.Proofs.YtbaohngkapmhlaaDoor
open Go.AM
set_option maxRecDepth 8000
theorem b40_PC2 : type_of% (And.intro (@AM.bin_add) (And.intro (@AM.bin_geq) (And.intro (@AM.bin_gtr) (And.intro (@AM.bin_lss) (And.intro (@AM.bin_neq) (And.intro (@AM.boxK_agg) (And.intro (@AM.boxK_bool) (And.intro (@AM.boxK_func) (And.intro (@AM.boxK_int) (And.intro (@AM.boxK_map) (And.intro (@AM.boxK_pointer) (And.intro (@AM.boxK_slice) (And.intro (@AM.boxK_string) (And.intro (@AM.fa_ptr) (And.intro (@fd_59_0) (And.intro (@fd_59_1) (And.intro (@AM.iaO_ok) (And.intro (AM.ia_slice el_22) (And.intro (@AM.ldO_agg) (And.intro (@AM.ldO_one) (And.intro (@AM.ld_ptr) (And.intro (AM.len_slice ul_22) (And.intro (@lk_22) (And.intro (@lk_3) (And.intro (@AM.op_binOp) (And.intro (@AM.op_box) (And.intro (@AM.op_call) (And.intro (@AM.op_fieldAddr) (And.intro (@AM.op_indexAddr) (And.intro (@AM.op_len) (And.intro (@AM.op_load) (And.intro (@AM.op_unOp) (And.intro (@AM.un_neg) (@AM.un_not)))))))))))))))))))))))))))))))))) := And.intro (@AM.bin_add) (And.intro (@AM.bin_geq) (And.intro (@AM.bin_gtr) (And.intro (@AM.bin_lss) (And.intro (@AM.bin_neq) (And.intro (@AM.boxK_agg) (And.intro (@AM.boxK_bool) (And.intro (@AM.boxK_func) (And.intro (@AM.boxK_int) (And.intro (@AM.boxK_map) (And.intro (@AM.boxK_pointer) (And.intro (@AM.boxK_slice) (And.intro (@AM.boxK_string) (And.intro (@AM.fa_ptr) (And.intro (@fd_59_0) (And.intro (@fd_59_1) (And.intro (@AM.iaO_ok) (And.intro (AM.ia_slice el_22) (And.intro (@AM.ldO_agg) (And.intro (@AM.ldO_one) (And.intro (@AM.ld_ptr) (And.intro (AM.len_slice ul_22) (And.intro (@lk_22) (And.intro (@lk_3) (And.intro (@AM.op_binOp) (And.intro (@AM.op_box) (And.intro (@AM.op_call) (And.intro (@AM.op_fieldAddr) (And.intro (@AM.op_indexAddr) (And.intro (@AM.op_len) (And.intro (@AM.op_load) (And.intro (@AM.op_unOp) (And.intro (@AM.un_neg) (@AM.un_not)))))))))))))))))))))))))))))))))


theorem Good.hall {l : List UInt8} {L : List (List UInt8)} (G : Good l L) : ∀ T ∈ L, T.length = (L.getD 0 []).length := G.all
set_option maxHeartbeats 4000000 in
theorem refCheck_w {h : AHeap} {p : Nat} {lv : Value} {L : List (List UInt8)} {l : List UInt8} {v : Value} {s : St} (r : Rp h p lv L) (G : Good l L) (hs : StR h v s) (hl : h.low ≤ h.next) {Q : VQ}
    (hq : ∀ h', Fr none' h h' → Q (.bool (chk L.flatten s)) h') : W 40 [pv p, v] h Q := by
  obtain ⟨a, b, rfl, ra, rb⟩ := hs
  obtain ⟨aa, ac, rfl⟩ := ra.form
  obtain ⟨ba, bc, rfl⟩ := rb.form
  have f := G.fit
  have hK := f.k1024
  have flen := f.len
  have hbd : L.length ≤ 4000000 ∧ (L.getD 0 []).length ≤ 4000000 := by have := f.r32; have := f.c32; omega
  refine AM.enter hp (fn := Tryd.f40) (rs := [.tmp 4]) (nt := 89) (by kernel_rfl) Tryd.func40 rfl rfl rfl (by kernel_rfl) ?_
  simp (maxSteps := 1000000) (disch := first | omega | (simp only [AM.DB, List.length_set, List.length_map]; first | done | omega)) only [AM.RB, Nat.reduceAdd, Nat.reduceMul, Nat.reduceEqDiff, reduceCtorEq, b40_PC2]
  generalize hE_ : AHeap.alloc h _ = h1; obtain ⟨g1, fr1, n1, l1⟩ := AM.new_get hE_; clear hE_
  have r1 := r.fr0 fr1
  have ra1 := ra.fr0 fr1
  have rb1 := rb.fr0 fr1
  by_cases c1 : (s.1.length : Int) < 1
  · have e : chk L.flatten s = false := by unfold chk; rw [decide_eq_false (show ¬ 1 ≤ s.1.length by omega)]; rfl
    rw [e] at hq
    (repeat' (first | (simp (maxSteps := 1000000) (disch := first | omega | (simp only [AM.DB, List.length_set, List.length_map]; first | done | omega)) only [AM.RB, Nat.reduceAdd, Nat.reduceMul, Nat.reduceEqDiff, reduceCtorEq, b40_PC2, g1, decide_eq_true c1]) | refine AM.drawW_loose (id := 1) hp (by kernel_rfl) (by kernel_rfl) ?_ | refine AM.drawW_fine (id := 7) hp (by kernel_rfl) (by kernel_rfl) (by kernel_rfl) ?_ | refine AM.opW_tied (by kernel_rfl) ?_ | refine AM.opW_untied (by kernel_rfl) ?_))
    refine ⟨AM.looseOk_by [(12, [0, 16]), (13, [0, 16])] (by kernel_rfl) ?_, ?_⟩
    · simp (maxSteps := 1000000) (disch := first | omega | (simp only [AM.DB, List.length_set, List.length_map]; first | done | omega)) only [AM.RB, Nat.reduceAdd, Nat.reduceMul, Nat.reduceEqDiff, reduceCtorEq, b40_PC2]
    exact hq _ fr1
  by_cases c2 : (64 : Int) < s.1.length
  · have e : chk L.flatten s = false := by unfold chk; rw [decide_eq_false (show ¬ s.1.length ≤ 64 by omega), Bool.and_false]; rfl
    rw [e] at hq
    (repeat' (first | (simp (maxSteps := 1000000) (disch := first | omega | (simp only [AM.DB, List.length_set, List.length_map]; first | done | omega)) only [AM.RB, Nat.reduceAdd, Nat.reduceMul, Nat.reduceEqDiff, reduceCtorEq, b40_PC2, g1, decide_eq_false c1, decide_eq_true c2]) | refine AM.drawW_loose (id := 1) hp (by kernel_rfl) (by kernel_rfl) ?_ | refine AM.drawW_fine (id := 7) hp (by kernel_rfl) (by kernel_rfl) (by kernel_rfl) ?_ | refine AM.opW_tied (by kernel_rfl) ?_ | refine AM.opW_untied (by kernel_rfl) ?_))
    refine ⟨AM.looseOk_by [(12, [0, 16]), (13, [0, 16])] (by kernel_rfl) ?_, ?_⟩
    · simp (maxSteps := 1000000) (disch := first | omega | (simp only [AM.DB, List.length_set, List.length_map]; first | done | omega)) only [AM.RB, Nat.reduceAdd, Nat.reduceMul, Nat.reduceEqDiff, reduceCtorEq, b40_PC2]
    exact hq _ fr1
  (repeat' (first | (simp (maxSteps := 1000000) (disch := first | omega | (simp only [AM.DB, List.length_set, List.length_map]; first | done | omega)) only [AM.RB, Nat.reduceAdd, Nat.reduceMul, Nat.reduceEqDiff, reduceCtorEq, b40_PC2, g1, decide_eq_false c1, decide_eq_false c2]) | refine AM.drawW_loose (id := 1) hp (by kernel_rfl) (by kernel_rfl) ?_ | refine AM.drawW_fine (id := 7) hp (by kernel_rfl) (by kernel_rfl) (by kernel_rfl) ?_ | refine AM.opW_tied (by kernel_rfl) ?_ | refine AM.opW_untied (by kernel_rfl) ?_))
  refine refCells_w r1 G.rows hbd ?_
  by_cases c3 : (s.2.length : Int) = (L.length * (L.getD 0 []).length : Nat)
  case neg =>
    have e : chk L.flatten s = false := by unfold chk; rw [decide_eq_false (show ¬ s.2.length = L.flatten.length by omega), Bool.and_false]; rfl
    rw [e] at hq
    (repeat' (first | (simp (maxSteps := 1000000) (disch := first | omega | (simp only [AM.DB, List.length_set, List.length_map]; first | done | omega)) only [AM.RB, Nat.reduceAdd, Nat.reduceMul, Nat.reduceEqDiff, reduceCtorEq, b40_PC2, g1, decide_eq_false c3]) | refine AM.drawW_loose (id := 1) hp (by kernel_rfl) (by kernel_rfl) ?_ | refine AM.drawW_fine (id := 7) hp (by kernel_rfl) (by kernel_rfl) (by kernel_rfl) ?_ | refine AM.opW_tied (by kernel_rfl) ?_ | refine AM.opW_untied (by kernel_rfl) ?_))
    refine ⟨AM.looseOk_by [(12, [0, 16]), (13, [0, 16])] (by kernel_rfl) ?_, ?_⟩
    · simp (maxSteps := 1000000) (disch := first | omega | (simp only [AM.DB, List.length_set, List.length_map]; first | done | omega)) only [AM.RB, Nat.reduceAdd, Nat.reduceMul, Nat.reduceEqDiff, reduceCtorEq, b40_PC2]
      (repeat' apply And.intro) <;> (first | (refine AM.stable_len _ _ _ _ _ _ (fun _ => ?_); (simp (maxSteps := 1000000) (disch := first | omega | (simp only [AM.DB, List.length_set, List.length_map]; first | done | omega)) only [AM.RB, Nat.reduceAdd, Nat.reduceMul, Nat.reduceEqDiff, reduceCtorEq, b40_PC2, g1])) | (refine AM.stable_load _ _ _ _ _ _ ?_; (first | (simp (maxSteps := 1000000) (disch := first | omega | (simp only [AM.DB, List.length_set, List.length_map]; first | done | omega)) only [AM.RB, Nat.reduceAdd, Nat.reduceMul, Nat.reduceEqDiff, reduceCtorEq, b40_PC2, g1]) | skip); (first | (refine AM.stabL_int (by omega) ?_; (simp (maxSteps := 1000000) (disch := first | omega | (simp only [AM.DB, List.length_set, List.length_map]; first | done | omega)) only [AM.RB, Nat.reduceAdd, Nat.reduceMul, Nat.reduceEqDiff, reduceCtorEq, b40_PC2, g1])) | (refine AM.stabL_ptr (by omega) (by omega) ?_; (simp (maxSteps := 1000000) (disch := first | omega | (simp only [AM.DB, List.length_set, List.length_map]; first | done | omega)) only [AM.RB, Nat.reduceAdd, Nat.reduceMul, Nat.reduceEqDiff, reduceCtorEq, b40_PC2, g1])) | (refine AM.stabL_string (by omega) ?_; (simp (maxSteps := 1000000) (disch := first | omega | (simp only [AM.DB, List.length_set, List.length_map]; first | done | omega)) only [AM.RB, Nat.reduceAdd, Nat.reduceMul, Nat.reduceEqDiff, reduceCtorEq, b40_PC2, g1])) | (refine AM.stabL_bool (by omega) ?_; (simp (maxSteps := 1000000) (disch := first | omega | (simp only [AM.DB, List.length_set, List.length_map]; first | done | omega)) only [AM.RB, Nat.reduceAdd, Nat.reduceMul, Nat.reduceEqDiff, reduceCtorEq, b40_PC2, g1])) | (refine AM.stabL_rd rb1 (by omega) (by omega) ?_; (simp (maxSteps := 1000000) (disch := first | omega | (simp only [AM.DB, List.length_set, List.length_map]; first | done | omega)) only [AM.RB, Nat.reduceAdd, Nat.reduceMul, Nat.reduceEqDiff, reduceCtorEq, b40_PC2, g1])) | (refine AM.stabL_rd ra1 (by omega) (by omega) ?_; (simp (maxSteps := 1000000) (disch := first | omega | (simp only [AM.DB, List.length_set, List.length_map]; first | done | omega)) only [AM.RB, Nat.reduceAdd, Nat.reduceMul, Nat.reduceEqDiff, reduceCtorEq, b40_PC2, g1])) | (refine AM.stabL_elS rb1 (by omega) (by omega) ?_; (simp (maxSteps := 1000000) (disch := first | omega | (simp only [AM.DB, List.length_set, List.length_map]; first | done | omega)) only [AM.RB, Nat.reduceAdd, Nat.reduceMul, Nat.reduceEqDiff, reduceCtorEq, b40_PC2, g1])) | (refine AM.stabL_elI rb1 (by omega) (by omega) ?_; (simp (maxSteps := 1000000) (disch := first | omega | (simp only [AM.DB, List.length_set, List.length_map]; first | done | omega)) only [AM.RB, Nat.reduceAdd, Nat.reduceMul, Nat.reduceEqDiff, reduceCtorEq, b40_PC2, g1])) | (refine AM.stabL_elS ra1 (by omega) (by omega) ?_; (simp (maxSteps := 1000000) (disch := first | omega | (simp only [AM.DB, List.length_set, List.length_map]; first | done | omega)) only [AM.RB, Nat.reduceAdd, Nat.reduceMul, Nat.reduceEqDiff, reduceCtorEq, b40_PC2, g1])) | (refine AM.stabL_elI ra1 (by omega) (by omega) ?_; (simp (maxSteps := 1000000) (disch := first | omega | (simp only [AM.DB, List.length_set, List.length_map]; first | done | omega)) only [AM.RB, Nat.reduceAdd, Nat.reduceMul, Nat.reduceEqDiff, reduceCtorEq, b40_PC2, g1])))))
    exact hq _ fr1
  have hn : s.2.length = L.flatten.length := by omega
  have k1 : decide (1 ≤ s.1.length) = true := decide_eq_true (by omega)
  have k2 : decide (s.1.length ≤ 64) = true := decide_eq_true (by omega)
  have k3 : decide (s.2.length = L.flatten.length) = true := decide_eq_true hn
  have hchk : chk L.flatten s = (((List.range L.flatten.length).all fun c => hoOk L.flatten s.1.length (s.2.getD c 0) c) && ((List.range s.1.length).all fun r => atOk L.flatten s.2 r (s.1.getD r 0))) := by
    unfold chk
    rw [k1, k2, k3]; simp
  rw [hchk] at hq
  (repeat' (first | (simp (maxSteps := 1000000) (disch := first | omega | (simp only [AM.DB, List.length_set, List.length_map]; first | done | omega)) only [AM.RB, Nat.reduceAdd, Nat.reduceMul, Nat.reduceEqDiff, reduceCtorEq, b40_PC2, g1, decide_eq_true c3]) | refine AM.drawW_loose (id := 1) hp (by kernel_rfl) (by kernel_rfl) ?_ | refine AM.drawW_fine (id := 7) hp (by kernel_rfl) (by kernel_rfl) (by kernel_rfl) ?_ | refine AM.opW_tied (by kernel_rfl) ?_ | refine AM.opW_untied (by kernel_rfl) ?_))
  refine ⟨AM.looseOk_by [(12, [0, 16]), (13, [0, 16])] (by kernel_rfl) ?_, ?_⟩
  · simp (maxSteps := 1000000) (disch := first | omega | (simp only [AM.DB, List.length_set, List.length_map]; first | done | omega)) only [AM.RB, Nat.reduceAdd, Nat.reduceMul, Nat.reduceEqDiff, reduceCtorEq, b40_PC2]
    (repeat' apply And.intro) <;> (first | (refine AM.stable_len _ _ _ _ _ _ (fun _ => ?_); (simp (maxSteps := 1000000) (disch := first | omega | (simp only [AM.DB, List.length_set, List.length_map]; first | done | omega)) only [AM.RB, Nat.reduceAdd, Nat.reduceMul, Nat.reduceEqDiff, reduceCtorEq, b40_PC2, g1])) | (refine AM.stable_load _ _ _ _ _ _ ?_; (first | (simp (maxSteps := 1000000) (disch := first | omega | (simp only [AM.DB, List.length_set, List.length_map]; first | done | omega)) only [AM.RB, Nat.reduceAdd, Nat.reduceMul, Nat.reduceEqDiff, reduceCtorEq, b40_PC2, g1]) | skip); (first | (refine AM.stabL_int (by omega) ?_; (simp (maxSteps := 1000000) (disch := first | omega | (simp only [AM.DB, List.length_set, List.length_map]; first | done | omega)) only [AM.RB, Nat.reduceAdd, Nat.reduceMul, Nat.reduceEqDiff, reduceCtorEq, b40_PC2, g1])) | (refine AM.stabL_ptr (by omega) (by omega) ?_; (simp (maxSteps := 1000000) (disch := first | omega | (simp only [AM.DB, List.length_set, List.length_map]; first | done | omega)) only [AM.RB, Nat.reduceAdd, Nat.reduceMul, Nat.reduceEqDiff, reduceCtorEq, b40_PC2, g1])) | (refine AM.stabL_string (by omega) ?_; (simp (maxSteps := 1000000) (disch := first | omega | (simp only [AM.DB, List.length_set, List.length_map]; first | done | omega)) only [AM.RB, Nat.reduceAdd, Nat.reduceMul, Nat.reduceEqDiff, reduceCtorEq, b40_PC2, g1])) | (refine AM.stabL_bool (by omega) ?_; (simp (maxSteps := 1000000) (disch := first | omega | (simp only [AM.DB, List.length_set, List.length_map]; first | done | omega)) only [AM.RB, Nat.reduceAdd, Nat.reduceMul, Nat.reduceEqDiff, reduceCtorEq, b40_PC2, g1])) | (refine AM.stabL_rd rb1 (by omega) (by omega) ?_; (simp (maxSteps := 1000000) (disch := first | omega | (simp only [AM.DB, List.length_set, List.length_map]; first | done | omega)) only [AM.RB, Nat.reduceAdd, Nat.reduceMul, Nat.reduceEqDiff, reduceCtorEq, b40_PC2, g1])) | (refine AM.stabL_rd ra1 (by omega) (by omega) ?_; (simp (maxSteps := 1000000) (disch := first | omega | (simp only [AM.DB, List.length_set, List.length_map]; first | done | omega)) only [AM.RB, Nat.reduceAdd, Nat.reduceMul, Nat.reduceEqDiff, reduceCtorEq, b40_PC2, g1])) | (refine AM.stabL_elS rb1 (by omega) (by omega) ?_; (simp (maxSteps := 1000000) (disch := first | omega | (simp only [AM.DB, List.length_set, List.length_map]; first | done | omega)) only [AM.RB, Nat.reduceAdd, Nat.reduceMul, Nat.reduceEqDiff, reduceCtorEq, b40_PC2, g1])) | (refine AM.stabL_elI rb1 (by omega) (by omega) ?_; (simp (maxSteps := 1000000) (disch := first | omega | (simp only [AM.DB, List.length_set, List.length_map]; first | done | omega)) only [AM.RB, Nat.reduceAdd, Nat.reduceMul, Nat.reduceEqDiff, reduceCtorEq, b40_PC2, g1])) | (refine AM.stabL_elS ra1 (by omega) (by omega) ?_; (simp (maxSteps := 1000000) (disch := first | omega | (simp only [AM.DB, List.length_set, List.length_map]; first | done | omega)) only [AM.RB, Nat.reduceAdd, Nat.reduceMul, Nat.reduceEqDiff, reduceCtorEq, b40_PC2, g1])) | (refine AM.stabL_elI ra1 (by omega) (by omega) ?_; (simp (maxSteps := 1000000) (disch := first | omega | (simp only [AM.DB, List.length_set, List.length_map]; first | done | omega)) only [AM.RB, Nat.reduceAdd, Nat.reduceMul, Nat.reduceEqDiff, reduceCtorEq, b40_PC2, g1])))))
  refine AM.loop_w hp 89 (fun i : Nat => [(0, pv p), (3, pv h.next), (5, .int .i64 i)])
    (fun i h' => i ≤ s.1.length ∧ h' = h1 ∧ ∀ r, r < i → atOk L.flatten s.2 r (s.1.getD r 0) = true) (fun i => s.1.length - i) (by kernel_rfl) 0 ?_ ?_ ?_
  · simp (maxSteps := 1000000) (disch := first | omega | (simp only [AM.DB, List.length_set, List.length_map]; first | done | omega)) only [AM.RB, Nat.reduceAdd, Nat.reduceMul, Nat.reduceEqDiff, reduceCtorEq, b40_PC2]
    first | rfl | skip
  · exact ⟨Nat.zero_le _, rfl, fun c hc => by omega⟩
  rintro t h2 ρ ⟨ht, rfl, hall⟩
  simp (maxSteps := 1000000) (disch := first | omega | (simp only [AM.DB, List.length_set, List.length_map]; first | done | omega)) only [AM.RB, Nat.reduceAdd, Nat.reduceMul, Nat.reduceEqDiff, reduceCtorEq, b40_PC2, g1]
  refine AM.condV_split (fun hlt => ?_) (fun hlt => ?_)
  · have htl : t < s.1.length := by omega
    obtain ⟨x, hx⟩ : ∃ x, s.1.getD t 0 = x := ⟨_, rfl⟩
    have hbad : atOk L.flatten s.2 t x = false → ((List.range s.1.length).all fun r => atOk L.flatten s.2 r (s.1.getD r 0)) = false := fun q => all_range_false (i := t) htl (by rw [hx]; exact q)
    (repeat' (first | (simp (maxSteps := 1000000) (disch := first | omega | (simp only [AM.DB, List.length_set, List.length_map]; first | done | omega)) only [AM.RB, Nat.reduceAdd, Nat.reduceMul, Nat.reduceEqDiff, reduceCtorEq, b40_PC2, g1, ra1.ia el_22, Rd.ldi ra1 lk_3, Int.toNat_natCast, hx]) | refine AM.drawW_loose (id := 1) hp (by kernel_rfl) (by kernel_rfl) ?_ | refine AM.drawW_fine (id := 7) hp (by kernel_rfl) (by kernel_rfl) (by kernel_rfl) ?_ | refine AM.opW_tied (by kernel_rfl) ?_ | refine AM.opW_untied (by kernel_rfl) ?_))
    refine refFree_w r1 G.rows hbd G.all x ?_
    rw [G.free]
    cases c5 : freeP L.flatten x
    · have bad := hbad (by unfold atOk; rw [c5]; rfl)
      rw [bad, Bool.and_false] at hq
      (repeat' (first | (simp (maxSteps := 1000000) (disch := first | omega | (simp only [AM.DB, List.length_set, List.length_map]; first | done | omega)) only [AM.RB, Nat.reduceAdd, Nat.reduceMul, Nat.reduceEqDiff, reduceCtorEq, b40_PC2]) | refine AM.drawW_loose (id := 1) hp (by kernel_rfl) (by kernel_rfl) ?_ | refine AM.drawW_fine (id := 7) hp (by kernel_rfl) (by kernel_rfl) (by kernel_rfl) ?_ | refine AM.opW_tied (by kernel_rfl) ?_ | refine AM.opW_untied (by kernel_rfl) ?_))
      exact hq _ fr1
    · obtain ⟨x1, x2⟩ := freeP_in c5
      obtain ⟨xn, rfl⟩ := Int.eq_ofNat_of_zero_le x1
      have hok : atOk L.flatten s.2 t (xn : Int) = decide (s.2.getD xn 0 = t) := by unfold atOk; rw [c5, Int.toNat_natCast]; rfl
      have hxl : xn < s.2.length := by omega
      cases c6 : decide (s.2.getD xn 0 = (t : Int))
      · have bad := hbad (by rw [hok, c6])
        rw [bad, Bool.and_false] at hq
        (repeat' (first | (simp (maxSteps := 1000000) (disch := first | omega | (simp only [AM.DB, List.length_set, List.length_map]; first | done | omega)) only [AM.RB, Nat.reduceAdd, Nat.reduceMul, Nat.reduceEqDiff, reduceCtorEq, b40_PC2, g1, ra1.ia el_22, Rd.ldi ra1 lk_3, Int.toNat_natCast, hx, rb1.ia el_22, Rd.ldi rb1 lk_3, c6]) | refine AM.drawW_loose (id := 1) hp (by kernel_rfl) (by kernel_rfl) ?_ | refine AM.drawW_fine (id := 7) hp (by kernel_rfl) (by kernel_rfl) (by kernel_rfl) ?_ | refine AM.opW_tied (by kernel_rfl) ?_ | refine AM.opW_untied (by kernel_rfl) ?_))
        exact hq _ fr1
      · (repeat' (first | (simp (maxSteps := 1000000) (disch := first | omega | (simp only [AM.DB, List.length_set, List.length_map]; first | done | omega)) only [AM.RB, Nat.reduceAdd, Nat.reduceMul, Nat.reduceEqDiff, reduceCtorEq, b40_PC2, g1, ra1.ia el_22, Rd.ldi ra1 lk_3, Int.toNat_natCast, hx, rb1.ia el_22, Rd.ldi rb1 lk_3, c6, AM.wrap_i64]) | refine AM.drawW_loose (id := 1) hp (by kernel_rfl) (by kernel_rfl) ?_ | refine AM.drawW_fine (id := 7) hp (by kernel_rfl) (by kernel_rfl) (by kernel_rfl) ?_ | refine AM.opW_tied (by kernel_rfl) ?_ | refine AM.opW_untied (by kernel_rfl) ?_))
        refine ⟨t + 1, by omega, congrArg _ (by omega), by omega, fun c hc => ?_⟩
        by_cases e : c = t
        · subst e; rw [hx, hok, c6]
        · exact hall c (by omega)
  have et : t = s.1.length := by omega
  have ho2 : ((List.range s.1.length).all fun r => atOk L.flatten s.2 r (s.1.getD r 0)) = true := all_range_true fun c hc => hall c (by omega)
  rw [ho2, Bool.and_true] at hq
  (repeat' (first | (simp (maxSteps := 1000000) (disch := first | omega | (simp only [AM.DB, List.length_set, List.length_map]; first | done | omega)) only [AM.RB, Nat.reduceAdd, Nat.reduceMul, Nat.reduceEqDiff, reduceCtorEq, b40_PC2]) | refine AM.drawW_loose (id := 1) hp (by kernel_rfl) (by kernel_rfl) ?_ | refine AM.drawW_fine (id := 7) hp (by kernel_rfl) (by kernel_rfl) (by kernel_rfl) ?_ | refine AM.opW_tied (by kernel_rfl) ?_ | refine AM.opW_untied (by kernel_rfl) ?_))
  refine AM.loop_w hp 89 (fun i : Nat => [(0, pv p), (3, pv h.next), (7, .int .i64 i)])
    (fun i h' => i ≤ s.2.length ∧ h' = h2 ∧ ∀ c, c < i → hoOk L.flatten s.1.length (s.2.getD c 0) c = true) (fun i => s.2.length - i) (by kernel_rfl) 0 ?_ ?_ ?_
  · simp (maxSteps := 1000000) (disch := first | omega | (simp only [AM.DB, List.length_set, List.length_map]; first | done | omega)) only [AM.RB, Nat.reduceAdd, Nat.reduceMul, Nat.reduceEqDiff, reduceCtorEq, b40_PC2]
    first | rfl | skip
  · exact ⟨Nat.zero_le _, rfl, fun c hc => by omega⟩
  rintro i h3 ρ ⟨hi, rfl, hall2⟩
  simp (maxSteps := 1000000) (disch := first | omega | (simp only [AM.DB, List.length_set, List.length_map]; first | done | omega)) only [AM.RB, Nat.reduceAdd, Nat.reduceMul, Nat.reduceEqDiff, reduceCtorEq, b40_PC2, g1]
  refine AM.condV_split (fun hlt => ?_) (fun hlt => ?_)
  · have hil : i < s.2.length := by omega
    obtain ⟨x, hx⟩ : ∃ x, s.2.getD i 0 = x := ⟨_, rfl⟩
    have hnext : hoOk L.flatten s.1.length x i = true → ∀ c, c < i + 1 → hoOk L.flatten s.1.length (s.2.getD c 0) c = true := fun q c hc => by
      by_cases e : c = i
      · subst e; rw [hx]; exact q
      · exact hall2 c (by omega)
    have hbad : hoOk L.flatten s.1.length x i = false → ((List.range L.flatten.length).all fun c => hoOk L.flatten s.1.length (s.2.getD c 0) c) = false := fun q => all_range_false (i := i) (by omega) (by rw [hx]; exact q)
    (repeat' (first | (simp (maxSteps := 1000000) (disch := first | omega | (simp only [AM.DB, List.length_set, List.length_map]; first | done | omega)) only [AM.RB, Nat.reduceAdd, Nat.reduceMul, Nat.reduceEqDiff, reduceCtorEq, b40_PC2]) | refine AM.drawW_loose (id := 1) hp (by kernel_rfl) (by kernel_rfl) ?_ | refine AM.drawW_fine (id := 7) hp (by kernel_rfl) (by kernel_rfl) (by kernel_rfl) ?_ | refine AM.opW_tied (by kernel_rfl) ?_ | refine AM.opW_untied (by kernel_rfl) ?_))
    refine refFree_w r1 G.rows hbd G.all i ?_
    rw [G.free]
    (repeat' (first | (simp (maxSteps := 1000000) (disch := first | omega | (simp only [AM.DB, List.length_set, List.length_map]; first | done | omega)) only [AM.RB, Nat.reduceAdd, Nat.reduceMul, Nat.reduceEqDiff, reduceCtorEq, b40_PC2, g1, rb1.ia el_22, Rd.ldi rb1 lk_3, Int.toNat_natCast, hx]) | refine AM.drawW_loose (id := 1) hp (by kernel_rfl) (by kernel_rfl) ?_ | refine AM.drawW_fine (id := 7) hp (by kernel_rfl) (by kernel_rfl) (by kernel_rfl) ?_ | refine AM.opW_tied (by kernel_rfl) ?_ | refine AM.opW_untied (by kernel_rfl) ?_))
    by_cases x0 : x < -1
    · have bad := hbad (by unfold hoOk; rw [decide_eq_false (show ¬ x = -1 by omega), decide_eq_false (show ¬ 0 ≤ x by omega)]; rfl)
      rw [bad] at hq
      (repeat' (first | (simp (maxSteps := 1000000) (disch := first | omega | (simp only [AM.DB, List.length_set, List.length_map]; first | done | omega)) only [AM.RB, Nat.reduceAdd, Nat.reduceMul, Nat.reduceEqDiff, reduceCtorEq, b40_PC2, decide_eq_true x0]) | refine AM.drawW_loose (id := 1) hp (by kernel_rfl) (by kernel_rfl) ?_ | refine AM.drawW_fine (id := 7) hp (by kernel_rfl) (by kernel_rfl) (by kernel_rfl) ?_ | refine AM.opW_tied (by kernel_rfl) ?_ | refine AM.opW_untied (by kernel_rfl) ?_))
      exact hq _ fr1
    by_cases x1 : (s.1.length : Int) ≤ x
    · have bad := hbad (by unfold hoOk; rw [decide_eq_false (show ¬ x = -1 by omega), decide_eq_false (show ¬ x < s.1.length by omega), Bool.and_false]; rfl)
      rw [bad] at hq
      (repeat' (first | (simp (maxSteps := 1000000) (disch := first | omega | (simp only [AM.DB, List.length_set, List.length_map]; first | done | omega)) only [AM.RB, Nat.reduceAdd, Nat.reduceMul, Nat.reduceEqDiff, reduceCtorEq, b40_PC2, g1, decide_eq_false x0, decide_eq_true x1]) | refine AM.drawW_loose (id := 1) hp (by kernel_rfl) (by kernel_rfl) ?_ | refine AM.drawW_fine (id := 7) hp (by kernel_rfl) (by kernel_rfl) (by kernel_rfl) ?_ | refine AM.opW_tied (by kernel_rfl) ?_ | refine AM.opW_untied (by kernel_rfl) ?_))
      exact hq _ fr1
    by_cases x2 : 0 ≤ x
    · have hok : hoOk L.flatten s.1.length x i = freeP L.flatten i := by unfold hoOk; rw [decide_eq_false (show ¬ x = -1 by omega), decide_eq_true x2, decide_eq_true (show x < s.1.length by omega)]; rfl
      cases c5 : freeP L.flatten (i : Int)
      · have bad := hbad (by rw [hok, c5])
        rw [bad] at hq
        (repeat' (first | (simp (maxSteps := 1000000) (disch := first | omega | (simp only [AM.DB, List.length_set, List.length_map]; first | done | omega)) only [AM.RB, Nat.reduceAdd, Nat.reduceMul, Nat.reduceEqDiff, reduceCtorEq, b40_PC2, g1, decide_eq_false x0, decide_eq_false x1, decide_eq_true x2]) | refine AM.drawW_loose (id := 1) hp (by kernel_rfl) (by kernel_rfl) ?_ | refine AM.drawW_fine (id := 7) hp (by kernel_rfl) (by kernel_rfl) (by kernel_rfl) ?_ | refine AM.opW_tied (by kernel_rfl) ?_ | refine AM.opW_untied (by kernel_rfl) ?_))
        exact hq _ fr1
      · (repeat' (first | (simp (maxSteps := 1000000) (disch := first | omega | (simp only [AM.DB, List.length_set, List.length_map]; first | done | omega)) only [AM.RB, Nat.reduceAdd, Nat.reduceMul, Nat.reduceEqDiff, reduceCtorEq, b40_PC2, g1, decide_eq_false x0, decide_eq_false x1, decide_eq_true x2, AM.wrap_i64]) | refine AM.drawW_loose (id := 1) hp (by kernel_rfl) (by kernel_rfl) ?_ | refine AM.drawW_fine (id := 7) hp (by kernel_rfl) (by kernel_rfl) (by kernel_rfl) ?_ | refine AM.opW_tied (by kernel_rfl) ?_ | refine AM.opW_untied (by kernel_rfl) ?_))
        exact ⟨i + 1, by omega, congrArg _ (by omega), by omega, hnext (by rw [hok, c5])⟩
    · have hok : hoOk L.flatten s.1.length x i = true := by unfold hoOk; rw [decide_eq_true (show x = -1 by omega)]; rfl
      (repeat' (first | (simp (maxSteps := 1000000) (disch := first | omega | (simp only [AM.DB, List.length_set, List.length_map]; first | done | omega)) only [AM.RB, Nat.reduceAdd, Nat.reduceMul, Nat.reduceEqDiff, reduceCtorEq, b40_PC2, g1, decide_eq_false x0, decide_eq_false x1, decide_eq_false x2, AM.wrap_i64]) | refine AM.drawW_loose (id := 1) hp (by kernel_rfl) (by kernel_rfl) ?_ | refine AM.drawW_fine (id := 7) hp (by kernel_rfl) (by kernel_rfl) (by kernel_rfl) ?_ | refine AM.opW_tied (by kernel_rfl) ?_ | refine AM.opW_untied (by kernel_rfl) ?_))
      exact ⟨i + 1, by omega, congrArg _ (by omega), by omega, hnext hok⟩
  have ei : i = s.2.length := by omega
  have ho : ((List.range L.flatten.length).all fun c => hoOk L.flatten s.1.length (s.2.getD c 0) c) = true := all_range_true fun c hc => hall2 c (by omega)
  rw [ho] at hq
  (repeat' (first | (simp (maxSteps := 1000000) (disch := first | omega | (simp only [AM.DB, List.length_set, List.length_map]; first | done | omega)) only [AM.RB, Nat.reduceAdd, Nat.reduceMul, Nat.reduceEqDiff, reduceCtorEq, b40_PC2]) | refine AM.drawW_loose (id := 1) hp (by kernel_rfl) (by kernel_rfl) ?_ | refine AM.drawW_fine (id := 7) hp (by kernel_rfl) (by kernel_rfl) (by kernel_rfl) ?_ | refine AM.opW_tied (by kernel_rfl) ?_ | refine AM.opW_untied (by kernel_rfl) ?_))
  exact hq _ fr1

end Go.Proofs.YtbaohngkapmhlaaDoor

namespace Go.Proofs.YtbaohngkapmhlaaDoor
open Go.AM
set_option maxRecDepth 8000
theorem b84_PC3 : type_of% (And.intro (@AM.andO_some) (And.intro (@AM.bdV_some) (And.intro (@bd_65) (And.intro (AM.bin_agg_eql se_65) (And.intro (@AM.bin_eql) (And.intro (@AM.bin_geq) (And.intro (@AM.bin_lss) (And.intro (@AM.bin_neq) (And.intro (@AM.boxK_agg) (And.intro (@AM.boxK_bool) (And.intro (@AM.boxK_func) (And.intro (@AM.boxK_int) (And.intro (@AM.boxK_map) (And.intro (@AM.boxK_pointer) (And.intro (@AM.boxK_slice) (And.intro (@AM.boxK_string) (And.intro (@AM.eqL_cons) (And.intro (@AM.eqL_nil) (And.intro (@AM.eqS_bool) (And.intro (@AM.eqS_int) (And.intro (@AM.eqS_string) (And.intro (@AM.fa_ptr) (And.intro (@fd_59_0) (And.intro (@fd_59_1) (And.intro (@fd_65_0) (And.intro (@fd_65_1) (And.intro (@fd_65_2) (And.intro (@AM.fillL_cons) (And.intro (@AM.fillL_nil) (And.intro (@AM.fillS_agg) (And.intro (@AM.fillS_bool) (And.intro (@AM.fillS_func) (And.intro (@AM.fillS_int) (And.intro (@AM.fillS_map) (And.intro (@AM.fillS_pointer) (And.intro (@AM.fillS_slice) (And.intro (@AM.fillS_string) (And.intro (@AM.iaO_ok) (And.intro (AM.ia_slice el_22) (And.intro (@AM.ldO_agg) (And.intro (@AM.ldO_one) (And.intro (@AM.ld_ptr) (And.intro (AM.len_slice ul_22) (And.intro (@lk_22) (And.intro (@lk_3) (And.intro (@lk_65) (And.intro (@AM.op_binOp) (And.intro (@AM.op_box) (And.intro (@AM.op_build) (And.intro (@AM.op_call) (And.intro (@AM.op_fieldAddr) (And.intro (@AM.op_indexAddr) (And.intro (@AM.op_len) (And.intro (@AM.op_load) (And.intro (@AM.op_unOp) (And.intro (@AM.un_neg) (@AM.un_not))))))))))))))))))))))))))))))))))))))))))))))))))))))))) := And.intro (@AM.andO_some) (And.intro (@AM.bdV_some) (And.intro (@bd_65) (And.intro (AM.bin_agg_eql se_65) (And.intro (@AM.bin_eql) (And.intro (@AM.bin_geq) (And.intro (@AM.bin_lss) (And.intro (@AM.bin_neq) (And.intro (@AM.boxK_agg) (And.intro (@AM.boxK_bool) (And.intro (@AM.boxK_func) (And.intro (@AM.boxK_int) (And.intro (@AM.boxK_map) (And.intro (@AM.boxK_pointer) (And.intro (@AM.boxK_slice) (And.intro (@AM.boxK_string) (And.intro (@AM.eqL_cons) (And.intro (@AM.eqL_nil) (And.intro (@AM.eqS_bool) (And.intro (@AM.eqS_int) (And.intro (@AM.eqS_string) (And.intro (@AM.fa_ptr) (And.intro (@fd_59_0) (And.intro (@fd_59_1) (And.intro (@fd_65_0) (And.intro (@fd_65_1) (And.intro (@fd_65_2) (And.intro (@AM.fillL_cons) (And.intro (@AM.fillL_nil) (And.intro (@AM.fillS_agg) (And.intro (@AM.fillS_bool) (And.intro (@AM.fillS_func) (And.intro (@AM.fillS_int) (And.intro (@AM.fillS_map) (And.intro (@AM.fillS_pointer) (And.intro (@AM.fillS_slice) (And.intro (@AM.fillS_string) (And.intro (@AM.iaO_ok) (And.intro (AM.ia_slice el_22) (And.intro (@AM.ldO_agg) (And.intro (@AM.ldO_one) (And.intro (@AM.ld_ptr) (And.intro (AM.len_slice ul_22) (And.intro (@lk_22) (And.intro (@lk_3) (And.intro (@lk_65) (And.intro (@AM.op_binOp) (And.intro (@AM.op_box) (And.intro (@AM.op_build) (And.intro (@AM.op_call) (And.intro (@AM.op_fieldAddr) (And.intro (@AM.op_indexAddr) (And.intro (@AM.op_len) (And.intro (@AM.op_load) (And.intro (@AM.op_unOp) (And.intro (@AM.un_neg) (@AM.un_not))))))))))))))))))))))))))))))))))))))))))))))))))))))))
abbrev spV (x : Sp) : Value := .agg #[.int .i64 x.1, .int .i64 x.2.1, .int .i64 x.2.2]
theorem StR.frp {h h' : AHeap} {v : Value} {s : St} {T : Nat → Prop} (x : StR h v s) (hT : ∀ a b, v = .agg #[a, b] → (∀ id, idOf a id → ¬ T id) ∧ ∀ id, idOf b id → ¬ T id) (fr : Fr T h h') : StR h' v s := by
  obtain ⟨a, b, rfl, ra, rb⟩ := x
  obtain ⟨t1, t2⟩ := hT a b rfl
  exact ⟨a, b, rfl, ra.fr fr t1, rb.fr fr t2⟩
set_option maxHeartbeats 4000000 in
theorem pmay_w {h : AHeap} {p : Nat} {L : List (List UInt8)} {B : Nat → Prop} {v : Value} {s : St} (m : Mk h p L B) (f : Fit L) (hw : h.get GW = some (.cells waysC 166 false)) (hgl : GW < h.low) (hl : h.low ≤ h.next) (hs : StR h v s) (hn : s.2.length = L.flatten.length) (x : Sp) {Q : VQ}
    (hq : ∀ h', Mk h' p L B → Fr (fun id => id = p) h h' → Q (.bool (may L s x)) h') : W 84 [pv p, v, spV x] h Q := by
  obtain ⟨k, r, c⟩ := x
  obtain ⟨a, b, rfl, ra, rb⟩ := hs
  obtain ⟨aa, ac, rfl⟩ := ra.form
  obtain ⟨ba, bc, rfl⟩ := rb.form
  refine AM.enter hp (fn := Tryd.f84) (rs := [.tmp 6]) (nt := 79) (by kernel_rfl) Tryd.func84 rfl rfl rfl (by kernel_rfl) ?_
  simp (maxSteps := 1000000) (disch := first | omega | (simp only [AM.DB, List.length_set, List.length_map]; first | done | omega)) only [AM.RB, Nat.reduceAdd, Nat.reduceMul, Nat.reduceEqDiff, reduceCtorEq, b84_PC3]
  generalize hE_ : AHeap.alloc h _ = h1; obtain ⟨g1, fr1, n1, l1⟩ := AM.new_get hE_; clear hE_
  generalize hE_ : AHeap.alloc h1 _ = h2; obtain ⟨g2, fr2, n2, l2⟩ := AM.new_get hE_; clear hE_
  rw [n1] at g2
  have g12 := g1.fr0 fr2
  have fr02 := fr1.trans fr2
  have m2 := m.fr0 fr02
  have ra2 := ra.fr0 fr02
  have rb2 := rb.fr0 fr02
  have hw2 := hw.fr0 fr02
  have lw2 := fr02.low
  have nx2 := fr02.next
  have toP : ∀ {h'}, Fr (fun id => id = p) h2 h' → Fr (fun id => id = p) h h' := fun fr => (fr02.mono (fun _ _ q => q.elim)).trans fr
  have fin : Fr (fun id => id = p) h h2 := fr02.mono fun _ _ q => q.elim
  obtain ⟨kv, tl, mm⟩ := m2.mp
  by_cases k0 : k = 0
  · subst k0
    have e : may L s (0, r, c) = (decide (r = 0) && decide (c = 0)) := by unfold may; rw [if_pos rfl]
    rw [e] at hq
    cases r0 : decide (r = 0) <;> cases c0 : decide (c = 0) <;> rw [r0, c0] at hq
    all_goals (
      (repeat' (first | (simp (maxSteps := 1000000) (disch := first | omega | (simp only [AM.DB, List.length_set, List.length_map]; first | done | omega)) only [AM.RB, Nat.reduceAdd, Nat.reduceMul, Nat.reduceEqDiff, reduceCtorEq, b84_PC3, g12, g2, r0, c0]) | refine AM.drawW_fine hp (by kernel_rfl) (by kernel_rfl) (by kernel_rfl) ?_ | refine AM.opW_tied (by kernel_rfl) ?_ | refine AM.opW_untied (by kernel_rfl) ?_ | refine AM.build_w ?_))
      first | exact hq _ m2 fin | skip)
  have dk0 : decide (k = 0) = false := decide_eq_false k0
  by_cases r0 : r < 0
  · have e : may L s (k, r, c) = false := by unfold may; rw [if_neg k0, decide_eq_false (show ¬ 0 ≤ r by omega)]; rfl
    rw [e] at hq
    (repeat' (first | (simp (maxSteps := 1000000) (disch := first | omega | (simp only [AM.DB, List.length_set, List.length_map]; first | done | omega)) only [AM.RB, Nat.reduceAdd, Nat.reduceMul, Nat.reduceEqDiff, reduceCtorEq, b84_PC3, g12, g2, dk0, decide_eq_true r0]) | refine AM.drawW_fine hp (by kernel_rfl) (by kernel_rfl) (by kernel_rfl) ?_ | refine AM.opW_tied (by kernel_rfl) ?_ | refine AM.opW_untied (by kernel_rfl) ?_ | refine AM.build_w ?_))
    exact hq _ m2 fin
  by_cases r1 : (s.1.length : Int) ≤ r
  · have e : may L s (k, r, c) = false := by unfold may; rw [if_neg k0, decide_eq_false (show ¬ r < s.1.length by omega), Bool.and_false]; rfl
    rw [e] at hq
    (repeat' (first | (simp (maxSteps := 1000000) (disch := first | omega | (simp only [AM.DB, List.length_set, List.length_map]; first | done | omega)) only [AM.RB, Nat.reduceAdd, Nat.reduceMul, Nat.reduceEqDiff, reduceCtorEq, b84_PC3, g12, g2, dk0, decide_eq_false r0, decide_eq_true r1]) | refine AM.drawW_fine hp (by kernel_rfl) (by kernel_rfl) (by kernel_rfl) ?_ | refine AM.opW_tied (by kernel_rfl) ?_ | refine AM.opW_untied (by kernel_rfl) ?_ | refine AM.build_w ?_))
    exact hq _ m2 fin
  (repeat' (first | (simp (maxSteps := 1000000) (disch := first | omega | (simp only [AM.DB, List.length_set, List.length_map]; first | done | omega)) only [AM.RB, Nat.reduceAdd, Nat.reduceMul, Nat.reduceEqDiff, reduceCtorEq, b84_PC3, g12, g2, dk0, decide_eq_false r0, decide_eq_false r1]) | refine AM.drawW_fine hp (by kernel_rfl) (by kernel_rfl) (by kernel_rfl) ?_ | refine AM.opW_tied (by kernel_rfl) ?_ | refine AM.opW_untied (by kernel_rfl) ?_ | refine AM.build_w ?_))
  refine free_w mm f.rows c _ ?_
  have dr0 : decide (0 ≤ r) = true := decide_eq_true (by omega)
  have dr1 : decide (r < (s.1.length : Int)) = true := decide_eq_true (by omega)
  cases fc : freeP L.flatten c
  · have e : may L s (k, r, c) = false := by unfold may; rw [if_neg k0, fc, Bool.and_false]; rfl
    rw [e] at hq
    (repeat' (first | (simp (maxSteps := 1000000) (disch := first | omega | (simp only [AM.DB, List.length_set, List.length_map]; first | done | omega)) only [AM.RB, Nat.reduceAdd, Nat.reduceMul, Nat.reduceEqDiff, reduceCtorEq, b84_PC3]) | refine AM.drawW_fine hp (by kernel_rfl) (by kernel_rfl) (by kernel_rfl) ?_ | refine AM.opW_tied (by kernel_rfl) ?_ | refine AM.opW_untied (by kernel_rfl) ?_ | refine AM.build_w ?_))
    exact hq _ m2 fin
  obtain ⟨c1, c2⟩ := freeP_in fc
  obtain ⟨c, rfl⟩ := Int.eq_ofNat_of_zero_le c1
  obtain ⟨r, rfl⟩ := Int.eq_ofNat_of_zero_le (show 0 ≤ r by omega)
  have hcl : c < s.2.length := by omega
  have hrl : r < s.1.length := by omega
  obtain ⟨at_, hat⟩ : ∃ y, s.1.getD r 0 = y := ⟨_, rfl⟩
  obtain ⟨ho, hho⟩ : ∃ y, s.2.getD c 0 = y := ⟨_, rfl⟩
  have e : may L s (k, r, c) = (if k = 1 then decide (ho = -1) else if k = 2 then decide (ho = r) && !decide (at_ = c) else if k = 3 then decide (ho = r) && edgeL L at_ c else false) := by
    unfold may
    simp only [Int.toNat_natCast]
    rw [if_neg k0, fc, dr0, dr1]
    simp only [hat, hho, Bool.and_self, Bool.true_and]
  rw [e] at hq
  (repeat' (first | (simp (maxSteps := 1000000) (disch := first | omega | (simp only [AM.DB, List.length_set, List.length_map]; first | done | omega)) only [AM.RB, Nat.reduceAdd, Nat.reduceMul, Nat.reduceEqDiff, reduceCtorEq, b84_PC3, g12, g2, ra2.ia el_22, Rd.ldi ra2 lk_3, rb2.ia el_22, Rd.ldi rb2 lk_3, Int.toNat_natCast, hat, hho]) | refine AM.drawW_fine hp (by kernel_rfl) (by kernel_rfl) (by kernel_rfl) ?_ | refine AM.opW_tied (by kernel_rfl) ?_ | refine AM.opW_untied (by kernel_rfl) ?_ | refine AM.build_w ?_))
  by_cases k1 : k = 1
  · rw [if_pos k1] at hq
    (repeat' (first | (simp (maxSteps := 1000000) (disch := first | omega | (simp only [AM.DB, List.length_set, List.length_map]; first | done | omega)) only [AM.RB, Nat.reduceAdd, Nat.reduceMul, Nat.reduceEqDiff, reduceCtorEq, b84_PC3, g12, g2, decide_eq_true k1]) | refine AM.drawW_fine hp (by kernel_rfl) (by kernel_rfl) (by kernel_rfl) ?_ | refine AM.opW_tied (by kernel_rfl) ?_ | refine AM.opW_untied (by kernel_rfl) ?_ | refine AM.build_w ?_))
    exact hq _ m2 fin
  by_cases k2 : k = 2
  · rw [if_neg k1, if_pos k2] at hq
    cases d1 : decide (ho = (r : Int)) <;> rw [d1] at hq
    · (repeat' (first | (simp (maxSteps := 1000000) (disch := first | omega | (simp only [AM.DB, List.length_set, List.length_map]; first | done | omega)) only [AM.RB, Nat.reduceAdd, Nat.reduceMul, Nat.reduceEqDiff, reduceCtorEq, b84_PC3, g12, g2, decide_eq_false k1, decide_eq_true k2, d1]) | refine AM.drawW_fine hp (by kernel_rfl) (by kernel_rfl) (by kernel_rfl) ?_ | refine AM.opW_tied (by kernel_rfl) ?_ | refine AM.opW_untied (by kernel_rfl) ?_ | refine AM.build_w ?_))
      exact hq _ m2 fin
    · cases d2 : decide (at_ = (c : Int)) <;> rw [d2] at hq
      all_goals (
        (repeat' (first | (simp (maxSteps := 1000000) (disch := first | omega | (simp only [AM.DB, List.length_set, List.length_map]; first | done | omega)) only [AM.RB, Nat.reduceAdd, Nat.reduceMul, Nat.reduceEqDiff, reduceCtorEq, b84_PC3, g12, g2, decide_eq_false k1, decide_eq_true k2, d1, d2]) | refine AM.drawW_fine hp (by kernel_rfl) (by kernel_rfl) (by kernel_rfl) ?_ | refine AM.opW_tied (by kernel_rfl) ?_ | refine AM.opW_untied (by kernel_rfl) ?_ | refine AM.build_w ?_))
        first | exact hq _ m2 fin | skip)
  by_cases k3 : k = 3
  · rw [if_neg k1, if_neg k2, if_pos k3] at hq
    cases d1 : decide (ho = (r : Int)) <;> rw [d1] at hq
    · (repeat' (first | (simp (maxSteps := 1000000) (disch := first | omega | (simp only [AM.DB, List.length_set, List.length_map]; first | done | omega)) only [AM.RB, Nat.reduceAdd, Nat.reduceMul, Nat.reduceEqDiff, reduceCtorEq, b84_PC3, g12, g2, decide_eq_false k1, decide_eq_false k2, decide_eq_true k3, d1]) | refine AM.drawW_fine hp (by kernel_rfl) (by kernel_rfl) (by kernel_rfl) ?_ | refine AM.opW_tied (by kernel_rfl) ?_ | refine AM.opW_untied (by kernel_rfl) ?_ | refine AM.build_w ?_))
      exact hq _ m2 fin
    · (repeat' (first | (simp (maxSteps := 1000000) (disch := first | omega | (simp only [AM.DB, List.length_set, List.length_map]; first | done | omega)) only [AM.RB, Nat.reduceAdd, Nat.reduceMul, Nat.reduceEqDiff, reduceCtorEq, b84_PC3, g12, g2, decide_eq_false k1, decide_eq_false k2, decide_eq_true k3, d1]) | refine AM.drawW_fine hp (by kernel_rfl) (by kernel_rfl) (by kernel_rfl) ?_ | refine AM.opW_tied (by kernel_rfl) ?_ | refine AM.opW_untied (by kernel_rfl) ?_ | refine AM.build_w ?_))
      refine edgeK_w m2 f hw2 (by omega) (by omega) _ _ fun h3 m3 fr3 => ?_
      rw [Bool.true_and] at hq
      cases d2 : edgeL L at_ (c : Int) <;> rw [d2] at hq
      all_goals (
        (repeat' (first | (simp (maxSteps := 1000000) (disch := first | omega | (simp only [AM.DB, List.length_set, List.length_map]; first | done | omega)) only [AM.RB, Nat.reduceAdd, Nat.reduceMul, Nat.reduceEqDiff, reduceCtorEq, b84_PC3]) | refine AM.drawW_fine hp (by kernel_rfl) (by kernel_rfl) (by kernel_rfl) ?_ | refine AM.opW_tied (by kernel_rfl) ?_ | refine AM.opW_untied (by kernel_rfl) ?_ | refine AM.build_w ?_))
        first | exact hq _ m3 (toP fr3) | skip)
  · rw [if_neg k1, if_neg k2, if_neg k3] at hq
    (repeat' (first | (simp (maxSteps := 1000000) (disch := first | omega | (simp only [AM.DB, List.length_set, List.length_map]; first | done | omega)) only [AM.RB, Nat.reduceAdd, Nat.reduceMul, Nat.reduceEqDiff, reduceCtorEq, b84_PC3, g12, g2, decide_eq_false k1, decide_eq_false k2, decide_eq_false k3]) | refine AM.drawW_fine hp (by kernel_rfl) (by kernel_rfl) (by kernel_rfl) ?_ | refine AM.opW_tied (by kernel_rfl) ?_ | refine AM.opW_untied (by kernel_rfl) ?_ | refine AM.build_w ?_))
    exact hq _ m2 fin

end Go.Proofs.YtbaohngkapmhlaaDoor
