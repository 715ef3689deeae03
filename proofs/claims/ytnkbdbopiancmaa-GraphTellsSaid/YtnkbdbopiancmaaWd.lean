/- Walks of this claim's functions, and plain laws. -/
import Derived.Test.YtnkbdbopiancmaaWc
import Derived.Test.YtnkbdbopiancmaaAMOps8
set_option linter.unusedSimpArgs false
set_option linter.unusedVariables false
namespace Go.Proofs.Ytnkbdbopiancmaa
open Go.AM
set_option maxRecDepth 8000
theorem b5_GT6 : type_of% (And.intro (@Option.isNone_none.{0}) (And.intro (@Option.isNone_some.{0}) (And.intro (@AM.bin_add) (And.intro (AM.bin_bne ul_4) (And.intro (@AM.bin_eql) (And.intro (@AM.bin_geq) (And.intro (@AM.bin_gtr) (And.intro (@AM.bin_leq) (And.intro (@AM.bin_lss) (And.intro (@AM.bin_neq) (And.intro (AM.bin_pnil ul_24) (And.intro (AM.bsW_int bs_26) (And.intro (AM.bsW_nil bs_26) (And.intro (AM.bsW_slice bs_26) (And.intro (AM.bsW_string bs_26) (And.intro (@AM.ex_tuple) (And.intro (@AM.iaA_ok) (And.intro (@AM.iaO_ok) (And.intro (AM.ia_array ar_42) (And.intro (AM.ia_slice el_22) (And.intro (AM.ia_slice el_26) (And.intro (@AM.ldO_agg) (And.intro (@AM.ldO_one) (And.intro (@AM.ld_ptr) (And.intro (AM.len_slice ul_22) (And.intro (AM.len_slice ul_26) (And.intro (@lk_3) (And.intro (@AM.op_append) (And.intro (@AM.op_binOp) (And.intro (@AM.op_buildSlice) (And.intro (@AM.op_call) (And.intro (@AM.op_extract) (And.intro (@AM.op_indexAddr) (And.intro (@AM.op_len) (And.intro (@AM.op_load) (And.intro (@AM.op_store) (And.intro (@AM.op_unOp) (And.intro (@AM.stO_agg) (And.intro (@AM.stO_bool) (And.intro (@AM.stO_int) (And.intro (@AM.stO_map) (And.intro (@AM.stO_pointer) (And.intro (@AM.stO_slice) (And.intro (@AM.stO_string) (And.intro (@AM.st_ptr) (And.intro (@sz_3) (And.intro (@AM.un_neg) (@AM.un_not)))))))))))))))))))))))))))))))))))))))))))))))) := And.intro (@Option.isNone_none.{0}) (And.intro (@Option.isNone_some.{0}) (And.intro (@AM.bin_add) (And.intro (AM.bin_bne ul_4) (And.intro (@AM.bin_eql) (And.intro (@AM.bin_geq) (And.intro (@AM.bin_gtr) (And.intro (@AM.bin_leq) (And.intro (@AM.bin_lss) (And.intro (@AM.bin_neq) (And.intro (AM.bin_pnil ul_24) (And.intro (AM.bsW_int bs_26) (And.intro (AM.bsW_nil bs_26) (And.intro (AM.bsW_slice bs_26) (And.intro (AM.bsW_string bs_26) (And.intro (@AM.ex_tuple) (And.intro (@AM.iaA_ok) (And.intro (@AM.iaO_ok) (And.intro (AM.ia_array ar_42) (And.intro (AM.ia_slice el_22) (And.intro (AM.ia_slice el_26) (And.intro (@AM.ldO_agg) (And.intro (@AM.ldO_one) (And.intro (@AM.ld_ptr) (And.intro (AM.len_slice ul_22) (And.intro (AM.len_slice ul_26) (And.intro (@lk_3) (And.intro (@AM.op_append) (And.intro (@AM.op_binOp) (And.intro (@AM.op_buildSlice) (And.intro (@AM.op_call) (And.intro (@AM.op_extract) (And.intro (@AM.op_indexAddr) (And.intro (@AM.op_len) (And.intro (@AM.op_load) (And.intro (@AM.op_store) (And.intro (@AM.op_unOp) (And.intro (@AM.stO_agg) (And.intro (@AM.stO_bool) (And.intro (@AM.stO_int) (And.intro (@AM.stO_map) (And.intro (@AM.stO_pointer) (And.intro (@AM.stO_slice) (And.intro (@AM.stO_string) (And.intro (@AM.st_ptr) (And.intro (@sz_3) (And.intro (@AM.un_neg) (@AM.un_not)))))))))))))))))))))))))))))))))))))))))))))))


theorem stabL_elF {P : Program} {h hk : AHeap} {t e : TypeId} {n m sz j f : Nat} {s : Value} {cs : List Value} {k : IntKind} {b : Int} (x : Rd h e sz s n cs) (hj : j < n) (hm : h.next ≤ m) (hl : aLoad P hk t (elF s sz j f) = some (.int k b)) : stabL P hk t (elF s sz j f) m (.int k b) := by
  rcases x with ⟨rfl, rfl, _⟩ | ⟨id, off, cap, c, e', o, rfl, _, hg, _⟩
  · omega
  · have := AM.get_some_lt hg
    unfold elF at hl ⊢
    simp only at hl ⊢
    exact AM.stabL_int (by omega) hl

set_option maxHeartbeats 16000000 in
theorem tells_w {h : AHeap} {n a : Int} {s : Value} {M : List (Int × Int)} (hM : Rd h 42 2 s M.length (M.flatMap encP)) (hm : (M.length : Int) ≤ 9223372036854775807) (hl : h.low ≤ h.next) :
    W 5 [.int .i64 n, s, .int .i64 a] h fun v _ => v = .bool true := by
  obtain ⟨ma, mc, rfl⟩ := hM.form
  have d20 : decide ((20 : Int) = 0) = false := rfl
  have d00 : decide ((0 : Int) = 0) = true := rfl
  refine AM.enter hp (fn := Try.f5) (rs := [.tmp 6]) (nt := 194) (by kernel_rfl) Try.func5 rfl rfl rfl (by kernel_rfl) ?_
  by_cases c3 : 300 < (M.length : Int)
  · have d3 : decide (300 < (M.length : Int)) = true := decide_eq_true c3
    by_cases c1 : 40 < n
    · by_cases c2 : n ≤ 1024
      · (repeat' (first | (simp (maxSteps := 1000000) (disch := first | omega | (simp only [AM.DB, List.length_set, List.length_map]; first | done | omega)) only [AM.RB, Nat.reduceAdd, Nat.reduceMul, Nat.reduceEqDiff, reduceCtorEq, b5_GT6, d3, decide_eq_true c1, decide_eq_true c2]) | refine AM.drawW_fine (id := 10) hp (by kernel_rfl) (by kernel_rfl) (by kernel_rfl) ?_ | refine AM.drawW_loose (id := 11) hp (by kernel_rfl) (by kernel_rfl) ?_ | refine AM.opW_tied (by kernel_rfl) ?_ | refine AM.opW_untied (by kernel_rfl) ?_))
      · (repeat' (first | (simp (maxSteps := 1000000) (disch := first | omega | (simp only [AM.DB, List.length_set, List.length_map]; first | done | omega)) only [AM.RB, Nat.reduceAdd, Nat.reduceMul, Nat.reduceEqDiff, reduceCtorEq, b5_GT6, d3, decide_eq_true c1, decide_eq_false c2]) | refine AM.drawW_fine (id := 10) hp (by kernel_rfl) (by kernel_rfl) (by kernel_rfl) ?_ | refine AM.drawW_loose (id := 11) hp (by kernel_rfl) (by kernel_rfl) ?_ | refine AM.opW_tied (by kernel_rfl) ?_ | refine AM.opW_untied (by kernel_rfl) ?_))
    · (repeat' (first | (simp (maxSteps := 1000000) (disch := first | omega | (simp only [AM.DB, List.length_set, List.length_map]; first | done | omega)) only [AM.RB, Nat.reduceAdd, Nat.reduceMul, Nat.reduceEqDiff, reduceCtorEq, b5_GT6, d3, decide_eq_false c1]) | refine AM.drawW_fine (id := 10) hp (by kernel_rfl) (by kernel_rfl) (by kernel_rfl) ?_ | refine AM.drawW_loose (id := 11) hp (by kernel_rfl) (by kernel_rfl) ?_ | refine AM.opW_tied (by kernel_rfl) ?_ | refine AM.opW_untied (by kernel_rfl) ?_))
  have d3 : decide (300 < (M.length : Int)) = false := decide_eq_false c3
  by_cases bad : ¬ (0 ≤ n ∧ n ≤ 1024)
  · by_cases c1 : 40 < n
    · have c2 : ¬ n ≤ 1024 := by omega
      (repeat' (first | (simp (maxSteps := 1000000) (disch := first | omega | (simp only [AM.DB, List.length_set, List.length_map]; first | done | omega)) only [AM.RB, Nat.reduceAdd, Nat.reduceMul, Nat.reduceEqDiff, reduceCtorEq, b5_GT6, d3, decide_eq_true c1, decide_eq_false c2]) | refine AM.drawW_fine (id := 10) hp (by kernel_rfl) (by kernel_rfl) (by kernel_rfl) ?_ | refine AM.drawW_loose (id := 11) hp (by kernel_rfl) (by kernel_rfl) ?_ | refine AM.opW_tied (by kernel_rfl) ?_ | refine AM.opW_untied (by kernel_rfl) ?_))
      refine grNew_w hl (fun _ => ?_) (fun q => absurd q bad)
      (repeat' (first | (simp (maxSteps := 1000000) (disch := first | omega | (simp only [AM.DB, List.length_set, List.length_map]; first | done | omega)) only [AM.RB, Nat.reduceAdd, Nat.reduceMul, Nat.reduceEqDiff, reduceCtorEq, b5_GT6]) | refine AM.drawW_fine (id := 10) hp (by kernel_rfl) (by kernel_rfl) (by kernel_rfl) ?_ | refine AM.drawW_loose (id := 11) hp (by kernel_rfl) (by kernel_rfl) ?_ | refine AM.opW_tied (by kernel_rfl) ?_ | refine AM.opW_untied (by kernel_rfl) ?_))
      refine rfNew_w hl (fun _ => ?_) (fun q => absurd q bad)
      (repeat' (first | (simp (maxSteps := 1000000) (disch := first | omega | (simp only [AM.DB, List.length_set, List.length_map]; first | done | omega)) only [AM.RB, Nat.reduceAdd, Nat.reduceMul, Nat.reduceEqDiff, reduceCtorEq, b5_GT6, d20]) | refine AM.drawW_fine (id := 10) hp (by kernel_rfl) (by kernel_rfl) (by kernel_rfl) ?_ | refine AM.drawW_loose (id := 11) hp (by kernel_rfl) (by kernel_rfl) ?_ | refine AM.opW_tied (by kernel_rfl) ?_ | refine AM.opW_untied (by kernel_rfl) ?_))
    · (repeat' (first | (simp (maxSteps := 1000000) (disch := first | omega | (simp only [AM.DB, List.length_set, List.length_map]; first | done | omega)) only [AM.RB, Nat.reduceAdd, Nat.reduceMul, Nat.reduceEqDiff, reduceCtorEq, b5_GT6, d3, decide_eq_false c1]) | refine AM.drawW_fine (id := 10) hp (by kernel_rfl) (by kernel_rfl) (by kernel_rfl) ?_ | refine AM.drawW_loose (id := 11) hp (by kernel_rfl) (by kernel_rfl) ?_ | refine AM.opW_tied (by kernel_rfl) ?_ | refine AM.opW_untied (by kernel_rfl) ?_))
      refine grNew_w hl (fun _ => ?_) (fun q => absurd q bad)
      (repeat' (first | (simp (maxSteps := 1000000) (disch := first | omega | (simp only [AM.DB, List.length_set, List.length_map]; first | done | omega)) only [AM.RB, Nat.reduceAdd, Nat.reduceMul, Nat.reduceEqDiff, reduceCtorEq, b5_GT6]) | refine AM.drawW_fine (id := 10) hp (by kernel_rfl) (by kernel_rfl) (by kernel_rfl) ?_ | refine AM.drawW_loose (id := 11) hp (by kernel_rfl) (by kernel_rfl) ?_ | refine AM.opW_tied (by kernel_rfl) ?_ | refine AM.opW_untied (by kernel_rfl) ?_))
      refine rfNew_w hl (fun _ => ?_) (fun q => absurd q bad)
      (repeat' (first | (simp (maxSteps := 1000000) (disch := first | omega | (simp only [AM.DB, List.length_set, List.length_map]; first | done | omega)) only [AM.RB, Nat.reduceAdd, Nat.reduceMul, Nat.reduceEqDiff, reduceCtorEq, b5_GT6, d20]) | refine AM.drawW_fine (id := 10) hp (by kernel_rfl) (by kernel_rfl) (by kernel_rfl) ?_ | refine AM.drawW_loose (id := 11) hp (by kernel_rfl) (by kernel_rfl) ?_ | refine AM.opW_tied (by kernel_rfl) ?_ | refine AM.opW_untied (by kernel_rfl) ?_))
  have good : 0 ≤ n ∧ n ≤ 1024 := Decidable.of_not_not bad
  by_cases c1 : 40 < n
  · (repeat' (first | (simp (maxSteps := 1000000) (disch := first | omega | (simp only [AM.DB, List.length_set, List.length_map]; first | done | omega)) only [AM.RB, Nat.reduceAdd, Nat.reduceMul, Nat.reduceEqDiff, reduceCtorEq, b5_GT6, d3, decide_eq_true c1, decide_eq_true good.2]) | refine AM.drawW_fine (id := 10) hp (by kernel_rfl) (by kernel_rfl) (by kernel_rfl) ?_ | refine AM.drawW_loose (id := 11) hp (by kernel_rfl) (by kernel_rfl) ?_ | refine AM.opW_tied (by kernel_rfl) ?_ | refine AM.opW_untied (by kernel_rfl) ?_))
  obtain ⟨k, rfl⟩ := Int.eq_ofNat_of_zero_le good.1
  have k40 : k ≤ 1024 := by omega
  (repeat' (first | (simp (maxSteps := 1000000) (disch := first | omega | (simp only [AM.DB, List.length_set, List.length_map]; first | done | omega)) only [AM.RB, Nat.reduceAdd, Nat.reduceMul, Nat.reduceEqDiff, reduceCtorEq, b5_GT6, d3, decide_eq_false c1]) | refine AM.drawW_fine (id := 10) hp (by kernel_rfl) (by kernel_rfl) (by kernel_rfl) ?_ | refine AM.drawW_loose (id := 11) hp (by kernel_rfl) (by kernel_rfl) ?_ | refine AM.opW_tied (by kernel_rfl) ?_ | refine AM.opW_untied (by kernel_rfl) ?_))
  refine grNew_w hl (fun q => absurd good q) fun _ h1 p Sg x1 fr1 hS1 => ?_
  have hl1 := fr1.hl hl
  rw [Int.toNat_natCast] at x1
  (repeat' (first | (simp (maxSteps := 1000000) (disch := first | omega | (simp only [AM.DB, List.length_set, List.length_map]; first | done | omega)) only [AM.RB, Nat.reduceAdd, Nat.reduceMul, Nat.reduceEqDiff, reduceCtorEq, b5_GT6]) | refine AM.drawW_fine (id := 10) hp (by kernel_rfl) (by kernel_rfl) (by kernel_rfl) ?_ | refine AM.drawW_loose (id := 11) hp (by kernel_rfl) (by kernel_rfl) ?_ | refine AM.opW_tied (by kernel_rfl) ?_ | refine AM.opW_untied (by kernel_rfl) ?_))
  refine rfNew_w hl1 (fun q => absurd good q) fun _ h2 q Sr y2 fr2 hS2 => ?_
  have hl2 := fr2.hl hl1
  rw [Int.toNat_natCast] at y2
  have fr02 := fr1.trans fr2
  have x2 := x1.fr0 fr2
  have n1 := fr1.next
  have n2 := fr2.next
  (repeat' (first | (simp (maxSteps := 1000000) (disch := first | omega | (simp only [AM.DB, List.length_set, List.length_map]; first | done | omega)) only [AM.RB, Nat.reduceAdd, Nat.reduceMul, Nat.reduceEqDiff, reduceCtorEq, b5_GT6, d00]) | refine AM.drawW_fine (id := 10) hp (by kernel_rfl) (by kernel_rfl) (by kernel_rfl) ?_ | refine AM.drawW_loose (id := 11) hp (by kernel_rfl) (by kernel_rfl) ?_ | refine AM.opW_tied (by kernel_rfl) ?_ | refine AM.opW_untied (by kernel_rfl) ?_))
  refine AM.loop_w hp 194 (fun i : Nat => [(0, .int .i64 k), (1, .slice ma M.length mc), (2, .int .i64 a), (7, pv p), (9, pv q), (52, .int .i64 M.length), (53, .int .i64 i)])
    (fun i h' => i ≤ M.length ∧ Fr none' h h' ∧ h2.next ≤ h'.next ∧ Rt h' q k (addsE k noE (M.take i)) Sr ∧ ∃ S, Gt h' p k (addsE k noE (M.take i)) S ∧ ∀ id, S id → h.next ≤ id ∧ ¬ Sr id) (fun i => M.length - i) (by kernel_rfl) 0 ?_ ?_ ?_
  · simp (maxSteps := 1000000) (disch := first | omega | (simp only [AM.DB, List.length_set, List.length_map]; first | done | omega)) only [AM.RB, Nat.reduceAdd, Nat.reduceMul, Nat.reduceEqDiff, reduceCtorEq, b5_GT6]
    first | rfl | skip
  · exact ⟨Nat.zero_le _, fr02, Nat.le_refl _, y2, Sg, x2, fun id t => ⟨hS1 id t, fun t2 => by have := (hS2 id t2).1; have := x1.lt t; omega⟩⟩
  rintro i h3 ρ ⟨hi, fr3, nx3, y3, S3, x3, hS3⟩
  have hl3 := fr3.hl hl
  have M3 := hM.fr0 fr3
  (repeat' (first | (simp (maxSteps := 1000000) (disch := first | omega | (simp only [AM.DB, List.length_set, List.length_map]; first | done | omega)) only [AM.RB, Nat.reduceAdd, Nat.reduceMul, Nat.reduceEqDiff, reduceCtorEq, b5_GT6]) | refine AM.drawW_fine (id := 10) hp (by kernel_rfl) (by kernel_rfl) (by kernel_rfl) ?_ | refine AM.drawW_loose (id := 11) hp (by kernel_rfl) (by kernel_rfl) ?_ | refine AM.opW_tied (by kernel_rfl) ?_ | refine AM.opW_untied (by kernel_rfl) ?_))
  refine AM.condV_split (fun hlt => ?_) (fun hlt => ?_)
  · have hil : i < M.length := by omega
    obtain ⟨bc, hbc⟩ : ∃ x, M.getD i (0, 0) = x := ⟨_, rfl⟩
    obtain ⟨b, c⟩ := bc
    have ld := fun (h' : AHeap) (f' : Fr none' h h') => show aLoad Try.prog h' 3 (elF (.slice ma M.length mc) 2 i 0) = some (.int .i64 b) ∧ aLoad Try.prog h' 3 (elF (.slice ma M.length mc) 2 i 1) = some (.int .i64 c) from by
      have e0 := Rd.ldsF (g := encP) encP_len (hM.fr0 f') lk_3 rfl (0, 0) i 0 hil (by omega)
      have e1 := Rd.ldsF (g := encP) encP_len (hM.fr0 f') lk_3 rfl (0, 0) i 1 hil (by omega)
      rw [hbc] at e0 e1
      exact ⟨e0, e1⟩
    have ad0 : aIndexAddr Try.prog 42 (elP (.slice ma M.length mc) 2 i) (.int .i64 0) = some (elF (.slice ma M.length mc) 2 i 0) := M3.aa ar_42 .i64 0 i hil (by decide) (by decide)
    have ad1 : aIndexAddr Try.prog 42 (elP (.slice ma M.length mc) 2 i) (.int .i64 1) = some (elF (.slice ma M.length mc) 2 i 1) := M3.aa ar_42 .i64 1 i hil (by decide) (by decide)
    obtain ⟨l30, l31⟩ := ld h3 fr3
    have e := addsE_succ k noE M hil
    rw [hbc] at e
    (repeat' (first | (simp (maxSteps := 1000000) (disch := first | omega | (simp only [AM.DB, List.length_set, List.length_map]; first | done | omega)) only [AM.RB, Nat.reduceAdd, Nat.reduceMul, Nat.reduceEqDiff, reduceCtorEq, b5_GT6, M3.ia el_22, Int.toNat_natCast, ad0, ad1, l30, l31]) | refine AM.drawW_fine (id := 10) hp (by kernel_rfl) (by kernel_rfl) (by kernel_rfl) ?_ | refine AM.drawW_loose (id := 11) hp (by kernel_rfl) (by kernel_rfl) ?_ | refine AM.opW_tied (by kernel_rfl) ?_ | refine AM.opW_untied (by kernel_rfl) ?_))
    refine grAdd_w x3 k40 hl3 b c fun h4 S4 x4 fr4 hS4 hS4' => ?_
    rw [← e] at x4
    have fr04 := fr3.fresh fr4 (fun id t => (hS3 id t).1)
    have hl4 := fr4.hl hl3
    have n4 := fr4.next
    have y4 := y3.fr fr4 (fun id t t2 => (hS3 id t2).2 t)
    obtain ⟨l40, l41⟩ := ld h4 fr04
    have M4 := hM.fr0 fr04
    have d4 : ∀ id, S4 id → h.next ≤ id ∧ ¬ Sr id := fun id t => by
      rcases hS4 id t with t | t
      · exact hS3 id t
      · exact ⟨by have := fr3.next; omega, fun t2 => by have := (hS2 id t2).2; omega⟩
    (repeat' (first | (simp (maxSteps := 1000000) (disch := first | omega | (simp only [AM.DB, List.length_set, List.length_map]; first | done | omega)) only [AM.RB, Nat.reduceAdd, Nat.reduceMul, Nat.reduceEqDiff, reduceCtorEq, b5_GT6, M4.ia el_22, Int.toNat_natCast, ad0, ad1, l40, l41]) | refine AM.drawW_fine (id := 10) hp (by kernel_rfl) (by kernel_rfl) (by kernel_rfl) ?_ | refine AM.drawW_loose (id := 11) hp (by kernel_rfl) (by kernel_rfl) ?_ | refine AM.opW_tied (by kernel_rfl) ?_ | refine AM.opW_untied (by kernel_rfl) ?_))
    refine rfAdd_w y4 k40 hl4 b c fun h5 y5 fr5 n5 => ?_
    rw [← e] at y5
    have fr05 := fr04.fresh fr5 (fun id t => by have := (hS2 id t).1; omega)
    have hl5 := fr5.hl hl4
    have x5 := x4.fr fr5 (fun id t t2 => (d4 id t).2 t2)
    obtain ⟨l50, l51⟩ := ld h5 fr05
    have M5 := hM.fr0 fr05
    (repeat' (first | (simp (maxSteps := 1000000) (disch := first | omega | (simp only [AM.DB, List.length_set, List.length_map]; first | done | omega)) only [AM.RB, Nat.reduceAdd, Nat.reduceMul, Nat.reduceEqDiff, reduceCtorEq, b5_GT6, M5.ia el_22, Int.toNat_natCast, ad0, ad1, l50, l51]) | refine AM.drawW_fine (id := 10) hp (by kernel_rfl) (by kernel_rfl) (by kernel_rfl) ?_ | refine AM.drawW_loose (id := 11) hp (by kernel_rfl) (by kernel_rfl) ?_ | refine AM.opW_tied (by kernel_rfl) ?_ | refine AM.opW_untied (by kernel_rfl) ?_))
    refine grHas_w x5 k40 b c ?_
    (repeat' (first | (simp (maxSteps := 1000000) (disch := first | omega | (simp only [AM.DB, List.length_set, List.length_map]; first | done | omega)) only [AM.RB, Nat.reduceAdd, Nat.reduceMul, Nat.reduceEqDiff, reduceCtorEq, b5_GT6, M5.ia el_22, Int.toNat_natCast, ad0, ad1, l50, l51]) | refine AM.drawW_fine (id := 10) hp (by kernel_rfl) (by kernel_rfl) (by kernel_rfl) ?_ | refine AM.drawW_loose (id := 11) hp (by kernel_rfl) (by kernel_rfl) ?_ | refine AM.opW_tied (by kernel_rfl) ?_ | refine AM.opW_untied (by kernel_rfl) ?_))
    refine rfHas_w y5 k40 b c ?_
    (repeat' (first | (simp (maxSteps := 1000000) (disch := first | omega | (simp only [AM.DB, List.length_set, List.length_map]; first | done | omega)) only [AM.RB, Nat.reduceAdd, Nat.reduceMul, Nat.reduceEqDiff, reduceCtorEq, b5_GT6]) | refine AM.drawW_fine (id := 10) hp (by kernel_rfl) (by kernel_rfl) (by kernel_rfl) ?_ | refine AM.drawW_loose (id := 11) hp (by kernel_rfl) (by kernel_rfl) ?_ | refine AM.opW_tied (by kernel_rfl) ?_ | refine AM.opW_untied (by kernel_rfl) ?_))
    refine ⟨AM.looseOk_by [(33, [13, 27]), (38, [13, 27])] (by kernel_rfl) ?_, ?_⟩
    · simp (maxSteps := 1000000) (disch := first | omega | (simp only [AM.DB, List.length_set, List.length_map]; first | done | omega)) only [AM.RB, Nat.reduceAdd, Nat.reduceMul, Nat.reduceEqDiff, reduceCtorEq, b5_GT6, M5.ia el_22, Int.toNat_natCast, ad0, ad1, l50, l51]
      (repeat' apply And.intro) <;> (refine AM.stable_load _ _ _ _ _ _ ?_; (first | (simp (maxSteps := 1000000) (disch := first | omega | (simp only [AM.DB, List.length_set, List.length_map]; first | done | omega)) only [AM.RB, Nat.reduceAdd, Nat.reduceMul, Nat.reduceEqDiff, reduceCtorEq, b5_GT6]) | skip); (first | exact stabL_elF M5 hil (Nat.le_refl _) l50 | exact stabL_elF M5 hil (Nat.le_refl _) l51))
    exact ⟨i + 1, by omega, by rw [AM.wrap_i64 (by omega) (by omega)]; rfl, by omega, fr05, by omega, y5, S4, x5, d4⟩
  obtain rfl : i = M.length := by omega
  rw [List.take_length] at x3 y3
  generalize addsE k noE M = E at *
  have fx : ∀ h' (f' : Fr none' h3 h'), Gt h' p k E S3 := fun h' f' => x3.fr0 f'
  have fy : ∀ h' (f' : Fr none' h3 h'), Rt h' q k E Sr := fun h' f' => y3.fr0 f'
  (repeat' (first | (simp (maxSteps := 1000000) (disch := first | omega | (simp only [AM.DB, List.length_set, List.length_map]; first | done | omega)) only [AM.RB, Nat.reduceAdd, Nat.reduceMul, Nat.reduceEqDiff, reduceCtorEq, b5_GT6]) | refine AM.drawW_fine (id := 10) hp (by kernel_rfl) (by kernel_rfl) (by kernel_rfl) ?_ | refine AM.drawW_loose (id := 11) hp (by kernel_rfl) (by kernel_rfl) ?_ | refine AM.opW_tied (by kernel_rfl) ?_ | refine AM.opW_untied (by kernel_rfl) ?_))
  refine grOut_w x3 k40 hl3 a fun vO h4 oO fr4 hidO => ?_
  have hl4 := fr4.hl hl3
  have lO := outsI_len k E a
  obtain ⟨oa, oc, rfl⟩ := oO.form
  (repeat' (first | (simp (maxSteps := 1000000) (disch := first | omega | (simp only [AM.DB, List.length_set, List.length_map]; first | done | omega)) only [AM.RB, Nat.reduceAdd, Nat.reduceMul, Nat.reduceEqDiff, reduceCtorEq, b5_GT6]) | refine AM.drawW_fine (id := 10) hp (by kernel_rfl) (by kernel_rfl) (by kernel_rfl) ?_ | refine AM.drawW_loose (id := 11) hp (by kernel_rfl) (by kernel_rfl) ?_ | refine AM.opW_tied (by kernel_rfl) ?_ | refine AM.opW_untied (by kernel_rfl) ?_))
  refine grDist_w (fx _ fr4) k40 hl4 a fun vD h5 oD fr5 hidD => ?_
  have hl5 := fr5.hl hl4
  have lD := dI_len k E a
  have fr35 := fr4.trans fr5
  (repeat' (first | (simp (maxSteps := 1000000) (disch := first | omega | (simp only [AM.DB, List.length_set, List.length_map]; first | done | omega)) only [AM.RB, Nat.reduceAdd, Nat.reduceMul, Nat.reduceEqDiff, reduceCtorEq, b5_GT6]) | refine AM.drawW_fine (id := 10) hp (by kernel_rfl) (by kernel_rfl) (by kernel_rfl) ?_ | refine AM.drawW_loose (id := 11) hp (by kernel_rfl) (by kernel_rfl) ?_ | refine AM.opW_tied (by kernel_rfl) ?_ | refine AM.opW_untied (by kernel_rfl) ?_))
  refine rfDist_w (fy _ fr35) k40 hl5 a (-1) false fun vW h6 oW fr6 hidW => ?_
  rw [dE_no] at oW
  have hl6 := fr6.hl hl5
  have fr36 := fr35.trans fr6
  obtain ⟨wa, wc, rfl⟩ := oW.form
  obtain ⟨da, dc, rfl⟩ := oD.form
  (repeat' (first | (simp (maxSteps := 1000000) (disch := first | omega | (simp only [AM.DB, List.length_set, List.length_map]; first | done | omega)) only [AM.RB, Nat.reduceAdd, Nat.reduceMul, Nat.reduceEqDiff, reduceCtorEq, b5_GT6]) | refine AM.drawW_fine (id := 10) hp (by kernel_rfl) (by kernel_rfl) (by kernel_rfl) ?_ | refine AM.drawW_loose (id := 11) hp (by kernel_rfl) (by kernel_rfl) ?_ | refine AM.opW_tied (by kernel_rfl) ?_ | refine AM.opW_untied (by kernel_rfl) ?_))
  refine AM.loop_w hp 194 (fun z : Nat × Value => [(0, .int .i64 k), (2, .int .i64 a), (7, pv p), (9, pv q), (13, .slice oa (outsI k E a).length oc), (14, .slice da (dI k E a).length dc), (15, .slice wa (dI k E a).length wc), (16, z.2), (122, .int .i64 (dI k E a).length), (123, .int .i64 z.1)])
    (fun z h' => z.1 ≤ (dI k E a).length ∧ Ow h' 3 1 z.2 (reachP (dI k E a) z.1).length ((reachP (dI k E a) z.1).map (.int .i64)) ∧ Fr none' h6 h' ∧ ∀ id, idOf z.2 id → h6.next ≤ id) (fun z => (dI k E a).length - z.1) (by kernel_rfl) (0, .slice none 0 0) ?_ ?_ ?_
  · simp (maxSteps := 1000000) (disch := first | omega | (simp only [AM.DB, List.length_set, List.length_map]; first | done | omega)) only [AM.RB, Nat.reduceAdd, Nat.reduceMul, Nat.reduceEqDiff, reduceCtorEq, b5_GT6]
    first | rfl | skip
  · exact ⟨Nat.zero_le _, Ow.nil _ _ _, Fr.refl _ _, fun _ t => t.elim⟩
  rintro ⟨j, v⟩ h7 ρ7 ⟨hj, o7, fr7, hid7⟩
  simp only at hj o7 hid7
  obtain ⟨va, vc, rfl⟩ := o7.form
  have rs := reachP_succ (dI k E a) j
  have rl := reachP_len (dI k E a) j
  have hl7 := fr7.hl hl6
  have rW := (oW.fr0 fr7).rd
  (repeat' (first | (simp (maxSteps := 1000000) (disch := first | omega | (simp only [AM.DB, List.length_set, List.length_map]; first | done | omega)) only [AM.RB, Nat.reduceAdd, Nat.reduceMul, Nat.reduceEqDiff, reduceCtorEq, b5_GT6]) | refine AM.drawW_fine (id := 10) hp (by kernel_rfl) (by kernel_rfl) (by kernel_rfl) ?_ | refine AM.drawW_loose (id := 11) hp (by kernel_rfl) (by kernel_rfl) ?_ | refine AM.opW_tied (by kernel_rfl) ?_ | refine AM.opW_untied (by kernel_rfl) ?_))
  refine AM.condV_split (fun hjt => ?_) (fun hjt => ?_)
  · by_cases hd : 0 ≤ (dI k E a).getD j 0
    · have dd : decide (0 ≤ (dI k E a).getD j 0) = true := decide_eq_true hd
      rw [if_pos hd] at rs
      (repeat' (first | (simp (maxSteps := 1000000) (disch := first | omega | (simp only [AM.DB, List.length_set, List.length_map]; first | done | omega)) only [AM.RB, Nat.reduceAdd, Nat.reduceMul, Nat.reduceEqDiff, reduceCtorEq, b5_GT6, rW.ia el_26, rW.ldi lk_3, Int.toNat_natCast, dd]) | refine AM.drawW_fine (id := 10) hp (by kernel_rfl) (by kernel_rfl) (by kernel_rfl) ?_ | refine AM.drawW_loose (id := 11) hp (by kernel_rfl) (by kernel_rfl) ?_ | refine AM.opW_tied (by kernel_rfl) ?_ | refine AM.opW_untied (by kernel_rfl) ?_))
      generalize hE_ : AHeap.alloc h7 _ = h8; obtain ⟨g8, fr8, n8, l8⟩ := AM.new_get hE_; clear hE_
      refine AM.appends_w ap_26 ap_26 (o7.fr0 fr8) (AM.Rd.whole (n := 1) (c := [.int .i64 (j : Int)]) g8 rfl) rfl (by omega) (AM.fits (by omega) (by omega)) (AM.fits' (by omega)) fun v9 h9 o9 fr9 hid9 => ?_
      have m7 := fr7.next
      (repeat' (first | (simp (maxSteps := 1000000) (disch := first | omega | (simp only [AM.DB, List.length_set, List.length_map]; first | done | omega)) only [AM.RB, Nat.reduceAdd, Nat.reduceMul, Nat.reduceEqDiff, reduceCtorEq, b5_GT6, AM.wrap_i64]) | refine AM.drawW_fine (id := 10) hp (by kernel_rfl) (by kernel_rfl) (by kernel_rfl) ?_ | refine AM.drawW_loose (id := 11) hp (by kernel_rfl) (by kernel_rfl) ?_ | refine AM.opW_tied (by kernel_rfl) ?_ | refine AM.opW_untied (by kernel_rfl) ?_))
      refine ⟨(j + 1, v9), by simp only; omega, ?_, by simp only; omega, ?_, (fr7.trans fr8).fresh fr9 (fun id t => hid7 id t), fun id t => (hid9 id t).elim (hid7 id) (fun t => by omega)⟩
      · simp (maxSteps := 1000000) (disch := first | omega | (simp only [AM.DB, List.length_set, List.length_map]; first | done | omega)) only [AM.RB, Nat.reduceAdd, Nat.reduceMul, Nat.reduceEqDiff, reduceCtorEq, b5_GT6]
        first | rfl | skip
      · simp only
        rw [rs]
        simpa using o9
    · have dd : decide (0 ≤ (dI k E a).getD j 0) = false := decide_eq_false hd
      rw [if_neg hd, List.append_nil] at rs
      (repeat' (first | (simp (maxSteps := 1000000) (disch := first | omega | (simp only [AM.DB, List.length_set, List.length_map]; first | done | omega)) only [AM.RB, Nat.reduceAdd, Nat.reduceMul, Nat.reduceEqDiff, reduceCtorEq, b5_GT6, rW.ia el_26, rW.ldi lk_3, Int.toNat_natCast, dd, AM.wrap_i64]) | refine AM.drawW_fine (id := 10) hp (by kernel_rfl) (by kernel_rfl) (by kernel_rfl) ?_ | refine AM.drawW_loose (id := 11) hp (by kernel_rfl) (by kernel_rfl) ?_ | refine AM.opW_tied (by kernel_rfl) ?_ | refine AM.opW_untied (by kernel_rfl) ?_))
      refine ⟨(j + 1, _), by simp only; omega, ?_, by simp only; omega, ?_, fr7, hid7⟩
      · simp (maxSteps := 1000000) (disch := first | omega | (simp only [AM.DB, List.length_set, List.length_map]; first | done | omega)) only [AM.RB, Nat.reduceAdd, Nat.reduceMul, Nat.reduceEqDiff, reduceCtorEq, b5_GT6]
        first | rfl | skip
      · simp only
        rw [rs]; exact o7
  obtain rfl : j = (dI k E a).length := by omega
  have fr37 := fr36.trans fr7
  have fr47 := (fr5.trans fr6).trans fr7
  (repeat' (first | (simp (maxSteps := 1000000) (disch := first | omega | (simp only [AM.DB, List.length_set, List.length_map]; first | done | omega)) only [AM.RB, Nat.reduceAdd, Nat.reduceMul, Nat.reduceEqDiff, reduceCtorEq, b5_GT6]) | refine AM.drawW_fine (id := 10) hp (by kernel_rfl) (by kernel_rfl) (by kernel_rfl) ?_ | refine AM.drawW_loose (id := 11) hp (by kernel_rfl) (by kernel_rfl) ?_ | refine AM.opW_tied (by kernel_rfl) ?_ | refine AM.opW_untied (by kernel_rfl) ?_))
  refine rfOut_w (fy _ fr37) k40 hl7 a fun v8 h8 o8 fr8 hid8 => ?_
  have hl8 := fr8.hl hl7
  (repeat' (first | (simp (maxSteps := 1000000) (disch := first | omega | (simp only [AM.DB, List.length_set, List.length_map]; first | done | omega)) only [AM.RB, Nat.reduceAdd, Nat.reduceMul, Nat.reduceEqDiff, reduceCtorEq, b5_GT6]) | refine AM.drawW_fine (id := 10) hp (by kernel_rfl) (by kernel_rfl) (by kernel_rfl) ?_ | refine AM.drawW_loose (id := 11) hp (by kernel_rfl) (by kernel_rfl) ?_ | refine AM.opW_tied (by kernel_rfl) ?_ | refine AM.opW_untied (by kernel_rfl) ?_))
  refine same_w (oO.fr0 (fr47.trans fr8)).rd o8.rd (by omega) ?_
  rw [decide_eq_true rfl]
  (repeat' (first | (simp (maxSteps := 1000000) (disch := first | omega | (simp only [AM.DB, List.length_set, List.length_map]; first | done | omega)) only [AM.RB, Nat.reduceAdd, Nat.reduceMul, Nat.reduceEqDiff, reduceCtorEq, b5_GT6]) | refine AM.drawW_fine (id := 10) hp (by kernel_rfl) (by kernel_rfl) (by kernel_rfl) ?_ | refine AM.drawW_loose (id := 11) hp (by kernel_rfl) (by kernel_rfl) ?_ | refine AM.opW_tied (by kernel_rfl) ?_ | refine AM.opW_untied (by kernel_rfl) ?_))
  refine same_w (oD.fr0 ((fr6.trans fr7).trans fr8)).rd (oW.fr0 (fr7.trans fr8)).rd (by omega) ?_
  rw [decide_eq_true rfl]
  (repeat' (first | (simp (maxSteps := 1000000) (disch := first | omega | (simp only [AM.DB, List.length_set, List.length_map]; first | done | omega)) only [AM.RB, Nat.reduceAdd, Nat.reduceMul, Nat.reduceEqDiff, reduceCtorEq, b5_GT6]) | refine AM.drawW_fine (id := 10) hp (by kernel_rfl) (by kernel_rfl) (by kernel_rfl) ?_ | refine AM.drawW_loose (id := 11) hp (by kernel_rfl) (by kernel_rfl) ?_ | refine AM.opW_tied (by kernel_rfl) ?_ | refine AM.opW_untied (by kernel_rfl) ?_))
  refine grReach_w (fx _ (fr37.trans fr8)) k40 hl8 a fun v9 h9 o9 fr9 hid9 => ?_
  have hl9 := fr9.hl hl8
  (repeat' (first | (simp (maxSteps := 1000000) (disch := first | omega | (simp only [AM.DB, List.length_set, List.length_map]; first | done | omega)) only [AM.RB, Nat.reduceAdd, Nat.reduceMul, Nat.reduceEqDiff, reduceCtorEq, b5_GT6]) | refine AM.drawW_fine (id := 10) hp (by kernel_rfl) (by kernel_rfl) (by kernel_rfl) ?_ | refine AM.drawW_loose (id := 11) hp (by kernel_rfl) (by kernel_rfl) ?_ | refine AM.opW_tied (by kernel_rfl) ?_ | refine AM.opW_untied (by kernel_rfl) ?_))
  refine same_w o9.rd (o7.fr0 (fr8.trans fr9)).rd (by omega) ?_
  rw [decide_eq_true rfl]
  (repeat' (first | (simp (maxSteps := 1000000) (disch := first | omega | (simp only [AM.DB, List.length_set, List.length_map]; first | done | omega)) only [AM.RB, Nat.reduceAdd, Nat.reduceMul, Nat.reduceEqDiff, reduceCtorEq, b5_GT6]) | refine AM.drawW_fine (id := 10) hp (by kernel_rfl) (by kernel_rfl) (by kernel_rfl) ?_ | refine AM.drawW_loose (id := 11) hp (by kernel_rfl) (by kernel_rfl) ?_ | refine AM.opW_tied (by kernel_rfl) ?_ | refine AM.opW_untied (by kernel_rfl) ?_))
  have fr39 := (fr37.trans fr8).trans fr9
  refine grLen_w (fx _ fr39) ?_
  have oO9 := oO.fr0 ((fr47.trans fr8).trans fr9)
  (repeat' (first | (simp (maxSteps := 1000000) (disch := first | omega | (simp only [AM.DB, List.length_set, List.length_map]; first | done | omega)) only [AM.RB, Nat.reduceAdd, Nat.reduceMul, Nat.reduceEqDiff, reduceCtorEq, b5_GT6]) | refine AM.drawW_fine (id := 10) hp (by kernel_rfl) (by kernel_rfl) (by kernel_rfl) ?_ | refine AM.drawW_loose (id := 11) hp (by kernel_rfl) (by kernel_rfl) ?_ | refine AM.opW_tied (by kernel_rfl) ?_ | refine AM.opW_untied (by kernel_rfl) ?_))
  refine AM.loop_w hp 194 (fun t : Nat => [(2, .int .i64 a), (7, pv p), (9, pv q), (13, .slice oa (outsI k E a).length oc), (163, .int .i64 (outsI k E a).length), (164, .int .i64 t)])
    (fun t h' => t ≤ (outsI k E a).length ∧ (∃ L : List Int, Ow h' 3 1 (.slice oa (outsI k E a).length oc) (outsI k E a).length (L.map (.int .i64))) ∧ Fr (idOf (.slice oa (outsI k E a).length oc)) h9 h') (fun t => (outsI k E a).length - t) (by kernel_rfl) 0 ?_ ?_ ?_
  · simp (maxSteps := 1000000) (disch := first | omega | (simp only [AM.DB, List.length_set, List.length_map]; first | done | omega)) only [AM.RB, Nat.reduceAdd, Nat.reduceMul, Nat.reduceEqDiff, reduceCtorEq, b5_GT6]
    first | rfl | skip
  · exact ⟨Nat.zero_le _, ⟨_, oO9⟩, Fr.refl _ _⟩
  rintro t hA ρA ⟨ht, ⟨L, oA⟩, frA⟩
  have hlA := frA.hl hl9
  (repeat' (first | (simp (maxSteps := 1000000) (disch := first | omega | (simp only [AM.DB, List.length_set, List.length_map]; first | done | omega)) only [AM.RB, Nat.reduceAdd, Nat.reduceMul, Nat.reduceEqDiff, reduceCtorEq, b5_GT6]) | refine AM.drawW_fine (id := 10) hp (by kernel_rfl) (by kernel_rfl) (by kernel_rfl) ?_ | refine AM.drawW_loose (id := 11) hp (by kernel_rfl) (by kernel_rfl) ?_ | refine AM.opW_tied (by kernel_rfl) ?_ | refine AM.opW_untied (by kernel_rfl) ?_))
  refine AM.condV_split (fun htt => ?_) (fun htt => ?_)
  · (repeat' (first | (simp (maxSteps := 1000000) (disch := first | omega | (simp only [AM.DB, List.length_set, List.length_map]; first | done | omega)) only [AM.RB, Nat.reduceAdd, Nat.reduceMul, Nat.reduceEqDiff, reduceCtorEq, b5_GT6, oA.ia el_26, Int.toNat_natCast]) | refine AM.drawW_fine (id := 10) hp (by kernel_rfl) (by kernel_rfl) (by kernel_rfl) ?_ | refine AM.drawW_loose (id := 11) hp (by kernel_rfl) (by kernel_rfl) ?_ | refine AM.opW_tied (by kernel_rfl) ?_ | refine AM.opW_untied (by kernel_rfl) ?_))
    refine oA.st sz_3 (j := t) (by omega) rfl rfl fun hB oB frB nB => ?_
    rw [← List.map_set] at oB
    (repeat' (first | (simp (maxSteps := 1000000) (disch := first | omega | (simp only [AM.DB, List.length_set, List.length_map]; first | done | omega)) only [AM.RB, Nat.reduceAdd, Nat.reduceMul, Nat.reduceEqDiff, reduceCtorEq, b5_GT6, AM.wrap_i64]) | refine AM.drawW_fine (id := 10) hp (by kernel_rfl) (by kernel_rfl) (by kernel_rfl) ?_ | refine AM.drawW_loose (id := 11) hp (by kernel_rfl) (by kernel_rfl) ?_ | refine AM.opW_tied (by kernel_rfl) ?_ | refine AM.opW_untied (by kernel_rfl) ?_))
    refine ⟨t + 1, by omega, ?_, by omega, ⟨_, oB⟩, frA.trans frB⟩
    simp (maxSteps := 1000000) (disch := first | omega | (simp only [AM.DB, List.length_set, List.length_map]; first | done | omega)) only [AM.RB, Nat.reduceAdd, Nat.reduceMul, Nat.reduceEqDiff, reduceCtorEq, b5_GT6]
    first | rfl | skip
  have xA := (fx _ fr39).fr frA (fun id u u2 => by have := x3.lt u; have := hidO id u2; omega)
  have yA := (fy _ fr39).fr frA (fun id u u2 => by have := (hS2 id u).2; have := hidO id u2; omega)
  (repeat' (first | (simp (maxSteps := 1000000) (disch := first | omega | (simp only [AM.DB, List.length_set, List.length_map]; first | done | omega)) only [AM.RB, Nat.reduceAdd, Nat.reduceMul, Nat.reduceEqDiff, reduceCtorEq, b5_GT6]) | refine AM.drawW_fine (id := 10) hp (by kernel_rfl) (by kernel_rfl) (by kernel_rfl) ?_ | refine AM.drawW_loose (id := 11) hp (by kernel_rfl) (by kernel_rfl) ?_ | refine AM.opW_tied (by kernel_rfl) ?_ | refine AM.opW_untied (by kernel_rfl) ?_))
  refine grStrong_w xA k40 hlA fun vB hB oB frB hidB => ?_
  have hlB := frB.hl hlA
  (repeat' (first | (simp (maxSteps := 1000000) (disch := first | omega | (simp only [AM.DB, List.length_set, List.length_map]; first | done | omega)) only [AM.RB, Nat.reduceAdd, Nat.reduceMul, Nat.reduceEqDiff, reduceCtorEq, b5_GT6]) | refine AM.drawW_fine (id := 10) hp (by kernel_rfl) (by kernel_rfl) (by kernel_rfl) ?_ | refine AM.drawW_loose (id := 11) hp (by kernel_rfl) (by kernel_rfl) ?_ | refine AM.opW_tied (by kernel_rfl) ?_ | refine AM.opW_untied (by kernel_rfl) ?_))
  refine grJoints_w (xA.fr0 frB) k40 hlB fun vC hC oC frC hidC => ?_
  have hlC := frC.hl hlB
  have lJ := jointsL_len k E k
  (repeat' (first | (simp (maxSteps := 1000000) (disch := first | omega | (simp only [AM.DB, List.length_set, List.length_map]; first | done | omega)) only [AM.RB, Nat.reduceAdd, Nat.reduceMul, Nat.reduceEqDiff, reduceCtorEq, b5_GT6]) | refine AM.drawW_fine (id := 10) hp (by kernel_rfl) (by kernel_rfl) (by kernel_rfl) ?_ | refine AM.drawW_loose (id := 11) hp (by kernel_rfl) (by kernel_rfl) ?_ | refine AM.opW_tied (by kernel_rfl) ?_ | refine AM.opW_untied (by kernel_rfl) ?_))
  refine rfStrong_w (yA.fr0 (frB.trans frC)) k40 hlC fun vE hE oE frE hidE => ?_
  have hlE := frE.hl hlC
  (repeat' (first | (simp (maxSteps := 1000000) (disch := first | omega | (simp only [AM.DB, List.length_set, List.length_map]; first | done | omega)) only [AM.RB, Nat.reduceAdd, Nat.reduceMul, Nat.reduceEqDiff, reduceCtorEq, b5_GT6]) | refine AM.drawW_fine (id := 10) hp (by kernel_rfl) (by kernel_rfl) (by kernel_rfl) ?_ | refine AM.drawW_loose (id := 11) hp (by kernel_rfl) (by kernel_rfl) ?_ | refine AM.opW_tied (by kernel_rfl) ?_ | refine AM.opW_untied (by kernel_rfl) ?_))
  refine same_w (oB.fr0 (frC.trans frE)).rd oE.rd (by omega) ?_
  rw [decide_eq_true rfl]
  (repeat' (first | (simp (maxSteps := 1000000) (disch := first | omega | (simp only [AM.DB, List.length_set, List.length_map]; first | done | omega)) only [AM.RB, Nat.reduceAdd, Nat.reduceMul, Nat.reduceEqDiff, reduceCtorEq, b5_GT6]) | refine AM.drawW_fine (id := 10) hp (by kernel_rfl) (by kernel_rfl) (by kernel_rfl) ?_ | refine AM.drawW_loose (id := 11) hp (by kernel_rfl) (by kernel_rfl) ?_ | refine AM.opW_tied (by kernel_rfl) ?_ | refine AM.opW_untied (by kernel_rfl) ?_))
  have frAE := (frB.trans frC).trans frE
  refine rfJoints_w (yA.fr0 frAE) k40 hlE fun vF hF oF frF hidF => ?_
  have hlF := frF.hl hlE
  (repeat' (first | (simp (maxSteps := 1000000) (disch := first | omega | (simp only [AM.DB, List.length_set, List.length_map]; first | done | omega)) only [AM.RB, Nat.reduceAdd, Nat.reduceMul, Nat.reduceEqDiff, reduceCtorEq, b5_GT6]) | refine AM.drawW_fine (id := 10) hp (by kernel_rfl) (by kernel_rfl) (by kernel_rfl) ?_ | refine AM.drawW_loose (id := 11) hp (by kernel_rfl) (by kernel_rfl) ?_ | refine AM.opW_tied (by kernel_rfl) ?_ | refine AM.opW_untied (by kernel_rfl) ?_))
  refine same_w (oC.fr0 (frE.trans frF)).rd oF.rd (by omega) ?_
  rw [decide_eq_true rfl]
  (repeat' (first | (simp (maxSteps := 1000000) (disch := first | omega | (simp only [AM.DB, List.length_set, List.length_map]; first | done | omega)) only [AM.RB, Nat.reduceAdd, Nat.reduceMul, Nat.reduceEqDiff, reduceCtorEq, b5_GT6]) | refine AM.drawW_fine (id := 10) hp (by kernel_rfl) (by kernel_rfl) (by kernel_rfl) ?_ | refine AM.drawW_loose (id := 11) hp (by kernel_rfl) (by kernel_rfl) ?_ | refine AM.opW_tied (by kernel_rfl) ?_ | refine AM.opW_untied (by kernel_rfl) ?_))
  refine grOut_w (xA.fr0 (frAE.trans frF)) k40 hlF a fun vG hG oG frG hidG => ?_
  have hlG := frG.hl hlF
  (repeat' (first | (simp (maxSteps := 1000000) (disch := first | omega | (simp only [AM.DB, List.length_set, List.length_map]; first | done | omega)) only [AM.RB, Nat.reduceAdd, Nat.reduceMul, Nat.reduceEqDiff, reduceCtorEq, b5_GT6]) | refine AM.drawW_fine (id := 10) hp (by kernel_rfl) (by kernel_rfl) (by kernel_rfl) ?_ | refine AM.drawW_loose (id := 11) hp (by kernel_rfl) (by kernel_rfl) ?_ | refine AM.opW_tied (by kernel_rfl) ?_ | refine AM.opW_untied (by kernel_rfl) ?_))
  refine rfOut_w (yA.fr0 ((frAE.trans frF).trans frG)) k40 hlG a fun vH hH oH frH hidH => ?_
  (repeat' (first | (simp (maxSteps := 1000000) (disch := first | omega | (simp only [AM.DB, List.length_set, List.length_map]; first | done | omega)) only [AM.RB, Nat.reduceAdd, Nat.reduceMul, Nat.reduceEqDiff, reduceCtorEq, b5_GT6]) | refine AM.drawW_fine (id := 10) hp (by kernel_rfl) (by kernel_rfl) (by kernel_rfl) ?_ | refine AM.drawW_loose (id := 11) hp (by kernel_rfl) (by kernel_rfl) ?_ | refine AM.opW_tied (by kernel_rfl) ?_ | refine AM.opW_untied (by kernel_rfl) ?_))
  refine same_w (oG.fr0 frH).rd oH.rd (by omega) ?_
  rw [decide_eq_true rfl]
  (repeat' (first | (simp (maxSteps := 1000000) (disch := first | omega | (simp only [AM.DB, List.length_set, List.length_map]; first | done | omega)) only [AM.RB, Nat.reduceAdd, Nat.reduceMul, Nat.reduceEqDiff, reduceCtorEq, b5_GT6]) | refine AM.drawW_fine (id := 10) hp (by kernel_rfl) (by kernel_rfl) (by kernel_rfl) ?_ | refine AM.drawW_loose (id := 11) hp (by kernel_rfl) (by kernel_rfl) ?_ | refine AM.opW_tied (by kernel_rfl) ?_ | refine AM.opW_untied (by kernel_rfl) ?_))
end Go.Proofs.Ytnkbdbopiancmaa
