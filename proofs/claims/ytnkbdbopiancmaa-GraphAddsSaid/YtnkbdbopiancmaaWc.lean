/- Walks of this claim's functions, and plain laws. -/
import Derived.Test.YtnkbdbopiancmaaWb
import Derived.Test.YtnkbdbopiancmaaAMBfs2
import Derived.Test.YtnkbdbopiancmaaAMBfs3
set_option linter.unusedSimpArgs false
set_option linter.unusedVariables false
namespace Go.Proofs.Ytnkbdbopiancmaa
open Go.AM
set_option maxRecDepth 8000
theorem b8_GR14 : type_of% (And.intro (AM.bsW_int bs_26) (And.intro (AM.bsW_int2 bs_26) (And.intro (AM.bsW_int6 bs_26) (And.intro (AM.bsW_nil bs_26) (And.intro (AM.bsW_slice bs_26) (And.intro (AM.bsW_string bs_26) (And.intro (@AM.op_buildSlice) (@AM.op_call)))))))) := And.intro (AM.bsW_int bs_26) (And.intro (AM.bsW_int2 bs_26) (And.intro (AM.bsW_int6 bs_26) (And.intro (AM.bsW_nil bs_26) (And.intro (AM.bsW_slice bs_26) (And.intro (AM.bsW_string bs_26) (And.intro (@AM.op_buildSlice) (@AM.op_call)))))))
theorem b9_GR14 : type_of% (And.intro (@AM.bin_add) (And.intro (@AM.bin_lss) (And.intro (@AM.bin_neq) (And.intro (@AM.ex_tuple) (And.intro (@AM.iaA_ok) (And.intro (@AM.iaO_ok) (And.intro (AM.ia_array ar_42) (And.intro (AM.ia_slice el_22) (And.intro (@AM.ldO_agg) (And.intro (@AM.ldO_one) (And.intro (@AM.ld_ptr) (And.intro (AM.len_slice ul_22) (And.intro (@lk_3) (And.intro (@AM.op_binOp) (And.intro (@AM.op_call) (And.intro (@AM.op_extract) (And.intro (@AM.op_indexAddr) (And.intro (@AM.op_len) (@AM.op_load))))))))))))))))))) := And.intro (@AM.bin_add) (And.intro (@AM.bin_lss) (And.intro (@AM.bin_neq) (And.intro (@AM.ex_tuple) (And.intro (@AM.iaA_ok) (And.intro (@AM.iaO_ok) (And.intro (AM.ia_array ar_42) (And.intro (AM.ia_slice el_22) (And.intro (@AM.ldO_agg) (And.intro (@AM.ldO_one) (And.intro (@AM.ld_ptr) (And.intro (AM.len_slice ul_22) (And.intro (@lk_3) (And.intro (@AM.op_binOp) (And.intro (@AM.op_call) (And.intro (@AM.op_extract) (And.intro (@AM.op_indexAddr) (And.intro (@AM.op_len) (@AM.op_load))))))))))))))))))


theorem someD1 : dI 6 someE 1 = [2, 0, 1, 2, 3, -1] := by kernel_rfl
theorem someR3 : reachP (dI 6 someE 3) (dI 6 someE 3).length = [3, 4] := by kernel_rfl
theorem someS : strongL 6 someE = [0, 0, 0, 1, 2, 3] := by kernel_rfl
theorem someJ : jointsL 6 someE 6 = [2, 3] := by kernel_rfl

theorem alive_w {h : AHeap} (hl : h.low ≤ h.next) {Q : VQ} (hq : ∀ h', Fr none' h h' → Q (.bool true) h') : W 8 [] h Q := by
  refine AM.enter hp (fn := Try.f8) (rs := [.tmp 0]) (nt := 25) (by kernel_rfl) Try.func8 rfl rfl rfl (by kernel_rfl) ?_
  (first | (simp (maxSteps := 1000000) (disch := first | omega | (simp only [AM.DB, List.length_set, List.length_map]; first | done | omega)) only [AM.RB, Nat.reduceAdd, Nat.reduceMul, Nat.reduceEqDiff, reduceCtorEq, b8_GR14]) | skip)
  refine some_w hl fun h1 p S x1 fr1 hS1 => ?_
  have hl1 := fr1.hl hl
  (first | (simp (maxSteps := 1000000) (disch := first | omega | (simp only [AM.DB, List.length_set, List.length_map]; first | done | omega)) only [AM.RB, Nat.reduceAdd, Nat.reduceMul, Nat.reduceEqDiff, reduceCtorEq, b8_GR14]) | skip)
  refine grDist_w x1 (by omega) hl1 1 fun v2 h2 o2 fr2 hid2 => ?_
  have hl2 := fr2.hl hl1
  rw [someD1] at o2
  (first | (simp (maxSteps := 1000000) (disch := first | omega | (simp only [AM.DB, List.length_set, List.length_map]; first | done | omega)) only [AM.RB, Nat.reduceAdd, Nat.reduceMul, Nat.reduceEqDiff, reduceCtorEq, b8_GR14]) | skip)
  generalize hE_ : AHeap.alloc h2 _ = h3; obtain ⟨g3, fr3, n3, l3⟩ := AM.new_get hE_; clear hE_
  have r3 : Rd h3 3 1 (.slice (some ⟨h2.next, 0, none⟩) 6 6) 6 ([2, 0, 1, 2, 3, -1].map (.int .i64)) := AM.Rd.whole (n := 6) g3 rfl
  have hl3 := fr3.hl hl2
  refine same_w (o2.fr0 fr3).rd r3 (by simp) ?_
  rw [decide_eq_true rfl]
  (first | (simp (maxSteps := 1000000) (disch := first | omega | (simp only [AM.DB, List.length_set, List.length_map]; first | done | omega)) only [AM.RB, Nat.reduceAdd, Nat.reduceMul, Nat.reduceEqDiff, reduceCtorEq, b8_GR14]) | skip)
  refine grReach_w (x1.fr0 (fr2.trans fr3)) (by omega) hl3 3 fun v4 h4 o4 fr4 hid4 => ?_
  have hl4 := fr4.hl hl3
  rw [someR3] at o4
  (first | (simp (maxSteps := 1000000) (disch := first | omega | (simp only [AM.DB, List.length_set, List.length_map]; first | done | omega)) only [AM.RB, Nat.reduceAdd, Nat.reduceMul, Nat.reduceEqDiff, reduceCtorEq, b8_GR14]) | skip)
  generalize hE_ : AHeap.alloc h4 _ = h5; obtain ⟨g5, fr5, n5, l5⟩ := AM.new_get hE_; clear hE_
  have r5 : Rd h5 3 1 (.slice (some ⟨h4.next, 0, none⟩) 2 2) 2 ([3, 4].map (.int .i64)) := AM.Rd.whole (n := 2) g5 rfl
  have hl5 := fr5.hl hl4
  refine same_w (o4.fr0 fr5).rd r5 (by simp) ?_
  rw [decide_eq_true rfl]
  have fr15 := ((fr2.trans fr3).trans fr4).trans fr5
  (first | (simp (maxSteps := 1000000) (disch := first | omega | (simp only [AM.DB, List.length_set, List.length_map]; first | done | omega)) only [AM.RB, Nat.reduceAdd, Nat.reduceMul, Nat.reduceEqDiff, reduceCtorEq, b8_GR14]) | skip)
  refine grStrong_w (x1.fr0 fr15) (by omega) hl5 fun v6 h6 o6 fr6 hid6 => ?_
  have hl6 := fr6.hl hl5
  rw [someS] at o6
  (first | (simp (maxSteps := 1000000) (disch := first | omega | (simp only [AM.DB, List.length_set, List.length_map]; first | done | omega)) only [AM.RB, Nat.reduceAdd, Nat.reduceMul, Nat.reduceEqDiff, reduceCtorEq, b8_GR14]) | skip)
  generalize hE_ : AHeap.alloc h6 _ = h7; obtain ⟨g7, fr7, n7, l7⟩ := AM.new_get hE_; clear hE_
  have r7 : Rd h7 3 1 (.slice (some ⟨h6.next, 0, none⟩) 6 6) 6 ([0, 0, 0, 1, 2, 3].map (.int .i64)) := AM.Rd.whole (n := 6) g7 rfl
  have hl7 := fr7.hl hl6
  refine same_w (o6.fr0 fr7).rd r7 (by simp) ?_
  rw [decide_eq_true rfl]
  have fr17 := (fr15.trans fr6).trans fr7
  (first | (simp (maxSteps := 1000000) (disch := first | omega | (simp only [AM.DB, List.length_set, List.length_map]; first | done | omega)) only [AM.RB, Nat.reduceAdd, Nat.reduceMul, Nat.reduceEqDiff, reduceCtorEq, b8_GR14]) | skip)
  refine grJoints_w (x1.fr0 fr17) (by omega) hl7 fun v8 h8 o8 fr8 hid8 => ?_
  have hl8 := fr8.hl hl7
  rw [someJ] at o8
  (first | (simp (maxSteps := 1000000) (disch := first | omega | (simp only [AM.DB, List.length_set, List.length_map]; first | done | omega)) only [AM.RB, Nat.reduceAdd, Nat.reduceMul, Nat.reduceEqDiff, reduceCtorEq, b8_GR14]) | skip)
  generalize hE_ : AHeap.alloc h8 _ = h9; obtain ⟨g9, fr9, n9, l9⟩ := AM.new_get hE_; clear hE_
  have r9 : Rd h9 3 1 (.slice (some ⟨h8.next, 0, none⟩) 2 2) 2 ([2, 3].map (.int .i64)) := AM.Rd.whole (n := 2) g9 rfl
  refine same_w (o8.fr0 fr9).rd r9 (by simp) ?_
  rw [decide_eq_true rfl]
  (first | (simp (maxSteps := 1000000) (disch := first | omega | (simp only [AM.DB, List.length_set, List.length_map]; first | done | omega)) only [AM.RB, Nat.reduceAdd, Nat.reduceMul, Nat.reduceEqDiff, reduceCtorEq, b8_GR14]) | skip)
  exact hq _ (((fr1.trans fr17).trans fr8).trans fr9)

theorem built_w {h : AHeap} {n : Nat} {s : Value} {M : List (Int × Int)} (hM : Rd h 42 2 s M.length (M.flatMap encP)) (hm : (M.length : Int) ≤ 9223372036854775807) (hn : n ≤ 1024) (hl : h.low ≤ h.next) {Q : VQ}
    (hq : ∀ h' p S, Gt h' p n (addsE n noE M) S → noLoop (addsE n noE M) → Fr none' h h' → (∀ id, S id → h.next ≤ id) → Q (pv p) h') : W 9 [.int .i64 n, s] h Q := by
  obtain ⟨ma, mc, rfl⟩ := hM.form
  have hnl := addsE_noLoop (n := n) M (show noLoop noE from fun _ => rfl)
  refine AM.enter hp (fn := Try.f9) (rs := [.tmp 4]) (nt := 34) (by kernel_rfl) Try.func9 rfl rfl rfl (by kernel_rfl) ?_
  (repeat' (first | (simp (maxSteps := 1000000) (disch := first | omega | (simp only [AM.DB, List.length_set, List.length_map]; first | done | omega)) only [AM.RB, Nat.reduceAdd, Nat.reduceMul, Nat.reduceEqDiff, reduceCtorEq, b9_GR14]) | refine AM.drawW_fine hp (by kernel_rfl) (by kernel_rfl) (by kernel_rfl) ?_ | refine AM.opW_tied (by kernel_rfl) ?_ | refine AM.opW_untied (by kernel_rfl) ?_))
  refine grNew_w hl (fun q => absurd (by omega) q) fun _ h1 p S x1 fr1 hS1 => ?_
  rw [Int.toNat_natCast] at x1
  have hl1 := fr1.hl hl
  (repeat' (first | (simp (maxSteps := 1000000) (disch := first | omega | (simp only [AM.DB, List.length_set, List.length_map]; first | done | omega)) only [AM.RB, Nat.reduceAdd, Nat.reduceMul, Nat.reduceEqDiff, reduceCtorEq, b9_GR14]) | refine AM.drawW_fine hp (by kernel_rfl) (by kernel_rfl) (by kernel_rfl) ?_ | refine AM.opW_tied (by kernel_rfl) ?_ | refine AM.opW_untied (by kernel_rfl) ?_))
  refine AM.loop_w hp 34 (fun i : Nat => [(1, .slice ma M.length mc), (4, .pointer none), (5, pv p), (16, .int .i64 M.length), (17, .int .i64 i)])
    (fun i h' => i ≤ M.length ∧ (∃ S', Gt h' p n (addsE n noE (M.take i)) S' ∧ (∀ id, S' id → h.next ≤ id)) ∧ Rd h' 42 2 (.slice ma M.length mc) M.length (M.flatMap encP) ∧ Fr none' h h') (fun i => M.length - i) (by kernel_rfl) 0 ?_ ?_ ?_
  · simp (maxSteps := 1000000) (disch := first | omega | (simp only [AM.DB, List.length_set, List.length_map]; first | done | omega)) only [AM.RB, Nat.reduceAdd, Nat.reduceMul, Nat.reduceEqDiff, reduceCtorEq, b9_GR14]
    first | rfl | skip
  · exact ⟨Nat.zero_le _, ⟨S, x1, hS1⟩, hM.fr0 fr1, fr1⟩
  rintro i h3 ρ ⟨hi, ⟨S3, x3, hS3⟩, M3, fr3⟩
  have hl3 := fr3.hl hl
  simp (maxSteps := 1000000) (disch := first | omega | (simp only [AM.DB, List.length_set, List.length_map]; first | done | omega)) only [AM.RB, Nat.reduceAdd, Nat.reduceMul, Nat.reduceEqDiff, reduceCtorEq, b9_GR14]
  refine AM.condV_split (fun hlt => ?_) (fun hlt => ?_)
  · have hil : i < M.length := by omega
    obtain ⟨a, ha⟩ : ∃ x, M.getD i (0, 0) = x := ⟨_, rfl⟩
    obtain ⟨b, c⟩ := a
    have ld0 : aLoad Try.prog h3 3 (elF (.slice ma M.length mc) 2 i 0) = some (.int .i64 b) := by
      have := Rd.ldsF (g := encP) encP_len M3 lk_3 rfl (0, 0) i 0 hil (by omega)
      rw [ha] at this; exact this
    have ld1 : aLoad Try.prog h3 3 (elF (.slice ma M.length mc) 2 i 1) = some (.int .i64 c) := by
      have := Rd.ldsF (g := encP) encP_len M3 lk_3 rfl (0, 0) i 1 hil (by omega)
      rw [ha] at this; exact this
    have ad0 : aIndexAddr Try.prog 42 (elP (.slice ma M.length mc) 2 i) (.int .i64 0) = some (elF (.slice ma M.length mc) 2 i 0) := M3.aa ar_42 .i64 0 i hil (by decide) (by decide)
    have ad1 : aIndexAddr Try.prog 42 (elP (.slice ma M.length mc) 2 i) (.int .i64 1) = some (elF (.slice ma M.length mc) 2 i 1) := M3.aa ar_42 .i64 1 i hil (by decide) (by decide)
    (repeat' (first | (simp (maxSteps := 1000000) (disch := first | omega | (simp only [AM.DB, List.length_set, List.length_map]; first | done | omega)) only [AM.RB, Nat.reduceAdd, Nat.reduceMul, Nat.reduceEqDiff, reduceCtorEq, b9_GR14, M3.ia el_22, Int.toNat_natCast, ad0, ad1, ld0, ld1]) | refine AM.drawW_fine hp (by kernel_rfl) (by kernel_rfl) (by kernel_rfl) ?_ | refine AM.opW_tied (by kernel_rfl) ?_ | refine AM.opW_untied (by kernel_rfl) ?_))
    refine grAdd_w x3 hn hl3 b c fun h5 S5 x5 fr5 hS5 hS6 => ?_
    have lM : ∀ id, S3 id → h.next ≤ id := hS3
    have frM : Fr none' h h5 := fr3.fresh fr5 hS3
    have e := addsE_succ n noE M hil
    rw [ha] at e
    have M5 := hM.fr0 frM
    (repeat' (first | (simp (maxSteps := 1000000) (disch := first | omega | (simp only [AM.DB, List.length_set, List.length_map]; first | done | omega)) only [AM.RB, Nat.reduceAdd, Nat.reduceMul, Nat.reduceEqDiff, reduceCtorEq, b9_GR14, AM.wrap_i64]) | refine AM.drawW_fine hp (by kernel_rfl) (by kernel_rfl) (by kernel_rfl) ?_ | refine AM.opW_tied (by kernel_rfl) ?_ | refine AM.opW_untied (by kernel_rfl) ?_))
    refine ⟨i + 1, by omega, ?_, by omega, ⟨S5, by rw [e]; exact x5, fun id q => ?_⟩, M5, frM⟩
    · simp (maxSteps := 1000000) (disch := first | omega | (simp only [AM.DB, List.length_set, List.length_map]; first | done | omega)) only [AM.RB, Nat.reduceAdd, Nat.reduceMul, Nat.reduceEqDiff, reduceCtorEq, b9_GR14]
      first | rfl | skip
    · rcases hS5 id q with q | q
      · exact hS3 id q
      · have := fr3.next; omega
  · obtain rfl : i = M.length := by omega
    rw [List.take_length] at x3
    (repeat' (first | (simp (maxSteps := 1000000) (disch := first | omega | (simp only [AM.DB, List.length_set, List.length_map]; first | done | omega)) only [AM.RB, Nat.reduceAdd, Nat.reduceMul, Nat.reduceEqDiff, reduceCtorEq, b9_GR14]) | refine AM.drawW_fine hp (by kernel_rfl) (by kernel_rfl) (by kernel_rfl) ?_ | refine AM.opW_tied (by kernel_rfl) ?_ | refine AM.opW_untied (by kernel_rfl) ?_))
    exact hq h3 p S3 x3 hnl fr3 hS3
end Go.Proofs.Ytnkbdbopiancmaa

namespace Go.Proofs.Ytnkbdbopiancmaa
open Go.AM
set_option maxRecDepth 8000
/-! ### Distances -/
theorem dI_is {n : Nat} {E : Nat → Nat → Bool} {a : Int} (h0 : 0 ≤ a) (h1 : a < n) : IsDist (outsI n E) n a (dI n E a) := by
  unfold dI
  rw [if_pos ⟨h0, h1⟩]
  exact (bfs_spec outsI_dom h0 h1).1
def kN (n : Int) : Nat := 1 + n.toNat % 40
theorem kN_le (n : Int) : 1 ≤ kN n ∧ kN n ≤ 40 := by unfold kN; omega
theorem kN_eq {n : Int} (h : 0 ≤ n ∧ n < 256) : IntKind.i64.wrap (1 + (IntKind.i64.wrap n).tmod 40) = ((kN n : Nat) : Int) := by
  obtain ⟨m, rfl⟩ := Int.eq_ofNat_of_zero_le h.1
  have e1 : IntKind.i64.wrap (m : Int) = m := AM.wrap_i64 (by omega) (by omega)
  have e2 : (m : Int).tmod 40 = ((m % 40 : Nat) : Int) := by rw [Int.tmod_eq_emod_of_nonneg (by omega)]; omega
  rw [e1, e2, AM.wrap_i64 (by omega) (by omega)]
  unfold kN
  rw [Int.toNat_natCast]; omega
def aN (a : Int) (k : Nat) : Nat := a.toNat % k
theorem aN_lt {a : Int} {k : Nat} (h : 1 ≤ k) : aN a k < k := Nat.mod_lt _ h
theorem aN_eq {a : Int} {k : Nat} (h : 0 ≤ a ∧ a < 256) : (IntKind.i64.wrap a).tmod k = ((aN a k : Nat) : Int) := by
  obtain ⟨m, rfl⟩ := Int.eq_ofNat_of_zero_le h.1
  have e1 : IntKind.i64.wrap (m : Int) = m := AM.wrap_i64 (by omega) (by omega)
  rw [e1, Int.tmod_eq_emod_of_nonneg (by omega)]
  unfold aN
  rw [Int.toNat_natCast]; simp

end Go.Proofs.Ytnkbdbopiancmaa

namespace Go.Proofs.Ytnkbdbopiancmaa
open Go.AM
theorem u8x3_in {h : AHeap} {a : Value} (q : ADv Try.prog h 47 a) : ∃ x y z : Int, a = .agg #[.int .u8 x, .int .u8 y, .int .u8 z] ∧ (0 ≤ x ∧ x < 256) ∧ (0 ≤ y ∧ y < 256) ∧ (0 ≤ z ∧ z < 256) := by
  obtain ⟨l, rfl⟩ := q.2.1 (by kernel_rfl)
  obtain ⟨x, y, z, e, hx, hy, hz⟩ := arr3_u8 (cs := l) q.1
  exact ⟨x, y, z, by rw [e], hx, hy, hz⟩
end Go.Proofs.Ytnkbdbopiancmaa

namespace Go.Proofs.Ytnkbdbopiancmaa
open Go.AM
set_option maxRecDepth 8000
theorem b7_GR16 : type_of% (And.intro (@Option.isNone_none.{0}) (And.intro (@Option.isNone_some.{0}) (And.intro (@AM.bin_add) (And.intro (AM.bin_beq ul_4) (And.intro (@AM.bin_eql) (And.intro (@AM.bin_geq) (And.intro (@AM.bin_gtr) (And.intro (@AM.bin_lss) (And.intro (@AM.bin_neq) (And.intro (AM.bin_pnil ul_24) (And.intro (@AM.bin_rem) (And.intro (@AM.boxK_agg) (And.intro (@AM.boxK_bool) (And.intro (@AM.boxK_func) (And.intro (@AM.boxK_int) (And.intro (@AM.boxK_map) (And.intro (@AM.boxK_pointer) (And.intro (@AM.boxK_slice) (And.intro (@AM.boxK_string) (And.intro (@AM.cvW_int) (And.intro (AM.cv_int ul_5 ul_3) (And.intro (@AM.iaA_ok) (And.intro (@AM.iaO_ok) (And.intro (AM.ia_array ar_47) (And.intro (AM.ia_slice el_26) (And.intro (@AM.ldO_agg) (And.intro (@AM.ldO_one) (And.intro (@AM.ld_ptr) (And.intro (AM.len_slice ul_22) (And.intro (AM.len_slice ul_26) (And.intro (@lk_3) (And.intro (@lk_5) (And.intro (@AM.op_binOp) (And.intro (@AM.op_box) (And.intro (@AM.op_call) (And.intro (@AM.op_convert) (And.intro (@AM.op_indexAddr) (And.intro (@AM.op_len) (And.intro (@AM.op_load) (And.intro (@AM.op_unOp) (And.intro (@AM.un_neg) (@AM.un_not)))))))))))))))))))))))))))))))))))))))))) := And.intro (@Option.isNone_none.{0}) (And.intro (@Option.isNone_some.{0}) (And.intro (@AM.bin_add) (And.intro (AM.bin_beq ul_4) (And.intro (@AM.bin_eql) (And.intro (@AM.bin_geq) (And.intro (@AM.bin_gtr) (And.intro (@AM.bin_lss) (And.intro (@AM.bin_neq) (And.intro (AM.bin_pnil ul_24) (And.intro (@AM.bin_rem) (And.intro (@AM.boxK_agg) (And.intro (@AM.boxK_bool) (And.intro (@AM.boxK_func) (And.intro (@AM.boxK_int) (And.intro (@AM.boxK_map) (And.intro (@AM.boxK_pointer) (And.intro (@AM.boxK_slice) (And.intro (@AM.boxK_string) (And.intro (@AM.cvW_int) (And.intro (AM.cv_int ul_5 ul_3) (And.intro (@AM.iaA_ok) (And.intro (@AM.iaO_ok) (And.intro (AM.ia_array ar_47) (And.intro (AM.ia_slice el_26) (And.intro (@AM.ldO_agg) (And.intro (@AM.ldO_one) (And.intro (@AM.ld_ptr) (And.intro (AM.len_slice ul_22) (And.intro (AM.len_slice ul_26) (And.intro (@lk_3) (And.intro (@lk_5) (And.intro (@AM.op_binOp) (And.intro (@AM.op_box) (And.intro (@AM.op_call) (And.intro (@AM.op_convert) (And.intro (@AM.op_indexAddr) (And.intro (@AM.op_len) (And.intro (@AM.op_load) (And.intro (@AM.op_unOp) (And.intro (@AM.un_neg) (@AM.un_not)))))))))))))))))))))))))))))))))))))))))


theorem addE_sub {n : Nat} {E : Nat → Nat → Bool} {a b x y : Int} (h : y ∈ outsI n E x) : y ∈ outsI n (addE n E a b) x := by
  rw [mem_outsI] at h ⊢
  unfold eI at h ⊢
  rw [Bool.and_eq_true] at h ⊢
  refine ⟨h.1, ?_⟩
  unfold addE
  rw [h.2, Bool.true_or]

set_option maxHeartbeats 4000000 in
theorem adds_w {h : AHeap} {n0 u1 u2 u3 : Int} {s : Value} {M : List (Int × Int)} (hM : Rd h 42 2 s M.length (M.flatMap encP)) (hm : (M.length : Int) ≤ 9223372036854775807) (hn : 0 ≤ n0 ∧ n0 < 256) (hu1 : 0 ≤ u1 ∧ u1 < 256) (hu2 : 0 ≤ u2 ∧ u2 < 256) (hu3 : 0 ≤ u3 ∧ u3 < 256) (hl : h.low ≤ h.next) :
    W 7 [.int .u8 n0, s, .agg #[.int .u8 u1, .int .u8 u2, .int .u8 u3]] h fun v _ => v = .bool true := by
  obtain ⟨ma, mc, rfl⟩ := hM.form
  refine AM.enter hp (fn := Try.f7) (rs := [.tmp 6]) (nt := 122) (by kernel_rfl) Try.func7 rfl rfl rfl (by kernel_rfl) ?_
  (repeat' (first | (simp (maxSteps := 1000000) (disch := first | omega | (simp only [AM.DB, List.length_set, List.length_map]; first | done | omega)) only [AM.RB, Nat.reduceAdd, Nat.reduceMul, Nat.reduceEqDiff, reduceCtorEq, b7_GR16]) | refine AM.drawW_fine hp (by kernel_rfl) (by kernel_rfl) (by kernel_rfl) ?_ | refine AM.opW_tied (by kernel_rfl) ?_ | refine AM.opW_untied (by kernel_rfl) ?_))
  generalize hE_ : AHeap.alloc h _ = h1; obtain ⟨g1, fr1, n1, l1⟩ := AM.new_get hE_; clear hE_
  have hl1 := fr1.hl hl
  refine alive_w hl1 fun h2 fr2 => ?_
  have hl2 := fr2.hl hl1
  have gx2 := g1.fr0 fr2
  (repeat' (first | (simp (maxSteps := 1000000) (disch := first | omega | (simp only [AM.DB, List.length_set, List.length_map]; first | done | omega)) only [AM.RB, Nat.reduceAdd, Nat.reduceMul, Nat.reduceEqDiff, reduceCtorEq, b7_GR16]) | refine AM.drawW_fine hp (by kernel_rfl) (by kernel_rfl) (by kernel_rfl) ?_ | refine AM.opW_tied (by kernel_rfl) ?_ | refine AM.opW_untied (by kernel_rfl) ?_))
  have ek := kN_eq hn
  obtain ⟨k1, k40⟩ := kN_le n0
  generalize kN n0 = k at *
  rw [ek]
  refine built_w (hM.fr0 (fr1.trans fr2)) hm (by omega) hl2 fun h3 p S x3 nl fr3 hS3 => ?_
  have hl3 := fr3.hl hl2
  have gx3 := gx2.fr0 fr3
  generalize addsE k noE M = E at *
  by_cases h300 : 300 < (M.length : Int)
  · have d0 : decide (300 < (M.length : Int)) = true := decide_eq_true h300
    (repeat' (first | (simp (maxSteps := 1000000) (disch := first | omega | (simp only [AM.DB, List.length_set, List.length_map]; first | done | omega)) only [AM.RB, Nat.reduceAdd, Nat.reduceMul, Nat.reduceEqDiff, reduceCtorEq, b7_GR16, d0]) | refine AM.drawW_fine hp (by kernel_rfl) (by kernel_rfl) (by kernel_rfl) ?_ | refine AM.opW_tied (by kernel_rfl) ?_ | refine AM.opW_untied (by kernel_rfl) ?_))
  have d0 : decide (300 < (M.length : Int)) = false := decide_eq_false h300
  have ea := aN_eq (k := k) hu1
  have ak := aN_lt (a := u1) k1
  have eb := aN_eq (k := k) hu2
  have bk := aN_lt (a := u2) k1
  have ec := aN_eq (k := k) hu3
  have ck := aN_lt (a := u3) k1
  generalize aN u1 k = a at *
  generalize aN u2 k = b at *
  generalize aN u3 k = c at *
  (repeat' (first | (simp (maxSteps := 1000000) (disch := first | omega | (simp only [AM.DB, List.length_set, List.length_map]; first | done | omega)) only [AM.RB, Nat.reduceAdd, Nat.reduceMul, Nat.reduceEqDiff, reduceCtorEq, b7_GR16, d0, ek, ea, gx3, Int.toNat_zero, Int.toNat_one, List.getElem?_cons_zero, List.getElem?_cons_succ]) | refine AM.drawW_fine hp (by kernel_rfl) (by kernel_rfl) (by kernel_rfl) ?_ | refine AM.opW_tied (by kernel_rfl) ?_ | refine AM.opW_untied (by kernel_rfl) ?_))
  refine grDist_w x3 (by omega) hl3 a fun vD h4 oD fr4 hidD => ?_
  have isd := dI_is (E := E) (show 0 ≤ (a : Int) by omega) (show (a : Int) < k by omega)
  have hl4 := fr4.hl hl3
  have gx4 := gx3.fr0 fr4
  have t2 : Int.toNat 2 = 2 := rfl
  (repeat' (first | (simp (maxSteps := 1000000) (disch := first | omega | (simp only [AM.DB, List.length_set, List.length_map]; first | done | omega)) only [AM.RB, Nat.reduceAdd, Nat.reduceMul, Nat.reduceEqDiff, reduceCtorEq, b7_GR16, ek, ea, eb, ec, gx4, t2, Int.toNat_zero, Int.toNat_one, List.getElem?_cons_zero, List.getElem?_cons_succ]) | refine AM.drawW_fine hp (by kernel_rfl) (by kernel_rfl) (by kernel_rfl) ?_ | refine AM.opW_tied (by kernel_rfl) ?_ | refine AM.opW_untied (by kernel_rfl) ?_))
  refine grAdd_w (x3.fr0 fr4) (by omega) hl4 b c fun h5 S5 x5 fr5 hS5 hS6 => ?_
  have hl5 := fr5.hl hl4
  have gx5 := fr5.get gx4 (fun q => by have := hS3 _ q; have := fr2.next; omega)
  have nS : ∀ id, idOf vD id → ¬ S id := fun id q t => by have := hidD id q; have := x3.lt t; omega
  have oD5 := oD.fr fr5 nS
  (repeat' (first | (simp (maxSteps := 1000000) (disch := first | omega | (simp only [AM.DB, List.length_set, List.length_map]; first | done | omega)) only [AM.RB, Nat.reduceAdd, Nat.reduceMul, Nat.reduceEqDiff, reduceCtorEq, b7_GR16]) | refine AM.drawW_fine hp (by kernel_rfl) (by kernel_rfl) (by kernel_rfl) ?_ | refine AM.opW_tied (by kernel_rfl) ?_ | refine AM.opW_untied (by kernel_rfl) ?_))
  refine grDist_w x5 (by omega) hl5 a fun vN h6 oN fr6 hidN => ?_
  have hl6 := fr6.hl hl5
  have isn := dI_is (E := addE k E b c) (show 0 ≤ (a : Int) by omega) (show (a : Int) < k by omega)
  have hr : 0 ≤ (a : Int) ∧ (a : Int) < k := by omega
  have mono := fun (i : Nat) (hi : i < k) => isd.mono isn hr outsI_dom (fun b' c' hc => addE_sub (a := b) (b := c) hc) (b := i) (by omega)
  simp only [Int.toNat_natCast] at mono
  have oD6 := oD5.fr0 fr6
  have lD := isd.len
  have lN := isn.len
  rw [lD] at oD6
  rw [lN] at oN
  generalize dI k E a = D at *
  generalize dI k (addE k E b c) a = N at *
  obtain ⟨da, dc, rfl⟩ := oD6.form
  obtain ⟨na, nc, rfl⟩ := oN.form
  have x6 := x5.fr0 fr6
  have gx6 := gx5.fr0 fr6
  (repeat' (first | (simp (maxSteps := 1000000) (disch := first | omega | (simp only [AM.DB, List.length_set, List.length_map]; first | done | omega)) only [AM.RB, Nat.reduceAdd, Nat.reduceMul, Nat.reduceEqDiff, reduceCtorEq, b7_GR16]) | refine AM.drawW_fine hp (by kernel_rfl) (by kernel_rfl) (by kernel_rfl) ?_ | refine AM.opW_tied (by kernel_rfl) ?_ | refine AM.opW_untied (by kernel_rfl) ?_))
  refine AM.loop_w hp 122 (fun i : Nat => [(5, pv h.next), (7, .bool true), (8, .int .i64 k), (9, pv p), (11, .slice da k dc), (12, .int .i64 (if okAdd k b c = true then 0 else 20)), (13, .slice na k nc), (61, .int .i64 k), (62, .int .i64 i)])
    (fun i h' => i ≤ k ∧ Fr none' h6 h') (fun i => k - i) (by kernel_rfl) 0 ?_ ?_ ?_
  · simp (maxSteps := 1000000) (disch := first | omega | (simp only [AM.DB, List.length_set, List.length_map]; first | done | omega)) only [AM.RB, Nat.reduceAdd, Nat.reduceMul, Nat.reduceEqDiff, reduceCtorEq, b7_GR16]
    first | rfl | skip
  · exact ⟨Nat.zero_le _, Fr.refl _ _⟩
  rintro i h7 ρ ⟨hi, fr7⟩
  have hl7 := fr7.hl hl6
  have d7 := (oD6.fr0 fr7).rd
  have n7 := (oN.fr0 fr7).rd
  (repeat' (first | (simp (maxSteps := 1000000) (disch := first | omega | (simp only [AM.DB, List.length_set, List.length_map]; first | done | omega)) only [AM.RB, Nat.reduceAdd, Nat.reduceMul, Nat.reduceEqDiff, reduceCtorEq, b7_GR16]) | refine AM.drawW_fine hp (by kernel_rfl) (by kernel_rfl) (by kernel_rfl) ?_ | refine AM.opW_tied (by kernel_rfl) ?_ | refine AM.opW_untied (by kernel_rfl) ?_))
  refine AM.condV_split (fun hlt => ?_) (fun hlt => ?_)
  · have hik : i < k := by omega
    have mo := mono i hik
    by_cases q : 0 ≤ D.getD i 0
    · obtain ⟨m1, m2⟩ := mo q
      have q0 : decide (0 ≤ D.getD i 0) = true := decide_eq_true q
      have q1 : decide (N.getD i 0 < 0) = false := decide_eq_false (by omega)
      have q2 : decide (D.getD i 0 < N.getD i 0) = false := decide_eq_false (by omega)
      (repeat' (first | (simp (maxSteps := 1000000) (disch := first | omega | (simp only [AM.DB, List.length_set, List.length_map]; first | done | omega)) only [AM.RB, Nat.reduceAdd, Nat.reduceMul, Nat.reduceEqDiff, reduceCtorEq, b7_GR16, d7.ia el_26, d7.ldi lk_3, n7.ia el_26, n7.ldi lk_3, Int.toNat_natCast, q0, q1, q2, AM.wrap_i64]) | refine AM.drawW_fine hp (by kernel_rfl) (by kernel_rfl) (by kernel_rfl) ?_ | refine AM.opW_tied (by kernel_rfl) ?_ | refine AM.opW_untied (by kernel_rfl) ?_))
      refine ⟨i + 1, by omega, ?_, by omega, fr7⟩
      simp (maxSteps := 1000000) (disch := first | omega | (simp only [AM.DB, List.length_set, List.length_map]; first | done | omega)) only [AM.RB, Nat.reduceAdd, Nat.reduceMul, Nat.reduceEqDiff, reduceCtorEq, b7_GR16]
      first | rfl | skip
    · have q0 : decide (0 ≤ D.getD i 0) = false := decide_eq_false q
      (repeat' (first | (simp (maxSteps := 1000000) (disch := first | omega | (simp only [AM.DB, List.length_set, List.length_map]; first | done | omega)) only [AM.RB, Nat.reduceAdd, Nat.reduceMul, Nat.reduceEqDiff, reduceCtorEq, b7_GR16, d7.ia el_26, d7.ldi lk_3, n7.ia el_26, n7.ldi lk_3, Int.toNat_natCast, q0, AM.wrap_i64]) | refine AM.drawW_fine hp (by kernel_rfl) (by kernel_rfl) (by kernel_rfl) ?_ | refine AM.opW_tied (by kernel_rfl) ?_ | refine AM.opW_untied (by kernel_rfl) ?_))
      refine ⟨i + 1, by omega, ?_, by omega, fr7⟩
      simp (maxSteps := 1000000) (disch := first | omega | (simp only [AM.DB, List.length_set, List.length_map]; first | done | omega)) only [AM.RB, Nat.reduceAdd, Nat.reduceMul, Nat.reduceEqDiff, reduceCtorEq, b7_GR16]
      first | rfl | skip
  have nl2 := noLoop_add (n := k) nl b c
  (repeat' (first | (simp (maxSteps := 1000000) (disch := first | omega | (simp only [AM.DB, List.length_set, List.length_map]; first | done | omega)) only [AM.RB, Nat.reduceAdd, Nat.reduceMul, Nat.reduceEqDiff, reduceCtorEq, b7_GR16]) | refine AM.drawW_fine hp (by kernel_rfl) (by kernel_rfl) (by kernel_rfl) ?_ | refine AM.opW_tied (by kernel_rfl) ?_ | refine AM.opW_untied (by kernel_rfl) ?_))
  refine grBack_w (x6.fr0 fr7) nl2 (by omega) hl7 fun h8 p8 S8 x8 fr8 hS8 => ?_
  have hl8 := fr8.hl hl7
  have nl3 : noLoop (fun x y => addE k E b c y x) := fun z => nl2 z
  (repeat' (first | (simp (maxSteps := 1000000) (disch := first | omega | (simp only [AM.DB, List.length_set, List.length_map]; first | done | omega)) only [AM.RB, Nat.reduceAdd, Nat.reduceMul, Nat.reduceEqDiff, reduceCtorEq, b7_GR16]) | refine AM.drawW_fine hp (by kernel_rfl) (by kernel_rfl) (by kernel_rfl) ?_ | refine AM.opW_tied (by kernel_rfl) ?_ | refine AM.opW_untied (by kernel_rfl) ?_))
  refine grBack_w x8 nl3 (by omega) hl8 fun h9 p9 S9 x9 fr9 hS9 => ?_
  have hl9 := fr9.hl hl8
  have gx9 := gx6.fr0 ((fr7.trans fr8).trans fr9)
  have y9 := x6.fr0 ((fr7.trans fr8).trans fr9)
  (repeat' (first | (simp (maxSteps := 1000000) (disch := first | omega | (simp only [AM.DB, List.length_set, List.length_map]; first | done | omega)) only [AM.RB, Nat.reduceAdd, Nat.reduceMul, Nat.reduceEqDiff, reduceCtorEq, b7_GR16]) | refine AM.drawW_fine hp (by kernel_rfl) (by kernel_rfl) (by kernel_rfl) ?_ | refine AM.opW_tied (by kernel_rfl) ?_ | refine AM.opW_untied (by kernel_rfl) ?_))
  refine AM.loop_w hp 122 (fun i : Nat => [(5, pv h.next), (7, .bool true), (8, .int .i64 k), (9, pv p), (12, .int .i64 (if okAdd k b c = true then 0 else 20)), (15, pv p9), (16, .int .i64 i)])
    (fun i h' => i ≤ k ∧ Fr none' h9 h') (fun i => k - i) (by kernel_rfl) 0 ?_ ?_ ?_
  · simp (maxSteps := 1000000) (disch := first | omega | (simp only [AM.DB, List.length_set, List.length_map]; first | done | omega)) only [AM.RB, Nat.reduceAdd, Nat.reduceMul, Nat.reduceEqDiff, reduceCtorEq, b7_GR16]
    first | rfl | skip
  · exact ⟨Nat.zero_le _, Fr.refl _ _⟩
  rintro j h10 ρ10 ⟨hj, fr10⟩
  have hl10 := fr10.hl hl9
  (repeat' (first | (simp (maxSteps := 1000000) (disch := first | omega | (simp only [AM.DB, List.length_set, List.length_map]; first | done | omega)) only [AM.RB, Nat.reduceAdd, Nat.reduceMul, Nat.reduceEqDiff, reduceCtorEq, b7_GR16]) | refine AM.drawW_fine hp (by kernel_rfl) (by kernel_rfl) (by kernel_rfl) ?_ | refine AM.opW_tied (by kernel_rfl) ?_ | refine AM.opW_untied (by kernel_rfl) ?_))
  refine AM.condV_split (fun hjt => ?_) (fun hjt => ?_)
  · (repeat' (first | (simp (maxSteps := 1000000) (disch := first | omega | (simp only [AM.DB, List.length_set, List.length_map]; first | done | omega)) only [AM.RB, Nat.reduceAdd, Nat.reduceMul, Nat.reduceEqDiff, reduceCtorEq, b7_GR16]) | refine AM.drawW_fine hp (by kernel_rfl) (by kernel_rfl) (by kernel_rfl) ?_ | refine AM.opW_tied (by kernel_rfl) ?_ | refine AM.opW_untied (by kernel_rfl) ?_))
    refine grOut_w (x9.fr0 fr10) (by omega) hl10 j fun v11 h11 o11 fr11 hid11 => ?_
    have hl11 := fr11.hl hl10
    (repeat' (first | (simp (maxSteps := 1000000) (disch := first | omega | (simp only [AM.DB, List.length_set, List.length_map]; first | done | omega)) only [AM.RB, Nat.reduceAdd, Nat.reduceMul, Nat.reduceEqDiff, reduceCtorEq, b7_GR16]) | refine AM.drawW_fine hp (by kernel_rfl) (by kernel_rfl) (by kernel_rfl) ?_ | refine AM.opW_tied (by kernel_rfl) ?_ | refine AM.opW_untied (by kernel_rfl) ?_))
    refine grOut_w (y9.fr0 (fr10.trans fr11)) (by omega) hl11 j fun v12 h12 o12 fr12 hid12 => ?_
    (repeat' (first | (simp (maxSteps := 1000000) (disch := first | omega | (simp only [AM.DB, List.length_set, List.length_map]; first | done | omega)) only [AM.RB, Nat.reduceAdd, Nat.reduceMul, Nat.reduceEqDiff, reduceCtorEq, b7_GR16]) | refine AM.drawW_fine hp (by kernel_rfl) (by kernel_rfl) (by kernel_rfl) ?_ | refine AM.opW_tied (by kernel_rfl) ?_ | refine AM.opW_untied (by kernel_rfl) ?_))
    refine same_w (o11.fr0 fr12).rd o12.rd (Nat.le_trans (outsI_len _ _ _) (by omega)) ?_
    rw [decide_eq_true rfl]
    (repeat' (first | (simp (maxSteps := 1000000) (disch := first | omega | (simp only [AM.DB, List.length_set, List.length_map]; first | done | omega)) only [AM.RB, Nat.reduceAdd, Nat.reduceMul, Nat.reduceEqDiff, reduceCtorEq, b7_GR16, AM.wrap_i64]) | refine AM.drawW_fine hp (by kernel_rfl) (by kernel_rfl) (by kernel_rfl) ?_ | refine AM.opW_tied (by kernel_rfl) ?_ | refine AM.opW_untied (by kernel_rfl) ?_))
    exact ⟨j + 1, by omega, by simp, by omega, (fr10.trans fr11).trans fr12⟩
  have gx10 := gx9.fr0 fr10
  have oe : okAdd k b c = decide (b ≠ c) := by
    unfold okAdd
    refine decide_eq_decide.2 ?_
    omega
  by_cases bc : b = c
  · have q0 : decide ((b : Int) = c) = true := decide_eq_true (by omega)
    rw [decide_eq_false (by simp [bc])] at oe
    (repeat' (first | (simp (maxSteps := 1000000) (disch := first | omega | (simp only [AM.DB, List.length_set, List.length_map]; first | done | omega)) only [AM.RB, Nat.reduceAdd, Nat.reduceMul, Nat.reduceEqDiff, reduceCtorEq, b7_GR16, gx10, ek, eb, ec, oe, q0, t2, Int.toNat_zero, Int.toNat_one, List.getElem?_cons_zero, List.getElem?_cons_succ]) | refine AM.drawW_fine hp (by kernel_rfl) (by kernel_rfl) (by kernel_rfl) ?_ | refine AM.opW_tied (by kernel_rfl) ?_ | refine AM.opW_untied (by kernel_rfl) ?_))
    rfl
  · have q0 : decide ((b : Int) = c) = false := decide_eq_false (by omega)
    rw [decide_eq_true bc] at oe
    (repeat' (first | (simp (maxSteps := 1000000) (disch := first | omega | (simp only [AM.DB, List.length_set, List.length_map]; first | done | omega)) only [AM.RB, Nat.reduceAdd, Nat.reduceMul, Nat.reduceEqDiff, reduceCtorEq, b7_GR16, gx10, ek, eb, ec, oe, q0, t2, Int.toNat_zero, Int.toNat_one, List.getElem?_cons_zero, List.getElem?_cons_succ]) | refine AM.drawW_fine hp (by kernel_rfl) (by kernel_rfl) (by kernel_rfl) ?_ | refine AM.opW_tied (by kernel_rfl) ?_ | refine AM.opW_untied (by kernel_rfl) ?_))
end Go.Proofs.Ytnkbdbopiancmaa
