/- Walks of this claim's functions, and plain laws. -/
import Derived.Test.YtnkbdbopiancmaaWb
import Derived.Test.YtnkbdbopiancmaaAMBfs2
set_option linter.unusedSimpArgs false
set_option linter.unusedVariables false
namespace Go.Proofs.Ytnkbdbopiancmaa
open Go.AM
set_option maxRecDepth 8000
theorem b8_GR14 : type_of% (And.intro (AM.bsW_int bs_26) (And.intro (AM.bsW_int2 bs_26) (And.intro (AM.bsW_int6 bs_26) (And.intro (AM.bsW_nil bs_26) (And.intro (AM.bsW_slice bs_26) (And.intro (AM.bsW_string bs_26) (And.intro (@AM.op_buildSlice) (@AM.op_call)))))))) := And.intro (AM.bsW_int bs_26) (And.intro (AM.bsW_int2 bs_26) (And.intro (AM.bsW_int6 bs_26) (And.intro (AM.bsW_nil bs_26) (And.intro (AM.bsW_slice bs_26) (And.intro (AM.bsW_string bs_26) (And.intro (@AM.op_buildSlice) (@AM.op_call)))))))
theorem b9_GR14 : type_of% (And.intro (@AM.bin_add) (And.intro (@AM.bin_lss) (And.intro (@AM.bin_neq) (And.intro (@AM.ex_tuple) (And.intro (@AM.iaA_ok) (And.intro (@AM.iaO_ok) (And.intro (AM.ia_array ar_42) (And.intro (AM.ia_slice el_22) (And.intro (@AM.ldO_agg) (And.intro (@AM.ldO_one) (And.intro (@AM.ld_ptr) (And.intro (AM.len_slice ul_22) (And.intro (@lk_3) (And.intro (@AM.op_binOp) (And.intro (@AM.op_call) (And.intro (@AM.op_extract) (And.intro (@AM.op_indexAddr) (And.intro (@AM.op_len) (@AM.op_load))))))))))))))))))) := And.intro (@AM.bin_add) (And.intro (@AM.bin_lss) (And.intro (@AM.bin_neq) (And.intro (@AM.ex_tuple) (And.intro (@AM.iaA_ok) (And.intro (@AM.iaO_ok) (And.intro (AM.ia_array ar_42) (And.intro (AM.ia_slice el_22) (And.intro (@AM.ldO_agg) (And.intro (@AM.ldO_one) (And.intro (@AM.ld_ptr) (And.intro (AM.len_slice ul_22) (And.intro (@lk_3) (And.intro (@AM.op_binOp) (And.intro (@AM.op_call) (And.intro (@AM.op_extract) (And.intro (@AM.op_indexAddr) (And.intro (@AM.op_len) (@AM.op_load))))))))))))))))))


theorem someD1 : dI 6 someE 1 = [2, 0, 1, 2, 3, -1] := by kernel_rfl
theorem someR3 : reachP (dI 6 someE 3) (dI 6 someE 3).length = [3, 4] := by kernel_rfl
theorem someS : strongL 6 someE = [0, 0, 0, 1, 2, 3] := by kernel_rfl
theorem someJ : jointsL 6 someE 6 = [2, 3] := by kernel_rfl

theorem alive_w {h : AHeap} (hl : h.low ≤ h.next) {Q : VQ} (hq : ∀ h', Fr none' h h' → Q (.bool true) h') : W 8 [] h Q := by
  refine AM.enter hp (fn := Try.f8) (rs := [.tmp 0]) (nt := 25) (by kernel_rfl) Try.func8 rfl rfl rfl (by kernel_rfl) ?_
  (first | (simp (maxSteps := 1000000) (disch := first | omega | (simp only [AM.DB, List.length_set, List.length_map]; first | done | omega)) only [AM.RB, Nat.reduceAdd, Nat.reduceMul, Nat.reduceEqDiff, reduceCtorEq, b8_GR14]) | skip)
  refine some_w hl fun h1 p S x1 fr1 hS1 => ?_
  have hl1 := fr1.hl hl
  (first | (simp (maxSteps := 1000000) (disch := first | omega | (simp only [AM.DB, List.length_set, List.length_map]; first | done | omega)) only [AM.RB, Nat.reduceAdd, Nat.reduceMul, Nat.reduceEqDiff, reduceCtorEq, b8_GR14]) | skip)
  refine grDist_w x1 (by omega) hl1 1 fun v2 h2 o2 fr2 hid2 => ?_
  have hl2 := fr2.hl hl1
  rw [someD1] at o2
  (first | (simp (maxSteps := 1000000) (disch := first | omega | (simp only [AM.DB, List.length_set, List.length_map]; first | done | omega)) only [AM.RB, Nat.reduceAdd, Nat.reduceMul, Nat.reduceEqDiff, reduceCtorEq, b8_GR14]) | skip)
  generalize hE_ : AHeap.alloc h2 _ = h3; obtain ⟨g3, fr3, n3, l3⟩ := AM.new_get hE_; clear hE_
  have r3 : Rd h3 3 1 (.slice (some ⟨h2.next, 0, none⟩) 6 6) 6 ([2, 0, 1, 2, 3, -1].map (.int .i64)) := AM.Rd.whole (n := 6) g3 rfl
  have hl3 := fr3.hl hl2
  refine same_w (o2.fr0 fr3).rd r3 (by simp) ?_
  rw [decide_eq_true rfl]
  (first | (simp (maxSteps := 1000000) (disch := first | omega | (simp only [AM.DB, List.length_set, List.length_map]; first | done | omega)) only [AM.RB, Nat.reduceAdd, Nat.reduceMul, Nat.reduceEqDiff, reduceCtorEq, b8_GR14]) | skip)
  refine grReach_w (x1.fr0 (fr2.trans fr3)) (by omega) hl3 3 fun v4 h4 o4 fr4 hid4 => ?_
  have hl4 := fr4.hl hl3
  rw [someR3] at o4
  (first | (simp (maxSteps := 1000000) (disch := first | omega | (simp only [AM.DB, List.length_set, List.length_map]; first | done | omega)) only [AM.RB, Nat.reduceAdd, Nat.reduceMul, Nat.reduceEqDiff, reduceCtorEq, b8_GR14]) | skip)
  generalize hE_ : AHeap.alloc h4 _ = h5; obtain ⟨g5, fr5, n5, l5⟩ := AM.new_get hE_; clear hE_
  have r5 : Rd h5 3 1 (.slice (some ⟨h4.next, 0, none⟩) 2 2) 2 ([3, 4].map (.int .i64)) := AM.Rd.whole (n := 2) g5 rfl
  have hl5 := fr5.hl hl4
  refine same_w (o4.fr0 fr5).rd r5 (by simp) ?_
  rw [decide_eq_true rfl]
  have fr15 := ((fr2.trans fr3).trans fr4).trans fr5
  (first | (simp (maxSteps := 1000000) (disch := first | omega | (simp only [AM.DB, List.length_set, List.length_map]; first | done | omega)) only [AM.RB, Nat.reduceAdd, Nat.reduceMul, Nat.reduceEqDiff, reduceCtorEq, b8_GR14]) | skip)
  refine grStrong_w (x1.fr0 fr15) (by omega) hl5 fun v6 h6 o6 fr6 hid6 => ?_
  have hl6 := fr6.hl hl5
  rw [someS] at o6
  (first | (simp (maxSteps := 1000000) (disch := first | omega | (simp only [AM.DB, List.length_set, List.length_map]; first | done | omega)) only [AM.RB, Nat.reduceAdd, Nat.reduceMul, Nat.reduceEqDiff, reduceCtorEq, b8_GR14]) | skip)
  generalize hE_ : AHeap.alloc h6 _ = h7; obtain ⟨g7, fr7, n7, l7⟩ := AM.new_get hE_; clear hE_
  have r7 : Rd h7 3 1 (.slice (some ⟨h6.next, 0, none⟩) 6 6) 6 ([0, 0, 0, 1, 2, 3].map (.int .i64)) := AM.Rd.whole (n := 6) g7 rfl
  have hl7 := fr7.hl hl6
  refine same_w (o6.fr0 fr7).rd r7 (by simp) ?_
  rw [decide_eq_true rfl]
  have fr17 := (fr15.trans fr6).trans fr7
  (first | (simp (maxSteps := 1000000) (disch := first | omega | (simp only [AM.DB, List.length_set, List.length_map]; first | done | omega)) only [AM.RB, Nat.reduceAdd, Nat.reduceMul, Nat.reduceEqDiff, reduceCtorEq, b8_GR14]) | skip)
  refine grJoints_w (x1.fr0 fr17) (by omega) hl7 fun v8 h8 o8 fr8 hid8 => ?_
  have hl8 := fr8.hl hl7
  rw [someJ] at o8
  (first | (simp (maxSteps := 1000000) (disch := first | omega | (simp only [AM.DB, List.length_set, List.length_map]; first | done | omega)) only [AM.RB, Nat.reduceAdd, Nat.reduceMul, Nat.reduceEqDiff, reduceCtorEq, b8_GR14]) | skip)
  generalize hE_ : AHeap.alloc h8 _ = h9; obtain ⟨g9, fr9, n9, l9⟩ := AM.new_get hE_; clear hE_
  have r9 : Rd h9 3 1 (.slice (some ⟨h8.next, 0, none⟩) 2 2) 2 ([2, 3].map (.int .i64)) := AM.Rd.whole (n := 2) g9 rfl
  refine same_w (o8.fr0 fr9).rd r9 (by simp) ?_
  rw [decide_eq_true rfl]
  (first | (simp (maxSteps := 1000000) (disch := first | omega | (simp only [AM.DB, List.length_set, List.length_map]; first | done | omega)) only [AM.RB, Nat.reduceAdd, Nat.reduceMul, Nat.reduceEqDiff, reduceCtorEq, b8_GR14]) | skip)
  exact hq _ (((fr1.trans fr17).trans fr8).trans fr9)

theorem built_w {h : AHeap} {n : Nat} {s : Value} {M : List (Int × Int)} (hM : Rd h 42 2 s M.length (M.flatMap encP)) (hm : (M.length : Int) ≤ 9223372036854775807) (hn : n ≤ 1024) (hl : h.low ≤ h.next) {Q : VQ}
    (hq : ∀ h' p S, Gt h' p n (addsE n noE M) S → noLoop (addsE n noE M) → Fr none' h h' → (∀ id, S id → h.next ≤ id) → Q (pv p) h') : W 9 [.int .i64 n, s] h Q := by
  obtain ⟨ma, mc, rfl⟩ := hM.form
  have hnl := addsE_noLoop (n := n) M (show noLoop noE from fun _ => rfl)
  refine AM.enter hp (fn := Try.f9) (rs := [.tmp 4]) (nt := 34) (by kernel_rfl) Try.func9 rfl rfl rfl (by kernel_rfl) ?_
  (repeat' (first | (simp (maxSteps := 1000000) (disch := first | omega | (simp only [AM.DB, List.length_set, List.length_map]; first | done | omega)) only [AM.RB, Nat.reduceAdd, Nat.reduceMul, Nat.reduceEqDiff, reduceCtorEq, b9_GR14]) | refine AM.drawW_fine hp (by kernel_rfl) (by kernel_rfl) (by kernel_rfl) ?_ | refine AM.opW_tied (by kernel_rfl) ?_ | refine AM.opW_untied (by kernel_rfl) ?_))
  refine grNew_w hl (fun q => absurd (by omega) q) fun _ h1 p S x1 fr1 hS1 => ?_
  rw [Int.toNat_natCast] at x1
  have hl1 := fr1.hl hl
  (repeat' (first | (simp (maxSteps := 1000000) (disch := first | omega | (simp only [AM.DB, List.length_set, List.length_map]; first | done | omega)) only [AM.RB, Nat.reduceAdd, Nat.reduceMul, Nat.reduceEqDiff, reduceCtorEq, b9_GR14]) | refine AM.drawW_fine hp (by kernel_rfl) (by kernel_rfl) (by kernel_rfl) ?_ | refine AM.opW_tied (by kernel_rfl) ?_ | refine AM.opW_untied (by kernel_rfl) ?_))
  refine AM.loop_w hp 34 (fun i : Nat => [(1, .slice ma M.length mc), (4, .pointer none), (5, pv p), (16, .int .i64 M.length), (17, .int .i64 i)])
    (fun i h' => i ≤ M.length ∧ (∃ S', Gt h' p n (addsE n noE (M.take i)) S' ∧ (∀ id, S' id → h.next ≤ id)) ∧ Rd h' 42 2 (.slice ma M.length mc) M.length (M.flatMap encP) ∧ Fr none' h h') (fun i => M.length - i) (by kernel_rfl) 0 ?_ ?_ ?_
  · simp (maxSteps := 1000000) (disch := first | omega | (simp only [AM.DB, List.length_set, List.length_map]; first | done | omega)) only [AM.RB, Nat.reduceAdd, Nat.reduceMul, Nat.reduceEqDiff, reduceCtorEq, b9_GR14]
    first | rfl | skip
  · exact ⟨Nat.zero_le _, ⟨S, x1, hS1⟩, hM.fr0 fr1, fr1⟩
  rintro i h3 ρ ⟨hi, ⟨S3, x3, hS3⟩, M3, fr3⟩
  have hl3 := fr3.hl hl
  simp (maxSteps := 1000000) (disch := first | omega | (simp only [AM.DB, List.length_set, List.length_map]; first | done | omega)) only [AM.RB, Nat.reduceAdd, Nat.reduceMul, Nat.reduceEqDiff, reduceCtorEq, b9_GR14]
  refine AM.condV_split (fun hlt => ?_) (fun hlt => ?_)
  · have hil : i < M.length := by omega
    obtain ⟨a, ha⟩ : ∃ x, M.getD i (0, 0) = x := ⟨_, rfl⟩
    obtain ⟨b, c⟩ := a
    have ld0 : aLoad Try.prog h3 3 (elF (.slice ma M.length mc) 2 i 0) = some (.int .i64 b) := by
      have := Rd.ldsF (g := encP) encP_len M3 lk_3 rfl (0, 0) i 0 hil (by omega)
      rw [ha] at this; exact this
    have ld1 : aLoad Try.prog h3 3 (elF (.slice ma M.length mc) 2 i 1) = some (.int .i64 c) := by
      have := Rd.ldsF (g := encP) encP_len M3 lk_3 rfl (0, 0) i 1 hil (by omega)
      rw [ha] at this; exact this
    have ad0 : aIndexAddr Try.prog 42 (elP (.slice ma M.length mc) 2 i) (.int .i64 0) = some (elF (.slice ma M.length mc) 2 i 0) := M3.aa ar_42 .i64 0 i hil (by decide) (by decide)
    have ad1 : aIndexAddr Try.prog 42 (elP (.slice ma M.length mc) 2 i) (.int .i64 1) = some (elF (.slice ma M.length mc) 2 i 1) := M3.aa ar_42 .i64 1 i hil (by decide) (by decide)
    (repeat' (first | (simp (maxSteps := 1000000) (disch := first | omega | (simp only [AM.DB, List.length_set, List.length_map]; first | done | omega)) only [AM.RB, Nat.reduceAdd, Nat.reduceMul, Nat.reduceEqDiff, reduceCtorEq, b9_GR14, M3.ia el_22, Int.toNat_natCast, ad0, ad1, ld0, ld1]) | refine AM.drawW_fine hp (by kernel_rfl) (by kernel_rfl) (by kernel_rfl) ?_ | refine AM.opW_tied (by kernel_rfl) ?_ | refine AM.opW_untied (by kernel_rfl) ?_))
    refine grAdd_w x3 hn hl3 b c fun h5 S5 x5 fr5 hS5 hS6 => ?_
    have lM : ∀ id, S3 id → h.next ≤ id := hS3
    have frM : Fr none' h h5 := fr3.fresh fr5 hS3
    have e := addsE_succ n noE M hil
    rw [ha] at e
    have M5 := hM.fr0 frM
    (repeat' (first | (simp (maxSteps := 1000000) (disch := first | omega | (simp only [AM.DB, List.length_set, List.length_map]; first | done | omega)) only [AM.RB, Nat.reduceAdd, Nat.reduceMul, Nat.reduceEqDiff, reduceCtorEq, b9_GR14, AM.wrap_i64]) | refine AM.drawW_fine hp (by kernel_rfl) (by kernel_rfl) (by kernel_rfl) ?_ | refine AM.opW_tied (by kernel_rfl) ?_ | refine AM.opW_untied (by kernel_rfl) ?_))
    refine ⟨i + 1, by omega, ?_, by omega, ⟨S5, by rw [e]; exact x5, fun id q => ?_⟩, M5, frM⟩
    · simp (maxSteps := 1000000) (disch := first | omega | (simp only [AM.DB, List.length_set, List.length_map]; first | done | omega)) only [AM.RB, Nat.reduceAdd, Nat.reduceMul, Nat.reduceEqDiff, reduceCtorEq, b9_GR14]
      first | rfl | skip
    · rcases hS5 id q with q | q
      · exact hS3 id q
      · have := fr3.next; omega
  · obtain rfl : i = M.length := by omega
    rw [List.take_length] at x3
    (repeat' (first | (simp (maxSteps := 1000000) (disch := first | omega | (simp only [AM.DB, List.length_set, List.length_map]; first | done | omega)) only [AM.RB, Nat.reduceAdd, Nat.reduceMul, Nat.reduceEqDiff, reduceCtorEq, b9_GR14]) | refine AM.drawW_fine hp (by kernel_rfl) (by kernel_rfl) (by kernel_rfl) ?_ | refine AM.opW_tied (by kernel_rfl) ?_ | refine AM.opW_untied (by kernel_rfl) ?_))
    exact hq h3 p S3 x3 hnl fr3 hS3
end Go.Proofs.Ytnkbdbopiancmaa

namespace Go.Proofs.Ytnkbdbopiancmaa
open Go.AM
set_option maxRecDepth 8000
theorem b6_GR15 : type_of% (And.intro (@Option.isNone_none.{0}) (And.intro (@Option.isNone_some.{0}) (And.intro (@AM.bin_add) (And.intro (@AM.bin_eql) (And.intro (@AM.bin_geq) (And.intro (@AM.bin_gtr) (And.intro (@AM.bin_lss) (And.intro (@AM.bin_neq) (And.intro (AM.bin_pnil ul_24) (And.intro (@AM.bin_rem) (And.intro (@AM.bin_sub) (And.intro (@AM.cvW_int) (And.intro (AM.cv_int ul_5 ul_3) (And.intro (@AM.iaO_ok) (And.intro (AM.ia_slice el_26) (And.intro (@AM.ldO_agg) (And.intro (@AM.ldO_one) (And.intro (@AM.ld_ptr) (And.intro (AM.len_slice ul_22) (And.intro (AM.len_slice ul_26) (And.intro (@lk_3) (And.intro (@AM.op_binOp) (And.intro (@AM.op_call) (And.intro (@AM.op_convert) (And.intro (@AM.op_indexAddr) (And.intro (@AM.op_len) (And.intro (@AM.op_load) (And.intro (@AM.op_unOp) (And.intro (@AM.un_neg) (@AM.un_not)))))))))))))))))))))))))))))) := And.intro (@Option.isNone_none.{0}) (And.intro (@Option.isNone_some.{0}) (And.intro (@AM.bin_add) (And.intro (@AM.bin_eql) (And.intro (@AM.bin_geq) (And.intro (@AM.bin_gtr) (And.intro (@AM.bin_lss) (And.intro (@AM.bin_neq) (And.intro (AM.bin_pnil ul_24) (And.intro (@AM.bin_rem) (And.intro (@AM.bin_sub) (And.intro (@AM.cvW_int) (And.intro (AM.cv_int ul_5 ul_3) (And.intro (@AM.iaO_ok) (And.intro (AM.ia_slice el_26) (And.intro (@AM.ldO_agg) (And.intro (@AM.ldO_one) (And.intro (@AM.ld_ptr) (And.intro (AM.len_slice ul_22) (And.intro (AM.len_slice ul_26) (And.intro (@lk_3) (And.intro (@AM.op_binOp) (And.intro (@AM.op_call) (And.intro (@AM.op_convert) (And.intro (@AM.op_indexAddr) (And.intro (@AM.op_len) (And.intro (@AM.op_load) (And.intro (@AM.op_unOp) (And.intro (@AM.un_neg) (@AM.un_not)))))))))))))))))))))))))))))


/-! ### Distances -/
theorem dI_is {n : Nat} {E : Nat → Nat → Bool} {a : Int} (h0 : 0 ≤ a) (h1 : a < n) : IsDist (outsI n E) n a (dI n E a) := by
  unfold dI
  rw [if_pos ⟨h0, h1⟩]
  exact (bfs_spec outsI_dom h0 h1).1
/-- Anyone of the first k is one nearer. -/
def nearB (D l : List Int) (b : Nat) (k : Nat) : Bool := (l.take k).any fun c => decide (D.getD c.toNat 0 = D.getD b 0 - 1)
theorem nearB_succ (D l : List Int) (b : Nat) {k : Nat} (hk : k < l.length) : nearB D l b (k + 1) = (nearB D l b k || decide (D.getD (l.getD k 0).toNat 0 = D.getD b 0 - 1)) := by
  unfold nearB
  rw [List.take_succ_eq_append_getElem hk, List.any_append]
  have : l.getD k 0 = l[k] := by simp [List.getD, hk]
  rw [this]
  simp only [List.any_cons, List.any_nil, Bool.or_false]
theorem getD_memI {l : List Int} {k : Nat} (hk : k < l.length) : l.getD k 0 ∈ l := by
  have : l.getD k 0 = l[k] := by simp [List.getD, hk]
  rw [this]; exact List.getElem_mem hk

def kN (n : Int) : Nat := 1 + n.toNat % 40
theorem kN_le (n : Int) : 1 ≤ kN n ∧ kN n ≤ 40 := by unfold kN; omega
theorem kN_eq {n : Int} (h : 0 ≤ n ∧ n < 256) : IntKind.i64.wrap (1 + (IntKind.i64.wrap n).tmod 40) = ((kN n : Nat) : Int) := by
  obtain ⟨m, rfl⟩ := Int.eq_ofNat_of_zero_le h.1
  have e1 : IntKind.i64.wrap (m : Int) = m := AM.wrap_i64 (by omega) (by omega)
  have e2 : (m : Int).tmod 40 = ((m % 40 : Nat) : Int) := by rw [Int.tmod_eq_emod_of_nonneg (by omega)]; omega
  rw [e1, e2, AM.wrap_i64 (by omega) (by omega)]
  unfold kN
  rw [Int.toNat_natCast]; omega
def aN (a : Int) (k : Nat) : Nat := a.toNat % k
theorem aN_lt {a : Int} {k : Nat} (h : 1 ≤ k) : aN a k < k := Nat.mod_lt _ h
theorem aN_eq {a : Int} {k : Nat} (h : 0 ≤ a ∧ a < 256) : (IntKind.i64.wrap a).tmod k = ((aN a k : Nat) : Int) := by
  obtain ⟨m, rfl⟩ := Int.eq_ofNat_of_zero_le h.1
  have e1 : IntKind.i64.wrap (m : Int) = m := AM.wrap_i64 (by omega) (by omega)
  rw [e1, Int.tmod_eq_emod_of_nonneg (by omega)]
  unfold aN
  rw [Int.toNat_natCast]; simp

set_option maxHeartbeats 4000000 in
theorem steps_w {h : AHeap} {n0 a0 : Int} {s : Value} {M : List (Int × Int)} (hM : Rd h 42 2 s M.length (M.flatMap encP)) (hm : (M.length : Int) ≤ 9223372036854775807) (hn : 0 ≤ n0 ∧ n0 < 256) (ha : 0 ≤ a0 ∧ a0 < 256) (hl : h.low ≤ h.next) :
    W 6 [.int .u8 n0, s, .int .u8 a0] h fun v _ => v = .bool true := by
  obtain ⟨ma, mc, rfl⟩ := hM.form
  refine AM.enter hp (fn := Try.f6) (rs := [.tmp 6]) (nt := 138) (by kernel_rfl) Try.func6 rfl rfl rfl (by kernel_rfl) ?_
  (repeat' (first | (simp (maxSteps := 1000000) (disch := first | omega | (simp only [AM.DB, List.length_set, List.length_map]; first | done | omega)) only [AM.RB, Nat.reduceAdd, Nat.reduceMul, Nat.reduceEqDiff, reduceCtorEq, b6_GR15]) | refine AM.drawW_fine hp (by kernel_rfl) (by kernel_rfl) (by kernel_rfl) ?_ | refine AM.opW_tied (by kernel_rfl) ?_ | refine AM.opW_untied (by kernel_rfl) ?_))
  refine alive_w hl fun h1 fr1 => ?_
  have hl1 := fr1.hl hl
  (repeat' (first | (simp (maxSteps := 1000000) (disch := first | omega | (simp only [AM.DB, List.length_set, List.length_map]; first | done | omega)) only [AM.RB, Nat.reduceAdd, Nat.reduceMul, Nat.reduceEqDiff, reduceCtorEq, b6_GR15]) | refine AM.drawW_fine hp (by kernel_rfl) (by kernel_rfl) (by kernel_rfl) ?_ | refine AM.opW_tied (by kernel_rfl) ?_ | refine AM.opW_untied (by kernel_rfl) ?_))
  have ek := kN_eq hn
  obtain ⟨k1, k40⟩ := kN_le n0
  generalize kN n0 = k at *
  rw [ek]
  refine built_w (hM.fr0 fr1) hm (by omega) hl1 fun h2 p S x2 nl fr2 hS2 => ?_
  have hl2 := fr2.hl hl1
  generalize addsE k noE M = E at *
  by_cases h300 : 300 < (M.length : Int)
  · have d0 : decide (300 < (M.length : Int)) = true := decide_eq_true h300
    (repeat' (first | (simp (maxSteps := 1000000) (disch := first | omega | (simp only [AM.DB, List.length_set, List.length_map]; first | done | omega)) only [AM.RB, Nat.reduceAdd, Nat.reduceMul, Nat.reduceEqDiff, reduceCtorEq, b6_GR15, d0]) | refine AM.drawW_fine hp (by kernel_rfl) (by kernel_rfl) (by kernel_rfl) ?_ | refine AM.opW_tied (by kernel_rfl) ?_ | refine AM.opW_untied (by kernel_rfl) ?_))
  have d0 : decide (300 < (M.length : Int)) = false := decide_eq_false h300
  have ea := aN_eq (k := k) ha
  have ak := aN_lt (a := a0) k1
  generalize aN a0 k = a at *
  (repeat' (first | (simp (maxSteps := 1000000) (disch := first | omega | (simp only [AM.DB, List.length_set, List.length_map]; first | done | omega)) only [AM.RB, Nat.reduceAdd, Nat.reduceMul, Nat.reduceEqDiff, reduceCtorEq, b6_GR15, d0, ek, ea]) | refine AM.drawW_fine hp (by kernel_rfl) (by kernel_rfl) (by kernel_rfl) ?_ | refine AM.opW_tied (by kernel_rfl) ?_ | refine AM.opW_untied (by kernel_rfl) ?_))
  refine grDist_w x2 (by omega) hl2 a fun vD h3 oD fr3 hidD => ?_
  have isd := dI_is (E := E) (show 0 ≤ (a : Int) by omega) (show (a : Int) < k by omega)
  generalize dI k E a = D at *
  have hDl : D.length = k := isd.len
  have hr : 0 ≤ (a : Int) ∧ (a : Int) < k := by omega
  have z0 := isd.zero' hr.1 hr.2
  rw [Int.toNat_natCast] at z0
  have bnd := fun (b : Nat) (hb : b < k) => isd.bound hr outsI_dom (b := b) (by omega)
  simp only [Int.toNat_natCast] at bnd
  rw [hDl] at oD
  obtain ⟨da, dc, rfl⟩ := oD.form
  have hl3 := fr3.hl hl2
  have rD := oD.rd
  (repeat' (first | (simp (maxSteps := 1000000) (disch := first | omega | (simp only [AM.DB, List.length_set, List.length_map]; first | done | omega)) only [AM.RB, Nat.reduceAdd, Nat.reduceMul, Nat.reduceEqDiff, reduceCtorEq, b6_GR15, rD.ia el_26, rD.ldi lk_3, Int.toNat_natCast, z0]) | refine AM.drawW_fine hp (by kernel_rfl) (by kernel_rfl) (by kernel_rfl) ?_ | refine AM.opW_tied (by kernel_rfl) ?_ | refine AM.opW_untied (by kernel_rfl) ?_))
  refine grBack_w (x2.fr0 fr3) nl (by omega) hl3 fun h4 pb S4 x4 fr4 hS4 => ?_
  have hl4 := fr4.hl hl3
  have x24 := x2.fr0 (fr3.trans fr4)
  have oD4 := oD.fr0 fr4
  (repeat' (first | (simp (maxSteps := 1000000) (disch := first | omega | (simp only [AM.DB, List.length_set, List.length_map]; first | done | omega)) only [AM.RB, Nat.reduceAdd, Nat.reduceMul, Nat.reduceEqDiff, reduceCtorEq, b6_GR15]) | refine AM.drawW_fine hp (by kernel_rfl) (by kernel_rfl) (by kernel_rfl) ?_ | refine AM.opW_tied (by kernel_rfl) ?_ | refine AM.opW_untied (by kernel_rfl) ?_))
  refine AM.loop_w hp 138 (fun i : Nat => [(6, .bool false), (7, .bool true), (8, .int .i64 k), (9, pv p), (10, .int .i64 a), (11, .slice da k dc), (12, pv pb), (60, .int .i64 k), (61, .int .i64 i)])
    (fun i h' => i ≤ k ∧ Fr none' h4 h') (fun i => k - i) (by kernel_rfl) 0 ?_ ?_ ?_
  · simp (maxSteps := 1000000) (disch := first | omega | (simp only [AM.DB, List.length_set, List.length_map]; first | done | omega)) only [AM.RB, Nat.reduceAdd, Nat.reduceMul, Nat.reduceEqDiff, reduceCtorEq, b6_GR15]
    first | rfl | skip
  · exact ⟨Nat.zero_le _, Fr.refl _ _⟩
  rintro i h5 ρ ⟨hi, fr5⟩
  have hl5 := fr5.hl hl4
  have x5 := x24.fr0 fr5
  have y5 := x4.fr0 fr5
  have oD5 := oD4.fr0 fr5
  (repeat' (first | (simp (maxSteps := 1000000) (disch := first | omega | (simp only [AM.DB, List.length_set, List.length_map]; first | done | omega)) only [AM.RB, Nat.reduceAdd, Nat.reduceMul, Nat.reduceEqDiff, reduceCtorEq, b6_GR15]) | refine AM.drawW_fine hp (by kernel_rfl) (by kernel_rfl) (by kernel_rfl) ?_ | refine AM.opW_tied (by kernel_rfl) ?_ | refine AM.opW_untied (by kernel_rfl) ?_))
  refine AM.condV_split (fun hlt => ?_) (fun hlt => ?_)
  case' refine_2 =>
    (repeat' (first | (simp (maxSteps := 1000000) (disch := first | omega | (simp only [AM.DB, List.length_set, List.length_map]; first | done | omega)) only [AM.RB, Nat.reduceAdd, Nat.reduceMul, Nat.reduceEqDiff, reduceCtorEq, b6_GR15]) | refine AM.drawW_fine hp (by kernel_rfl) (by kernel_rfl) (by kernel_rfl) ?_ | refine AM.opW_tied (by kernel_rfl) ?_ | refine AM.opW_untied (by kernel_rfl) ?_))
  have hik : i < k := by omega
  (repeat' (first | (simp (maxSteps := 1000000) (disch := first | omega | (simp only [AM.DB, List.length_set, List.length_map]; first | done | omega)) only [AM.RB, Nat.reduceAdd, Nat.reduceMul, Nat.reduceEqDiff, reduceCtorEq, b6_GR15]) | refine AM.drawW_fine hp (by kernel_rfl) (by kernel_rfl) (by kernel_rfl) ?_ | refine AM.opW_tied (by kernel_rfl) ?_ | refine AM.opW_untied (by kernel_rfl) ?_))
  refine grOut_w x5 (by omega) hl5 i fun vO h6 oO fr6 hidO => ?_
  have mO := fun c (hc : c ∈ outsI k E i) => outsI_dom (i : Int) (by omega) c hc
  have along := fun c (hc : c ∈ outsI k E i) (q : 0 ≤ D.getD i 0) => isd.along (b := i) (by omega) hc (mO c hc) (by rw [Int.toNat_natCast]; exact q)
  simp only [Int.toNat_natCast] at along
  have lO := outsI_len k E i
  generalize outsI k E i = O at *
  obtain ⟨oa, oc, rfl⟩ := oO.form
  have hl6 := fr6.hl hl5
  (repeat' (first | (simp (maxSteps := 1000000) (disch := first | omega | (simp only [AM.DB, List.length_set, List.length_map]; first | done | omega)) only [AM.RB, Nat.reduceAdd, Nat.reduceMul, Nat.reduceEqDiff, reduceCtorEq, b6_GR15]) | refine AM.drawW_fine hp (by kernel_rfl) (by kernel_rfl) (by kernel_rfl) ?_ | refine AM.opW_tied (by kernel_rfl) ?_ | refine AM.opW_untied (by kernel_rfl) ?_))
  refine AM.loop_w hp 138 (fun j : Nat => [(6, .bool false), (7, .bool true), (8, .int .i64 k), (9, pv p), (10, .int .i64 a), (11, .slice da k dc), (12, pv pb), (13, .int .i64 i), (60, .int .i64 k), (61, .int .i64 i), (66, .slice oa O.length oc), (67, .int .i64 O.length), (68, .int .i64 j)])
    (fun j h' => j ≤ O.length ∧ Fr none' h6 h') (fun j => O.length - j) (by kernel_rfl) 0 ?_ ?_ ?_
  · simp (maxSteps := 1000000) (disch := first | omega | (simp only [AM.DB, List.length_set, List.length_map]; first | done | omega)) only [AM.RB, Nat.reduceAdd, Nat.reduceMul, Nat.reduceEqDiff, reduceCtorEq, b6_GR15]
    first | rfl | skip
  · exact ⟨Nat.zero_le _, Fr.refl _ _⟩
  rintro j h7 ρ7 ⟨hj, fr7⟩
  have hl7 := fr7.hl hl6
  have r7 := (oO.fr0 fr7).rd
  have d7 := (oD5.fr0 (fr6.trans fr7)).rd
  (repeat' (first | (simp (maxSteps := 1000000) (disch := first | omega | (simp only [AM.DB, List.length_set, List.length_map]; first | done | omega)) only [AM.RB, Nat.reduceAdd, Nat.reduceMul, Nat.reduceEqDiff, reduceCtorEq, b6_GR15]) | refine AM.drawW_fine hp (by kernel_rfl) (by kernel_rfl) (by kernel_rfl) ?_ | refine AM.opW_tied (by kernel_rfl) ?_ | refine AM.opW_untied (by kernel_rfl) ?_))
  refine AM.condV_split (fun hjt => ?_) (fun hjt => ?_)
  · have hjl : j < O.length := by omega
    have hc := getD_memI hjl
    have mc' := mO _ hc
    have al := along _ hc
    have bn := bnd i hik
    generalize hcc : O.getD j 0 = c at *
    by_cases q : 0 ≤ D.getD i 0
    · obtain ⟨al1, al2⟩ := al q
      have q0 : decide (0 ≤ D.getD i 0) = true := decide_eq_true q
      have q1 : decide (D.getD c.toNat 0 < 0) = false := decide_eq_false (by omega)
      have ew : IntKind.i64.wrap (D.getD i 0 + 1) = D.getD i 0 + 1 := AM.wrap_i64 (by omega) (by omega)
      have q2 : decide (D.getD i 0 + 1 < D.getD c.toNat 0) = false := decide_eq_false (by omega)
      (repeat' (first | (simp (maxSteps := 1000000) (disch := first | omega | (simp only [AM.DB, List.length_set, List.length_map]; first | done | omega)) only [AM.RB, Nat.reduceAdd, Nat.reduceMul, Nat.reduceEqDiff, reduceCtorEq, b6_GR15, r7.ia el_26, r7.ldi lk_3, d7.ia el_26, d7.ldi lk_3, Int.toNat_natCast, hcc, q0, q1, ew, q2, AM.wrap_i64]) | refine AM.drawW_fine hp (by kernel_rfl) (by kernel_rfl) (by kernel_rfl) ?_ | refine AM.opW_tied (by kernel_rfl) ?_ | refine AM.opW_untied (by kernel_rfl) ?_))
      refine ⟨j + 1, by omega, ?_, by omega, fr7⟩
      simp (maxSteps := 1000000) (disch := first | omega | (simp only [AM.DB, List.length_set, List.length_map]; first | done | omega)) only [AM.RB, Nat.reduceAdd, Nat.reduceMul, Nat.reduceEqDiff, reduceCtorEq, b6_GR15]
      first | rfl | skip
    · have q0 : decide (0 ≤ D.getD i 0) = false := decide_eq_false q
      (repeat' (first | (simp (maxSteps := 1000000) (disch := first | omega | (simp only [AM.DB, List.length_set, List.length_map]; first | done | omega)) only [AM.RB, Nat.reduceAdd, Nat.reduceMul, Nat.reduceEqDiff, reduceCtorEq, b6_GR15, r7.ia el_26, r7.ldi lk_3, d7.ia el_26, d7.ldi lk_3, Int.toNat_natCast, hcc, q0, AM.wrap_i64]) | refine AM.drawW_fine hp (by kernel_rfl) (by kernel_rfl) (by kernel_rfl) ?_ | refine AM.opW_tied (by kernel_rfl) ?_ | refine AM.opW_untied (by kernel_rfl) ?_))
      refine ⟨j + 1, by omega, ?_, by omega, fr7⟩
      simp (maxSteps := 1000000) (disch := first | omega | (simp only [AM.DB, List.length_set, List.length_map]; first | done | omega)) only [AM.RB, Nat.reduceAdd, Nat.reduceMul, Nat.reduceEqDiff, reduceCtorEq, b6_GR15]
      first | rfl | skip
  by_cases q : D.getD i 0 < 1
  · have q0 : decide (D.getD i 0 < 1) = true := decide_eq_true q
    by_cases qz : D.getD i 0 = 0
    · have ia : (i : Int) = a := isd.self (b := i) (by omega) (by rw [Int.toNat_natCast]; exact qz)
      have q1 : decide (D.getD i 0 = 0) = true := decide_eq_true qz
      have q2 : decide ((i : Int) = a) = true := decide_eq_true ia
      (repeat' (first | (simp (maxSteps := 1000000) (disch := first | omega | (simp only [AM.DB, List.length_set, List.length_map]; first | done | omega)) only [AM.RB, Nat.reduceAdd, Nat.reduceMul, Nat.reduceEqDiff, reduceCtorEq, b6_GR15, d7.ia el_26, d7.ldi lk_3, Int.toNat_natCast, q0, q1, q2, AM.wrap_i64]) | refine AM.drawW_fine hp (by kernel_rfl) (by kernel_rfl) (by kernel_rfl) ?_ | refine AM.opW_tied (by kernel_rfl) ?_ | refine AM.opW_untied (by kernel_rfl) ?_))
      exact ⟨i + 1, by omega, by simp, by omega, (fr5.trans fr6).trans fr7⟩
    · have q1 : decide (D.getD i 0 = 0) = false := decide_eq_false qz
      (repeat' (first | (simp (maxSteps := 1000000) (disch := first | omega | (simp only [AM.DB, List.length_set, List.length_map]; first | done | omega)) only [AM.RB, Nat.reduceAdd, Nat.reduceMul, Nat.reduceEqDiff, reduceCtorEq, b6_GR15, d7.ia el_26, d7.ldi lk_3, Int.toNat_natCast, q0, q1, AM.wrap_i64]) | refine AM.drawW_fine hp (by kernel_rfl) (by kernel_rfl) (by kernel_rfl) ?_ | refine AM.opW_tied (by kernel_rfl) ?_ | refine AM.opW_untied (by kernel_rfl) ?_))
      exact ⟨i + 1, by omega, by simp, by omega, (fr5.trans fr6).trans fr7⟩
  have q0 : decide (D.getD i 0 < 1) = false := decide_eq_false q
  (repeat' (first | (simp (maxSteps := 1000000) (disch := first | omega | (simp only [AM.DB, List.length_set, List.length_map]; first | done | omega)) only [AM.RB, Nat.reduceAdd, Nat.reduceMul, Nat.reduceEqDiff, reduceCtorEq, b6_GR15, d7.ia el_26, d7.ldi lk_3, Int.toNat_natCast, q0]) | refine AM.drawW_fine hp (by kernel_rfl) (by kernel_rfl) (by kernel_rfl) ?_ | refine AM.opW_tied (by kernel_rfl) ?_ | refine AM.opW_untied (by kernel_rfl) ?_))
  obtain ⟨w, hw, wi, wd⟩ := isd.near hr outsI_dom (b := i) (by omega) (by rw [Int.toNat_natCast]; omega)
  rw [Int.toNat_natCast] at wd
  refine grOut_w (y5.fr0 (fr6.trans fr7)) (by omega) hl7 i fun vB h8 oB fr8 hidB => ?_
  have mB := fun c (hc : c ∈ outsI k (fun a b => E b a) i) => outsI_dom (i : Int) (by omega) c hc
  have lB := outsI_len k (fun a b => E b a) i
  have wB : w ∈ outsI k (fun a b => E b a) i := by
    rw [mem_outsI] at wi ⊢
    unfold eI at wi ⊢
    rw [Bool.and_eq_true, decide_eq_true_iff] at wi ⊢
    exact ⟨⟨wi.1.2, wi.1.1⟩, wi.2⟩
  generalize outsI k (fun a b => E b a) i = B at *
  obtain ⟨ba, bc, rfl⟩ := oB.form
  have hl8 := fr8.hl hl7
  (repeat' (first | (simp (maxSteps := 1000000) (disch := first | omega | (simp only [AM.DB, List.length_set, List.length_map]; first | done | omega)) only [AM.RB, Nat.reduceAdd, Nat.reduceMul, Nat.reduceEqDiff, reduceCtorEq, b6_GR15]) | refine AM.drawW_fine hp (by kernel_rfl) (by kernel_rfl) (by kernel_rfl) ?_ | refine AM.opW_tied (by kernel_rfl) ?_ | refine AM.opW_untied (by kernel_rfl) ?_))
  refine AM.loop_w hp 138 (fun j : Nat => [(6, .bool false), (7, .bool true), (8, .int .i64 k), (9, pv p), (10, .int .i64 a), (11, .slice da k dc), (12, pv pb), (13, .int .i64 i), (16, .bool (nearB D B i j)), (60, .int .i64 k), (61, .int .i64 i), (114, .slice ba B.length bc), (115, .int .i64 B.length), (116, .int .i64 j)])
    (fun j h' => j ≤ B.length ∧ Fr none' h8 h') (fun j => B.length - j) (by kernel_rfl) 0 ?_ ?_ ?_
  · simp (maxSteps := 1000000) (disch := first | omega | (simp only [AM.DB, List.length_set, List.length_map]; first | done | omega)) only [AM.RB, Nat.reduceAdd, Nat.reduceMul, Nat.reduceEqDiff, reduceCtorEq, b6_GR15]
    first | rfl | skip
  · exact ⟨Nat.zero_le _, Fr.refl _ _⟩
  rintro t h9 ρ9 ⟨ht, fr9⟩
  have hl9 := fr9.hl hl8
  have r9 := (oB.fr0 fr9).rd
  have d9 := (oD5.fr0 (((fr6.trans fr7).trans fr8).trans fr9)).rd
  (repeat' (first | (simp (maxSteps := 1000000) (disch := first | omega | (simp only [AM.DB, List.length_set, List.length_map]; first | done | omega)) only [AM.RB, Nat.reduceAdd, Nat.reduceMul, Nat.reduceEqDiff, reduceCtorEq, b6_GR15]) | refine AM.drawW_fine hp (by kernel_rfl) (by kernel_rfl) (by kernel_rfl) ?_ | refine AM.opW_tied (by kernel_rfl) ?_ | refine AM.opW_untied (by kernel_rfl) ?_))
  refine AM.condV_split (fun htt => ?_) (fun htt => ?_)
  · have htl : t < B.length := by omega
    have ns := nearB_succ D B i htl
    have hc := getD_memI htl
    have mc' := mB _ hc
    have bn := bnd i hik
    generalize hcc : B.getD t 0 = c at *
    have ew : IntKind.i64.wrap (D.getD i 0 - 1) = D.getD i 0 - 1 := AM.wrap_i64 (by omega) (by omega)
    cases hb : nearB D B i t with
    | true =>
      rw [hb] at ns
      (repeat' (first | (simp (maxSteps := 1000000) (disch := first | omega | (simp only [AM.DB, List.length_set, List.length_map]; first | done | omega)) only [AM.RB, Nat.reduceAdd, Nat.reduceMul, Nat.reduceEqDiff, reduceCtorEq, b6_GR15, r9.ia el_26, r9.ldi lk_3, d9.ia el_26, d9.ldi lk_3, Int.toNat_natCast, hcc, hb, ew, AM.wrap_i64]) | refine AM.drawW_fine hp (by kernel_rfl) (by kernel_rfl) (by kernel_rfl) ?_ | refine AM.opW_tied (by kernel_rfl) ?_ | refine AM.opW_untied (by kernel_rfl) ?_))
      refine ⟨t + 1, by omega, ?_, by omega, fr9⟩
      rw [ns]
      simp (maxSteps := 1000000) (disch := first | omega | (simp only [AM.DB, List.length_set, List.length_map]; first | done | omega)) only [AM.RB, Nat.reduceAdd, Nat.reduceMul, Nat.reduceEqDiff, reduceCtorEq, b6_GR15]
      first | rfl | skip
    | false =>
      rw [hb] at ns
      (repeat' (first | (simp (maxSteps := 1000000) (disch := first | omega | (simp only [AM.DB, List.length_set, List.length_map]; first | done | omega)) only [AM.RB, Nat.reduceAdd, Nat.reduceMul, Nat.reduceEqDiff, reduceCtorEq, b6_GR15, r9.ia el_26, r9.ldi lk_3, d9.ia el_26, d9.ldi lk_3, Int.toNat_natCast, hcc, hb, ew, AM.wrap_i64]) | refine AM.drawW_fine hp (by kernel_rfl) (by kernel_rfl) (by kernel_rfl) ?_ | refine AM.opW_tied (by kernel_rfl) ?_ | refine AM.opW_untied (by kernel_rfl) ?_))
      refine ⟨t + 1, by omega, ?_, by omega, fr9⟩
      rw [ns, Bool.false_or]
      simp (maxSteps := 1000000) (disch := first | omega | (simp only [AM.DB, List.length_set, List.length_map]; first | done | omega)) only [AM.RB, Nat.reduceAdd, Nat.reduceMul, Nat.reduceEqDiff, reduceCtorEq, b6_GR15]
      first | rfl | skip
  obtain rfl : t = B.length := by omega
  have nt : nearB D B i B.length = true := by
    unfold nearB
    rw [List.take_length, List.any_eq_true]
    exact ⟨w, wB, decide_eq_true wd⟩
  (repeat' (first | (simp (maxSteps := 1000000) (disch := first | omega | (simp only [AM.DB, List.length_set, List.length_map]; first | done | omega)) only [AM.RB, Nat.reduceAdd, Nat.reduceMul, Nat.reduceEqDiff, reduceCtorEq, b6_GR15, nt, AM.wrap_i64]) | refine AM.drawW_fine hp (by kernel_rfl) (by kernel_rfl) (by kernel_rfl) ?_ | refine AM.opW_tied (by kernel_rfl) ?_ | refine AM.opW_untied (by kernel_rfl) ?_))
  exact ⟨i + 1, by omega, by simp, by omega, (((fr5.trans fr6).trans fr7).trans fr8).trans fr9⟩
end Go.Proofs.Ytnkbdbopiancmaa
