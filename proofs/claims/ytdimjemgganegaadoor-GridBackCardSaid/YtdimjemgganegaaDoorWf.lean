/- Walks of this claim's functions, and plain laws. -/
import Derived.Test.YtdimjemgganegaaDoorWe
set_option linter.unusedSimpArgs false
set_option linter.unusedVariables false
namespace Go.Proofs.YtdimjemgganegaaDoor
open Go.AM
set_option maxRecDepth 8000
theorem b6_G25 : type_of% (And.intro (@Option.isNone_none.{0}) (And.intro (@Option.isNone_some.{0}) (And.intro (@AM.bin_add) (And.intro (@AM.bin_eql) (And.intro (@AM.bin_gtr) (And.intro (@AM.bin_leq) (And.intro (@AM.bin_lss) (And.intro (@AM.bin_neq) (And.intro (AM.bin_pnil ul_23) (And.intro (@AM.bin_sub) (And.intro (@AM.ex_tuple) (And.intro (@AM.iaO_ok) (And.intro (AM.ia_slice el_29) (And.intro (@AM.ldO_agg) (And.intro (@AM.ldO_one) (And.intro (@AM.ld_ptr) (And.intro (AM.len_slice ul_29) (And.intro (@lk_3) (And.intro (@AM.op_binOp) (And.intro (@AM.op_call) (And.intro (@AM.op_extract) (And.intro (@AM.op_indexAddr) (And.intro (@AM.op_len) (And.intro (@AM.op_load) (And.intro (@AM.op_unOp) (And.intro (AM.str_len ul_9) (And.intro (@AM.str_neq) (And.intro (@AM.un_neg) (@AM.un_not))))))))))))))))))))))))))))) := And.intro (@Option.isNone_none.{0}) (And.intro (@Option.isNone_some.{0}) (And.intro (@AM.bin_add) (And.intro (@AM.bin_eql) (And.intro (@AM.bin_gtr) (And.intro (@AM.bin_leq) (And.intro (@AM.bin_lss) (And.intro (@AM.bin_neq) (And.intro (AM.bin_pnil ul_23) (And.intro (@AM.bin_sub) (And.intro (@AM.ex_tuple) (And.intro (@AM.iaO_ok) (And.intro (AM.ia_slice el_29) (And.intro (@AM.ldO_agg) (And.intro (@AM.ldO_one) (And.intro (@AM.ld_ptr) (And.intro (AM.len_slice ul_29) (And.intro (@lk_3) (And.intro (@AM.op_binOp) (And.intro (@AM.op_call) (And.intro (@AM.op_extract) (And.intro (@AM.op_indexAddr) (And.intro (@AM.op_len) (And.intro (@AM.op_load) (And.intro (@AM.op_unOp) (And.intro (AM.str_len ul_9) (And.intro (@AM.str_neq) (And.intro (@AM.un_neg) (@AM.un_not))))))))))))))))))))))))))))


theorem mem_take_succ (l : List Int) (x : Int) {j : Nat} (hj : j < l.length) : decide (x ∈ l.take (j + 1)) = (decide (x ∈ l.take j) || decide (l.getD j 0 = x)) := by
  have hg : l.getD j 0 = l[j] := by simp [List.getD, hj]
  have h : x ∈ l.take (j + 1) ↔ (x ∈ l.take j ∨ l.getD j 0 = x) := by
    rw [List.take_add_one, List.getElem?_eq_getElem hj, List.mem_append, Option.toList_some, List.mem_singleton, hg]
    exact ⟨fun q => q.imp id Eq.symm, fun q => q.imp id Eq.symm⟩
  rw [← Bool.decide_or]
  exact decide_eq_decide.2 h
set_option maxHeartbeats 8000000 in
theorem backLaw_w (s : List UInt8) {h : AHeap} (hw0 : h.get GW = some (.cells waysC 89 false)) (hl0 : h.low = h.next) : W 6 [strV s] h fun v _ => v = .bool true := by
  have hgl : GW < h.low := by have := AM.get_some_lt hw0; omega
  refine AM.enter hp (fn := Tryd.f6) (rs := [.tmp 2]) (nt := 167) (by kernel_rfl) Tryd.func6 rfl rfl rfl (by kernel_rfl) ?_
  (first | (simp (maxSteps := 1000000) (disch := first | omega | (simp only [AM.DB, List.length_set, List.length_map]; first | done | omega)) only [AM.RB, Nat.reduceAdd, Nat.reduceMul, Nat.reduceEqDiff, reduceCtorEq, b6_G25]) | skip); (repeat' ((first | refine AM.drawW_fine hp (by kernel_rfl) (by kernel_rfl) ?_ | refine AM.opW_tied (by kernel_rfl) ?_ | refine AM.opW_untied (by kernel_rfl) ?_ | refine AM.build_w ?_); simp (maxSteps := 1000000) (disch := first | omega | (simp only [AM.DB, List.length_set, List.length_map]; first | done | omega)) only [AM.RB, Nat.reduceAdd, Nat.reduceMul, Nat.reduceEqDiff, reduceCtorEq, b6_G25]))
  refine alive_w hw0 hgl (by omega) fun h0 fr0 => ?_
  have hw00 := hw0.fr0 fr0
  have lw0 := fr0.low
  have nx0 := fr0.next
  by_cases hlen : (1200 : Int) < s.length
  · (first | (simp (maxSteps := 1000000) (disch := first | omega | (simp only [AM.DB, List.length_set, List.length_map]; first | done | omega)) only [AM.RB, Nat.reduceAdd, Nat.reduceMul, Nat.reduceEqDiff, reduceCtorEq, b6_G25, decide_eq_true hlen]) | skip); (repeat' ((first | refine AM.drawW_fine hp (by kernel_rfl) (by kernel_rfl) ?_ | refine AM.opW_tied (by kernel_rfl) ?_ | refine AM.opW_untied (by kernel_rfl) ?_ | refine AM.build_w ?_); simp (maxSteps := 1000000) (disch := first | omega | (simp only [AM.DB, List.length_set, List.length_map]; first | done | omega)) only [AM.RB, Nat.reduceAdd, Nat.reduceMul, Nat.reduceEqDiff, reduceCtorEq, b6_G25, decide_eq_true hlen]))
  (first | (simp (maxSteps := 1000000) (disch := first | omega | (simp only [AM.DB, List.length_set, List.length_map]; first | done | omega)) only [AM.RB, Nat.reduceAdd, Nat.reduceMul, Nat.reduceEqDiff, reduceCtorEq, b6_G25, decide_eq_false hlen]) | skip); (repeat' ((first | refine AM.drawW_fine hp (by kernel_rfl) (by kernel_rfl) ?_ | refine AM.opW_tied (by kernel_rfl) ?_ | refine AM.opW_untied (by kernel_rfl) ?_ | refine AM.build_w ?_); simp (maxSteps := 1000000) (disch := first | omega | (simp only [AM.DB, List.length_set, List.length_map]; first | done | omega)) only [AM.RB, Nat.reduceAdd, Nat.reduceMul, Nat.reduceEqDiff, reduceCtorEq, b6_G25, decide_eq_false hlen]))
  refine parseV_w s (by omega) (by omega) (fun a' b' hv h1 fr1 => ?_) (fun L hv p kv h1 m0 fr1 hp1 hid1 => ?_)
  · have d100 : decide ((10 : Int) = 0) = false := rfl
    (first | (simp (maxSteps := 1000000) (disch := first | omega | (simp only [AM.DB, List.length_set, List.length_map]; first | done | omega)) only [AM.RB, Nat.reduceAdd, Nat.reduceMul, Nat.reduceEqDiff, reduceCtorEq, b6_G25, d100]) | skip); (repeat' ((first | refine AM.drawW_fine hp (by kernel_rfl) (by kernel_rfl) ?_ | refine AM.opW_tied (by kernel_rfl) ?_ | refine AM.opW_untied (by kernel_rfl) ?_ | refine AM.build_w ?_); simp (maxSteps := 1000000) (disch := first | omega | (simp only [AM.DB, List.length_set, List.length_map]; first | done | omega)) only [AM.RB, Nat.reduceAdd, Nat.reduceMul, Nat.reduceEqDiff, reduceCtorEq, b6_G25, d100]))
  have G := verd_good hv
  have f := G.fit
  have hK := f.k1024
  have hbd : L.length ≤ 4000000 ∧ (L.getD 0 []).length ≤ 4000000 := by have := f.r32; have := f.c32; omega
  have flen := f.len
  have hw1 := hw00.fr0 fr1
  have lw1 := fr1.low
  have nx1 := fr1.next
  (first | (simp (maxSteps := 1000000) (disch := first | omega | (simp only [AM.DB, List.length_set, List.length_map]; first | done | omega)) only [AM.RB, Nat.reduceAdd, Nat.reduceMul, Nat.reduceEqDiff, reduceCtorEq, b6_G25]) | skip); (repeat' ((first | refine AM.drawW_fine hp (by kernel_rfl) (by kernel_rfl) ?_ | refine AM.opW_tied (by kernel_rfl) ?_ | refine AM.opW_untied (by kernel_rfl) ?_ | refine AM.build_w ?_); simp (maxSteps := 1000000) (disch := first | omega | (simp only [AM.DB, List.length_set, List.length_map]; first | done | omega)) only [AM.RB, Nat.reduceAdd, Nat.reduceMul, Nat.reduceEqDiff, reduceCtorEq, b6_G25]))
  refine text_w m0 G.rows G.cols G.len ⟨f.r32, f.c32⟩ (by omega) fun h2 fr2 => ?_
  rw [G.text]
  have m2 := m0.fr0 fr2
  have hw2 := hw1.fr0 fr2
  have lw2 := fr2.low
  have nx2 := fr2.next
  (first | (simp (maxSteps := 1000000) (disch := first | omega | (simp only [AM.DB, List.length_set, List.length_map]; first | done | omega)) only [AM.RB, Nat.reduceAdd, Nat.reduceMul, Nat.reduceEqDiff, reduceCtorEq, b6_G25]) | skip); (repeat' ((first | refine AM.drawW_fine hp (by kernel_rfl) (by kernel_rfl) ?_ | refine AM.opW_tied (by kernel_rfl) ?_ | refine AM.opW_untied (by kernel_rfl) ?_ | refine AM.build_w ?_); simp (maxSteps := 1000000) (disch := first | omega | (simp only [AM.DB, List.length_set, List.length_map]; first | done | omega)) only [AM.RB, Nat.reduceAdd, Nat.reduceMul, Nat.reduceEqDiff, reduceCtorEq, b6_G25]))
  refine parseV_w s (by omega) (by omega) (fun a' b' hv' h3 fr3 => by rw [hv] at hv'; cases hv') (fun L' hv' p2 kv2 h3 m3 fr3 hp3 hid3 => ?_)
  rw [hv] at hv'
  cases hv'
  have m23 := m2.fr0 fr3
  have hw3 := hw2.fr0 fr3
  have lw3 := fr3.low
  have nx3 := fr3.next
  (first | (simp (maxSteps := 1000000) (disch := first | omega | (simp only [AM.DB, List.length_set, List.length_map]; first | done | omega)) only [AM.RB, Nat.reduceAdd, Nat.reduceMul, Nat.reduceEqDiff, reduceCtorEq, b6_G25]) | skip); (repeat' ((first | refine AM.drawW_fine hp (by kernel_rfl) (by kernel_rfl) ?_ | refine AM.opW_tied (by kernel_rfl) ?_ | refine AM.opW_untied (by kernel_rfl) ?_ | refine AM.build_w ?_); simp (maxSteps := 1000000) (disch := first | omega | (simp only [AM.DB, List.length_set, List.length_map]; first | done | omega)) only [AM.RB, Nat.reduceAdd, Nat.reduceMul, Nat.reduceEqDiff, reduceCtorEq, b6_G25]))
  refine text_w m3 G.rows G.cols G.len ⟨f.r32, f.c32⟩ (by omega) fun h4 fr4 => ?_
  rw [G.text]
  have mt4 := Mt.start (m23.fr0 fr4)
  have hw4 := hw3.fr0 fr4
  have lw4 := fr4.low
  have nx4 := fr4.next
  have hgp : GW ≠ p := by omega
  (first | (simp (maxSteps := 1000000) (disch := first | omega | (simp only [AM.DB, List.length_set, List.length_map]; first | done | omega)) only [AM.RB, Nat.reduceAdd, Nat.reduceMul, Nat.reduceEqDiff, reduceCtorEq, b6_G25, decide_eq_true (rfl : s = s)]) | skip); (repeat' ((first | refine AM.drawW_fine hp (by kernel_rfl) (by kernel_rfl) ?_ | refine AM.opW_tied (by kernel_rfl) ?_ | refine AM.opW_untied (by kernel_rfl) ?_ | refine AM.build_w ?_); simp (maxSteps := 1000000) (disch := first | omega | (simp only [AM.DB, List.length_set, List.length_map]; first | done | omega)) only [AM.RB, Nat.reduceAdd, Nat.reduceMul, Nat.reduceEqDiff, reduceCtorEq, b6_G25, decide_eq_true (rfl : s = s)]))
  refine AM.loop_w hp 167 (fun a : Nat => [(2, .bool false), (3, .bool true), (4, pv p), (12, .int .i64 (inN L a)), (13, .int .i64 a)])
    (fun a h' => a ≤ L.flatten.length ∧ h4.next ≤ h'.next ∧ h'.low = h.low ∧ h'.get GW = some (.cells waysC 89 false) ∧ ∃ S, Mt h' p L S) (fun a => L.flatten.length - a) (by kernel_rfl) 0 ?_ ?_ ?_
  · simp (maxSteps := 1000000) (disch := first | omega | (simp only [AM.DB, List.length_set, List.length_map]; first | done | omega)) only [AM.RB, Nat.reduceAdd, Nat.reduceMul, Nat.reduceEqDiff, reduceCtorEq, b6_G25]
    rfl
  · exact ⟨Nat.zero_le _, Nat.le_refl _, by omega, hw4, _, mt4⟩
  rintro a h5 ρ ⟨ha, nx5, lw5, hw5, S5, mt5⟩
  obtain ⟨kv5, tl5, m5⟩ := mt5.mp
  have hin := inN_le f a
  (first | (simp (maxSteps := 1000000) (disch := first | omega | (simp only [AM.DB, List.length_set, List.length_map]; first | done | omega)) only [AM.RB, Nat.reduceAdd, Nat.reduceMul, Nat.reduceEqDiff, reduceCtorEq, b6_G25]) | skip); (repeat' ((first | refine AM.drawW_fine hp (by kernel_rfl) (by kernel_rfl) ?_ | refine AM.opW_tied (by kernel_rfl) ?_ | refine AM.opW_untied (by kernel_rfl) ?_ | refine AM.build_w ?_); simp (maxSteps := 1000000) (disch := first | omega | (simp only [AM.DB, List.length_set, List.length_map]; first | done | omega)) only [AM.RB, Nat.reduceAdd, Nat.reduceMul, Nat.reduceEqDiff, reduceCtorEq, b6_G25]))
  refine cells_w m5 f.rows hbd _ ?_
  (first | (simp (maxSteps := 1000000) (disch := first | omega | (simp only [AM.DB, List.length_set, List.length_map]; first | done | omega)) only [AM.RB, Nat.reduceAdd, Nat.reduceMul, Nat.reduceEqDiff, reduceCtorEq, b6_G25]) | skip); (repeat' ((first | refine AM.drawW_fine hp (by kernel_rfl) (by kernel_rfl) ?_ | refine AM.opW_tied (by kernel_rfl) ?_ | refine AM.opW_untied (by kernel_rfl) ?_ | refine AM.build_w ?_); simp (maxSteps := 1000000) (disch := first | omega | (simp only [AM.DB, List.length_set, List.length_map]; first | done | omega)) only [AM.RB, Nat.reduceAdd, Nat.reduceMul, Nat.reduceEqDiff, reduceCtorEq, b6_G25]))
  refine AM.condV_split (fun hlt => ?_) (fun hlt => ?_)
  · (first | (simp (maxSteps := 1000000) (disch := first | omega | (simp only [AM.DB, List.length_set, List.length_map]; first | done | omega)) only [AM.RB, Nat.reduceAdd, Nat.reduceMul, Nat.reduceEqDiff, reduceCtorEq, b6_G25]) | skip); (repeat' ((first | refine AM.drawW_fine hp (by kernel_rfl) (by kernel_rfl) ?_ | refine AM.opW_tied (by kernel_rfl) ?_ | refine AM.opW_untied (by kernel_rfl) ?_ | refine AM.build_w ?_); simp (maxSteps := 1000000) (disch := first | omega | (simp only [AM.DB, List.length_set, List.length_map]; first | done | omega)) only [AM.RB, Nat.reduceAdd, Nat.reduceMul, Nat.reduceEqDiff, reduceCtorEq, b6_G25]))
    refine next_w mt5 f hw5 (by omega) (by omega) a fun x h6 S6 mt6 hS6 o6 fr6 hid6 => ?_
    obtain ⟨xa, xc, rfl⟩ := o6.form
    have lw6 := fr6.low
    have nx6 := fr6.next
    have hw6 := fr6.get hw5 hgp
    (first | (simp (maxSteps := 1000000) (disch := first | omega | (simp only [AM.DB, List.length_set, List.length_map]; first | done | omega)) only [AM.RB, Nat.reduceAdd, Nat.reduceMul, Nat.reduceEqDiff, reduceCtorEq, b6_G25]) | skip); (repeat' ((first | refine AM.drawW_fine hp (by kernel_rfl) (by kernel_rfl) ?_ | refine AM.opW_tied (by kernel_rfl) ?_ | refine AM.opW_untied (by kernel_rfl) ?_ | refine AM.build_w ?_); simp (maxSteps := 1000000) (disch := first | omega | (simp only [AM.DB, List.length_set, List.length_map]; first | done | omega)) only [AM.RB, Nat.reduceAdd, Nat.reduceMul, Nat.reduceEqDiff, reduceCtorEq, b6_G25]))
    refine back_w mt6 f hw6 (by omega) (by omega) a fun y h7 S7 mt7 hS7 o7 fr7 hid7 => ?_
    obtain ⟨ya, yc, rfl⟩ := o7.form
    have lw7 := fr7.low
    have nx7 := fr7.next
    have hw7 := fr7.get hw6 hgp
    have hxp : ∀ id, idOf (.slice xa (nextL L a).length xc) id → id ≠ p := fun id e e2 => (hid6 id e).2 (by rw [e2]; exact mt6.self)
    have o67 := o6.fr fr7 hxp
    have hbl := backL_len f a
    have hnl := nextL_len f a
    (first | (simp (maxSteps := 1000000) (disch := first | omega | (simp only [AM.DB, List.length_set, List.length_map]; first | done | omega)) only [AM.RB, Nat.reduceAdd, Nat.reduceMul, Nat.reduceEqDiff, reduceCtorEq, b6_G25, AM.wrap_i64]) | skip); (repeat' ((first | refine AM.drawW_fine hp (by kernel_rfl) (by kernel_rfl) ?_ | refine AM.opW_tied (by kernel_rfl) ?_ | refine AM.opW_untied (by kernel_rfl) ?_ | refine AM.build_w ?_); simp (maxSteps := 1000000) (disch := first | omega | (simp only [AM.DB, List.length_set, List.length_map]; first | done | omega)) only [AM.RB, Nat.reduceAdd, Nat.reduceMul, Nat.reduceEqDiff, reduceCtorEq, b6_G25, AM.wrap_i64]))
    refine AM.loop_w hp 167 (fun i : Nat => [(2, .bool false), (3, .bool true), (4, pv p), (12, .int .i64 (inN L (a + 1))), (13, .int .i64 a), (14, .slice xa (nextL L a).length xc), (15, .int .i64 i)])
      (fun i h' => i ≤ (nextL L a).length ∧ h4.next ≤ h'.next ∧ h'.low = h.low ∧ h'.get GW = some (.cells waysC 89 false) ∧ Ow h' 3 1 (.slice xa (nextL L a).length xc) (nextL L a).length ((nextL L a).map (.int .i64)) ∧ ∃ S, Mt h' p L S) (fun i => (nextL L a).length - i) (by kernel_rfl) 0 ?_ ?_ ?_
    · simp (maxSteps := 1000000) (disch := first | omega | (simp only [AM.DB, List.length_set, List.length_map]; first | done | omega)) only [AM.RB, Nat.reduceAdd, Nat.reduceMul, Nat.reduceEqDiff, reduceCtorEq, b6_G25]
      rw [inN]; rfl
    · exact ⟨Nat.zero_le _, by omega, by omega, hw7, o67, _, mt7⟩
    rintro i h8 ρ ⟨hi, nx8, lw8, hw8, o8, S8, mt8⟩
    simp (maxSteps := 1000000) (disch := first | omega | (simp only [AM.DB, List.length_set, List.length_map]; first | done | omega)) only [AM.RB, Nat.reduceAdd, Nat.reduceMul, Nat.reduceEqDiff, reduceCtorEq, b6_G25]
    refine AM.condV_split (fun hli => ?_) (fun hli => ?_)
    · have hil : i < (nextL L a).length := by omega
      have he := nextL_at f a hil
      obtain ⟨b, hb⟩ : ∃ b, (nextL L a).getD i 0 = b := ⟨_, rfl⟩
      rw [hb] at he
      obtain ⟨hein, hfar, hfa, hfb⟩ := edgeL_facts he
      obtain ⟨kv8, tl8, m8⟩ := mt8.mp
      have r8 := o8.rd
      (first | (simp (maxSteps := 1000000) (disch := first | omega | (simp only [AM.DB, List.length_set, List.length_map]; first | done | omega)) only [AM.RB, Nat.reduceAdd, Nat.reduceMul, Nat.reduceEqDiff, reduceCtorEq, b6_G25, r8.ia el_29, Rd.ldi r8 lk_3, Int.toNat_natCast, hb]) | skip); (repeat' ((first | refine AM.drawW_fine hp (by kernel_rfl) (by kernel_rfl) ?_ | refine AM.opW_tied (by kernel_rfl) ?_ | refine AM.opW_untied (by kernel_rfl) ?_ | refine AM.build_w ?_); simp (maxSteps := 1000000) (disch := first | omega | (simp only [AM.DB, List.length_set, List.length_map]; first | done | omega)) only [AM.RB, Nat.reduceAdd, Nat.reduceMul, Nat.reduceEqDiff, reduceCtorEq, b6_G25, r8.ia el_29, Rd.ldi r8 lk_3, Int.toNat_natCast, hb]))
      refine far_w m8 f a b ?_
      rw [hfar]
      (first | (simp (maxSteps := 1000000) (disch := first | omega | (simp only [AM.DB, List.length_set, List.length_map]; first | done | omega)) only [AM.RB, Nat.reduceAdd, Nat.reduceMul, Nat.reduceEqDiff, reduceCtorEq, b6_G25, decide_eq_true (rfl : (1 : Int) = 1)]) | skip); (repeat' ((first | refine AM.drawW_fine hp (by kernel_rfl) (by kernel_rfl) ?_ | refine AM.opW_tied (by kernel_rfl) ?_ | refine AM.opW_untied (by kernel_rfl) ?_ | refine AM.build_w ?_); simp (maxSteps := 1000000) (disch := first | omega | (simp only [AM.DB, List.length_set, List.length_map]; first | done | omega)) only [AM.RB, Nat.reduceAdd, Nat.reduceMul, Nat.reduceEqDiff, reduceCtorEq, b6_G25, decide_eq_true (rfl : (1 : Int) = 1)]))
      refine free_w m8 f.rows a _ ?_
      rw [hfa]
      (first | (simp (maxSteps := 1000000) (disch := first | omega | (simp only [AM.DB, List.length_set, List.length_map]; first | done | omega)) only [AM.RB, Nat.reduceAdd, Nat.reduceMul, Nat.reduceEqDiff, reduceCtorEq, b6_G25]) | skip); (repeat' ((first | refine AM.drawW_fine hp (by kernel_rfl) (by kernel_rfl) ?_ | refine AM.opW_tied (by kernel_rfl) ?_ | refine AM.opW_untied (by kernel_rfl) ?_ | refine AM.build_w ?_); simp (maxSteps := 1000000) (disch := first | omega | (simp only [AM.DB, List.length_set, List.length_map]; first | done | omega)) only [AM.RB, Nat.reduceAdd, Nat.reduceMul, Nat.reduceEqDiff, reduceCtorEq, b6_G25]))
      refine free_w m8 f.rows b _ ?_
      rw [hfb]
      (first | (simp (maxSteps := 1000000) (disch := first | omega | (simp only [AM.DB, List.length_set, List.length_map]; first | done | omega)) only [AM.RB, Nat.reduceAdd, Nat.reduceMul, Nat.reduceEqDiff, reduceCtorEq, b6_G25]) | skip); (repeat' ((first | refine AM.drawW_fine hp (by kernel_rfl) (by kernel_rfl) ?_ | refine AM.opW_tied (by kernel_rfl) ?_ | refine AM.opW_untied (by kernel_rfl) ?_ | refine AM.build_w ?_); simp (maxSteps := 1000000) (disch := first | omega | (simp only [AM.DB, List.length_set, List.length_map]; first | done | omega)) only [AM.RB, Nat.reduceAdd, Nat.reduceMul, Nat.reduceEqDiff, reduceCtorEq, b6_G25]))
      refine edge_w mt8 f hw8 (by omega) (by omega) a b fun h9 S9 mt9 hS9 fr9 => ?_
      rw [edge_mem f, he]
      have lw9 := fr9.low
      have nx9 := fr9.next
      have hw9 := fr9.get hw8 hgp
      have o9 := o8.fr fr9 hxp
      have r9 := o9.rd
      obtain ⟨kv9, tl9, m9⟩ := mt9.mp
      have hbb := backL_len f b
      have hmem := backL_mem f he
      by_cases hi0 : (0 : Int) < i
      case' pos =>
        have hprev := nextL_asc f a (i := i - 1) (j := i) (by omega) hil
        rw [hb] at hprev
        have ti : ((i : Int) - 1).toNat = i - 1 := by omega
        (first | (simp (maxSteps := 1000000) (disch := first | omega | (simp only [AM.DB, List.length_set, List.length_map]; first | done | omega)) only [AM.RB, Nat.reduceAdd, Nat.reduceMul, Nat.reduceEqDiff, reduceCtorEq, b6_G25, decide_eq_true hi0, r9.ia el_29, Rd.ldi r9 lk_3, AM.wrap_i64, ti, decide_eq_false (show ¬ b ≤ (nextL L a).getD (i - 1) 0 by omega)]) | skip); (repeat' ((first | refine AM.drawW_fine hp (by kernel_rfl) (by kernel_rfl) ?_ | refine AM.opW_tied (by kernel_rfl) ?_ | refine AM.opW_untied (by kernel_rfl) ?_ | refine AM.build_w ?_); simp (maxSteps := 1000000) (disch := first | omega | (simp only [AM.DB, List.length_set, List.length_map]; first | done | omega)) only [AM.RB, Nat.reduceAdd, Nat.reduceMul, Nat.reduceEqDiff, reduceCtorEq, b6_G25, decide_eq_true hi0, r9.ia el_29, Rd.ldi r9 lk_3, AM.wrap_i64, ti, decide_eq_false (show ¬ b ≤ (nextL L a).getD (i - 1) 0 by omega)]))
      case' neg =>
        (first | (simp (maxSteps := 1000000) (disch := first | omega | (simp only [AM.DB, List.length_set, List.length_map]; first | done | omega)) only [AM.RB, Nat.reduceAdd, Nat.reduceMul, Nat.reduceEqDiff, reduceCtorEq, b6_G25, decide_eq_false hi0]) | skip); (repeat' ((first | refine AM.drawW_fine hp (by kernel_rfl) (by kernel_rfl) ?_ | refine AM.opW_tied (by kernel_rfl) ?_ | refine AM.opW_untied (by kernel_rfl) ?_ | refine AM.build_w ?_); simp (maxSteps := 1000000) (disch := first | omega | (simp only [AM.DB, List.length_set, List.length_map]; first | done | omega)) only [AM.RB, Nat.reduceAdd, Nat.reduceMul, Nat.reduceEqDiff, reduceCtorEq, b6_G25, decide_eq_false hi0]))
      all_goals (
        refine back_w mt9 f hw9 (by omega) (by omega) b fun y h10 S10 mt10 hS10 o10 fr10 hid10 => ?_
        obtain ⟨ya', yc', rfl⟩ := o10.form
        have lw10 := fr10.low
        have nx10 := fr10.next
        have hw10 := fr10.get hw9 hgp
        have o910 := o9.fr fr10 hxp
        have r10 := o10.rd
        have hlb : (backL L b).length ≤ 4000000 := by omega
        (first | (simp (maxSteps := 1000000) (disch := first | omega | (simp only [AM.DB, List.length_set, List.length_map]; first | done | omega)) only [AM.RB, Nat.reduceAdd, Nat.reduceMul, Nat.reduceEqDiff, reduceCtorEq, b6_G25]) | skip); (repeat' ((first | refine AM.drawW_fine hp (by kernel_rfl) (by kernel_rfl) ?_ | refine AM.opW_tied (by kernel_rfl) ?_ | refine AM.opW_untied (by kernel_rfl) ?_ | refine AM.build_w ?_); simp (maxSteps := 1000000) (disch := first | omega | (simp only [AM.DB, List.length_set, List.length_map]; first | done | omega)) only [AM.RB, Nat.reduceAdd, Nat.reduceMul, Nat.reduceEqDiff, reduceCtorEq, b6_G25]))
        refine AM.loop_w hp 167 (fun j : Nat => [(2, .bool false), (3, .bool true), (4, pv p), (12, .int .i64 (inN L (a + 1))), (13, .int .i64 a), (14, .slice xa (nextL L a).length xc), (15, .int .i64 i), (16, .int .i64 b), (17, .bool (decide ((a : Int) ∈ (backL L b).take j))), (18, .slice ya' (backL L b).length yc'), (19, .int .i64 j)])
          (fun j h' => h' = h10 ∧ j ≤ (backL L b).length) (fun j => (backL L b).length - j) (by kernel_rfl) 0 ?_ ?_ ?_
        · simp (maxSteps := 1000000) (disch := first | omega | (simp only [AM.DB, List.length_set, List.length_map]; first | done | omega)) only [AM.RB, Nat.reduceAdd, Nat.reduceMul, Nat.reduceEqDiff, reduceCtorEq, b6_G25]
          simp
        · exact ⟨rfl, Nat.zero_le _⟩
        rintro j h11 ρ ⟨rfl, hj⟩
        simp (maxSteps := 1000000) (disch := first | omega | (simp only [AM.DB, List.length_set, List.length_map]; first | done | omega)) only [AM.RB, Nat.reduceAdd, Nat.reduceMul, Nat.reduceEqDiff, reduceCtorEq, b6_G25]
        refine AM.condV_split (fun hlj => ?_) (fun hlj => ?_)
        · have hjl : j < (backL L b).length := by omega
          have hgj : (backL L b).getD j 0 = (backL L b)[j] := by simp [List.getD, hjl]
          have htk := mem_take_succ (backL L b) (a : Int) hjl
          cases hfr : decide ((a : Int) ∈ (backL L b).take j)
          · cases hk : decide ((backL L b).getD j 0 = (a : Int))
            · rw [hfr, hk] at htk
              (first | (simp (maxSteps := 1000000) (disch := first | omega | (simp only [AM.DB, List.length_set, List.length_map]; first | done | omega)) only [AM.RB, Nat.reduceAdd, Nat.reduceMul, Nat.reduceEqDiff, reduceCtorEq, b6_G25, hfr, r10.ia el_29, Rd.ldi r10 lk_3, Int.toNat_natCast, hk, AM.wrap_i64]) | skip); (repeat' ((first | refine AM.drawW_fine hp (by kernel_rfl) (by kernel_rfl) ?_ | refine AM.opW_tied (by kernel_rfl) ?_ | refine AM.opW_untied (by kernel_rfl) ?_ | refine AM.build_w ?_); simp (maxSteps := 1000000) (disch := first | omega | (simp only [AM.DB, List.length_set, List.length_map]; first | done | omega)) only [AM.RB, Nat.reduceAdd, Nat.reduceMul, Nat.reduceEqDiff, reduceCtorEq, b6_G25, hfr, r10.ia el_29, Rd.ldi r10 lk_3, Int.toNat_natCast, hk, AM.wrap_i64]))
              exact ⟨j + 1, by omega, ⟨by rw [htk]; rfl, congrArg _ (by omega)⟩, by omega⟩
            · rw [hfr, hk] at htk
              (first | (simp (maxSteps := 1000000) (disch := first | omega | (simp only [AM.DB, List.length_set, List.length_map]; first | done | omega)) only [AM.RB, Nat.reduceAdd, Nat.reduceMul, Nat.reduceEqDiff, reduceCtorEq, b6_G25, hfr, r10.ia el_29, Rd.ldi r10 lk_3, Int.toNat_natCast, hk, AM.wrap_i64]) | skip); (repeat' ((first | refine AM.drawW_fine hp (by kernel_rfl) (by kernel_rfl) ?_ | refine AM.opW_tied (by kernel_rfl) ?_ | refine AM.opW_untied (by kernel_rfl) ?_ | refine AM.build_w ?_); simp (maxSteps := 1000000) (disch := first | omega | (simp only [AM.DB, List.length_set, List.length_map]; first | done | omega)) only [AM.RB, Nat.reduceAdd, Nat.reduceMul, Nat.reduceEqDiff, reduceCtorEq, b6_G25, hfr, r10.ia el_29, Rd.ldi r10 lk_3, Int.toNat_natCast, hk, AM.wrap_i64]))
              exact ⟨j + 1, by omega, ⟨by rw [htk]; rfl, congrArg _ (by omega)⟩, by omega⟩
          · rw [hfr] at htk
            (first | (simp (maxSteps := 1000000) (disch := first | omega | (simp only [AM.DB, List.length_set, List.length_map]; first | done | omega)) only [AM.RB, Nat.reduceAdd, Nat.reduceMul, Nat.reduceEqDiff, reduceCtorEq, b6_G25, hfr, AM.wrap_i64]) | skip); (repeat' ((first | refine AM.drawW_fine hp (by kernel_rfl) (by kernel_rfl) ?_ | refine AM.opW_tied (by kernel_rfl) ?_ | refine AM.opW_untied (by kernel_rfl) ?_ | refine AM.build_w ?_); simp (maxSteps := 1000000) (disch := first | omega | (simp only [AM.DB, List.length_set, List.length_map]; first | done | omega)) only [AM.RB, Nat.reduceAdd, Nat.reduceMul, Nat.reduceEqDiff, reduceCtorEq, b6_G25, hfr, AM.wrap_i64]))
            exact ⟨j + 1, by omega, ⟨by rw [htk]; rfl, congrArg _ (by omega)⟩, by omega⟩
        · have ej : j = (backL L b).length := by omega
          have hft : decide ((a : Int) ∈ (backL L b).take j) = true := by rw [ej, List.take_length]; exact decide_eq_true hmem
          obtain ⟨kv10, tl10, m10⟩ := mt10.mp
          (first | (simp (maxSteps := 1000000) (disch := first | omega | (simp only [AM.DB, List.length_set, List.length_map]; first | done | omega)) only [AM.RB, Nat.reduceAdd, Nat.reduceMul, Nat.reduceEqDiff, reduceCtorEq, b6_G25, hft]) | skip); (repeat' ((first | refine AM.drawW_fine hp (by kernel_rfl) (by kernel_rfl) ?_ | refine AM.opW_tied (by kernel_rfl) ?_ | refine AM.opW_untied (by kernel_rfl) ?_ | refine AM.build_w ?_); simp (maxSteps := 1000000) (disch := first | omega | (simp only [AM.DB, List.length_set, List.length_map]; first | done | omega)) only [AM.RB, Nat.reduceAdd, Nat.reduceMul, Nat.reduceEqDiff, reduceCtorEq, b6_G25, hft]))
          refine kind_w m10 f.rows a _ ?_
          have fin : ∀ h' S', Mt h' p L S' → h11.next ≤ h'.next → h'.low = h11.low → h'.get GW = some (.cells waysC 89 false) → Ow h' 3 1 (.slice xa (nextL L a).length xc) (nextL L a).length ((nextL L a).map (.int .i64)) →
            h4.next ≤ h'.next ∧ h'.low = h.low ∧ h'.get GW = some (.cells waysC 89 false) ∧ Ow h' 3 1 (.slice xa (nextL L a).length xc) (nextL L a).length ((nextL L a).map (.int .i64)) ∧ ∃ S, Mt h' p L S := fun h' S' q1 q2 q3 q4 q5 => ⟨by omega, by omega, q4, q5, S', q1⟩
          cases hka : decide (((kindP L.flatten a).toNat : Int) = 46)
          · (first | (simp (maxSteps := 1000000) (disch := first | omega | (simp only [AM.DB, List.length_set, List.length_map]; first | done | omega)) only [AM.RB, Nat.reduceAdd, Nat.reduceMul, Nat.reduceEqDiff, reduceCtorEq, b6_G25, hka, AM.wrap_i64]) | skip); (repeat' ((first | refine AM.drawW_fine hp (by kernel_rfl) (by kernel_rfl) ?_ | refine AM.opW_tied (by kernel_rfl) ?_ | refine AM.opW_untied (by kernel_rfl) ?_ | refine AM.build_w ?_); simp (maxSteps := 1000000) (disch := first | omega | (simp only [AM.DB, List.length_set, List.length_map]; first | done | omega)) only [AM.RB, Nat.reduceAdd, Nat.reduceMul, Nat.reduceEqDiff, reduceCtorEq, b6_G25, hka, AM.wrap_i64]))
            exact ⟨i + 1, by omega, congrArg _ (by omega), by omega, fin _ _ mt10 (Nat.le_refl _) rfl hw10 o910⟩
          · (first | (simp (maxSteps := 1000000) (disch := first | omega | (simp only [AM.DB, List.length_set, List.length_map]; first | done | omega)) only [AM.RB, Nat.reduceAdd, Nat.reduceMul, Nat.reduceEqDiff, reduceCtorEq, b6_G25, hka]) | skip); (repeat' ((first | refine AM.drawW_fine hp (by kernel_rfl) (by kernel_rfl) ?_ | refine AM.opW_tied (by kernel_rfl) ?_ | refine AM.opW_untied (by kernel_rfl) ?_ | refine AM.build_w ?_); simp (maxSteps := 1000000) (disch := first | omega | (simp only [AM.DB, List.length_set, List.length_map]; first | done | omega)) only [AM.RB, Nat.reduceAdd, Nat.reduceMul, Nat.reduceEqDiff, reduceCtorEq, b6_G25, hka]))
            refine kind_w m10 f.rows b _ ?_
            cases hkb : decide (((kindP L.flatten b).toNat : Int) = 46)
            · (first | (simp (maxSteps := 1000000) (disch := first | omega | (simp only [AM.DB, List.length_set, List.length_map]; first | done | omega)) only [AM.RB, Nat.reduceAdd, Nat.reduceMul, Nat.reduceEqDiff, reduceCtorEq, b6_G25, hkb, AM.wrap_i64]) | skip); (repeat' ((first | refine AM.drawW_fine hp (by kernel_rfl) (by kernel_rfl) ?_ | refine AM.opW_tied (by kernel_rfl) ?_ | refine AM.opW_untied (by kernel_rfl) ?_ | refine AM.build_w ?_); simp (maxSteps := 1000000) (disch := first | omega | (simp only [AM.DB, List.length_set, List.length_map]; first | done | omega)) only [AM.RB, Nat.reduceAdd, Nat.reduceMul, Nat.reduceEqDiff, reduceCtorEq, b6_G25, hkb, AM.wrap_i64]))
              exact ⟨i + 1, by omega, congrArg _ (by omega), by omega, fin _ _ mt10 (Nat.le_refl _) rfl hw10 o910⟩
            · (first | (simp (maxSteps := 1000000) (disch := first | omega | (simp only [AM.DB, List.length_set, List.length_map]; first | done | omega)) only [AM.RB, Nat.reduceAdd, Nat.reduceMul, Nat.reduceEqDiff, reduceCtorEq, b6_G25, hkb]) | skip); (repeat' ((first | refine AM.drawW_fine hp (by kernel_rfl) (by kernel_rfl) ?_ | refine AM.opW_tied (by kernel_rfl) ?_ | refine AM.opW_untied (by kernel_rfl) ?_ | refine AM.build_w ?_); simp (maxSteps := 1000000) (disch := first | omega | (simp only [AM.DB, List.length_set, List.length_map]; first | done | omega)) only [AM.RB, Nat.reduceAdd, Nat.reduceMul, Nat.reduceEqDiff, reduceCtorEq, b6_G25, hkb]))
              refine edge_w mt10 f hw10 (by omega) (by omega) b a fun h12 S12 mt12 hS12 fr12 => ?_
              rw [edge_mem f, edgeL_both he (of_decide_eq_true hka) (of_decide_eq_true hkb)]
              (first | (simp (maxSteps := 1000000) (disch := first | omega | (simp only [AM.DB, List.length_set, List.length_map]; first | done | omega)) only [AM.RB, Nat.reduceAdd, Nat.reduceMul, Nat.reduceEqDiff, reduceCtorEq, b6_G25, AM.wrap_i64]) | skip); (repeat' ((first | refine AM.drawW_fine hp (by kernel_rfl) (by kernel_rfl) ?_ | refine AM.opW_tied (by kernel_rfl) ?_ | refine AM.opW_untied (by kernel_rfl) ?_ | refine AM.build_w ?_); simp (maxSteps := 1000000) (disch := first | omega | (simp only [AM.DB, List.length_set, List.length_map]; first | done | omega)) only [AM.RB, Nat.reduceAdd, Nat.reduceMul, Nat.reduceEqDiff, reduceCtorEq, b6_G25, AM.wrap_i64]))
              exact ⟨i + 1, by omega, congrArg _ (by omega), by omega, fin _ _ mt12 fr12.next fr12.low (fr12.get hw10 hgp) (o910.fr fr12 hxp)⟩)
    · have ei : i = (nextL L a).length := by omega
      (first | (simp (maxSteps := 1000000) (disch := first | omega | (simp only [AM.DB, List.length_set, List.length_map]; first | done | omega)) only [AM.RB, Nat.reduceAdd, Nat.reduceMul, Nat.reduceEqDiff, reduceCtorEq, b6_G25, AM.wrap_i64]) | skip); (repeat' ((first | refine AM.drawW_fine hp (by kernel_rfl) (by kernel_rfl) ?_ | refine AM.opW_tied (by kernel_rfl) ?_ | refine AM.opW_untied (by kernel_rfl) ?_ | refine AM.build_w ?_); simp (maxSteps := 1000000) (disch := first | omega | (simp only [AM.DB, List.length_set, List.length_map]; first | done | omega)) only [AM.RB, Nat.reduceAdd, Nat.reduceMul, Nat.reduceEqDiff, reduceCtorEq, b6_G25, AM.wrap_i64]))
      exact ⟨a + 1, by omega, ⟨rfl, congrArg _ (by omega)⟩, by omega, nx8, lw8, hw8, S8, mt8⟩
  · have ea : a = L.flatten.length := by omega
    subst ea
    rw [in_out f]
    (first | (simp (maxSteps := 1000000) (disch := first | omega | (simp only [AM.DB, List.length_set, List.length_map]; first | done | omega)) only [AM.RB, Nat.reduceAdd, Nat.reduceMul, Nat.reduceEqDiff, reduceCtorEq, b6_G25]) | skip); (repeat' ((first | refine AM.drawW_fine hp (by kernel_rfl) (by kernel_rfl) ?_ | refine AM.opW_tied (by kernel_rfl) ?_ | refine AM.opW_untied (by kernel_rfl) ?_ | refine AM.build_w ?_); simp (maxSteps := 1000000) (disch := first | omega | (simp only [AM.DB, List.length_set, List.length_map]; first | done | omega)) only [AM.RB, Nat.reduceAdd, Nat.reduceMul, Nat.reduceEqDiff, reduceCtorEq, b6_G25]))
    refine edges_w mt5 f hw5 (by omega) (by omega) fun h6 S6 mt6 hS6 fr6 => ?_
    (first | (simp (maxSteps := 1000000) (disch := first | omega | (simp only [AM.DB, List.length_set, List.length_map]; first | done | omega)) only [AM.RB, Nat.reduceAdd, Nat.reduceMul, Nat.reduceEqDiff, reduceCtorEq, b6_G25, decide_eq_true (rfl : (outN L L.flatten.length : Int) = outN L L.flatten.length)]) | skip); (repeat' ((first | refine AM.drawW_fine hp (by kernel_rfl) (by kernel_rfl) ?_ | refine AM.opW_tied (by kernel_rfl) ?_ | refine AM.opW_untied (by kernel_rfl) ?_ | refine AM.build_w ?_); simp (maxSteps := 1000000) (disch := first | omega | (simp only [AM.DB, List.length_set, List.length_map]; first | done | omega)) only [AM.RB, Nat.reduceAdd, Nat.reduceMul, Nat.reduceEqDiff, reduceCtorEq, b6_G25, decide_eq_true (rfl : (outN L L.flatten.length : Int) = outN L L.flatten.length)]))

end Go.Proofs.YtdimjemgganegaaDoor
