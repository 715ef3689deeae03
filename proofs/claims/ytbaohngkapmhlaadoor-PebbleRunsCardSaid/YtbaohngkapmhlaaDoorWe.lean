/- Walks of this claim's functions, and plain laws. -/
import Derived.Test.YtbaohngkapmhlaaDoorWd
import Derived.Test.YtbaohngkapmhlaaDoorAMOps7
import Derived.Test.YtbaohngkapmhlaaDoorAMIter3
set_option linter.unusedSimpArgs false
set_option linter.unusedVariables false
namespace Go.Proofs.YtbaohngkapmhlaaDoor
open Go.AM
set_option maxRecDepth 8000
theorem b86_PC7 : type_of% (And.intro (@AM.bin_add) (And.intro (@AM.bin_lss) (And.intro (@AM.bin_neq) (And.intro (@AM.iaO_ok) (And.intro (AM.ia_slice el_22) (And.intro (@AM.ldO_agg) (And.intro (@AM.ldO_one) (And.intro (@AM.ld_ptr) (And.intro (AM.len_slice ul_22) (And.intro (@lk_3) (And.intro (@AM.op_binOp) (And.intro (@AM.op_indexAddr) (And.intro (@AM.op_len) (@AM.op_load)))))))))))))) := And.intro (@AM.bin_add) (And.intro (@AM.bin_lss) (And.intro (@AM.bin_neq) (And.intro (@AM.iaO_ok) (And.intro (AM.ia_slice el_22) (And.intro (@AM.ldO_agg) (And.intro (@AM.ldO_one) (And.intro (@AM.ld_ptr) (And.intro (AM.len_slice ul_22) (And.intro (@lk_3) (And.intro (@AM.op_binOp) (And.intro (@AM.op_indexAddr) (And.intro (@AM.op_len) (@AM.op_load)))))))))))))
theorem b44_PC7 : type_of% (And.intro (@AM.boxK_agg) (And.intro (@AM.boxK_bool) (And.intro (@AM.boxK_func) (And.intro (@AM.boxK_int) (And.intro (@AM.boxK_map) (And.intro (@AM.boxK_pointer) (And.intro (@AM.boxK_slice) (And.intro (@AM.boxK_string) (And.intro (@AM.fa_ptr) (And.intro (@fd_59_0) (And.intro (@fd_59_1) (And.intro (@AM.ldO_agg) (And.intro (@AM.ldO_one) (And.intro (@AM.ld_ptr) (And.intro (@lk_22) (And.intro (@AM.op_box) (And.intro (@AM.op_call) (And.intro (@AM.op_fieldAddr) (@AM.op_load))))))))))))))))))) := And.intro (@AM.boxK_agg) (And.intro (@AM.boxK_bool) (And.intro (@AM.boxK_func) (And.intro (@AM.boxK_int) (And.intro (@AM.boxK_map) (And.intro (@AM.boxK_pointer) (And.intro (@AM.boxK_slice) (And.intro (@AM.boxK_string) (And.intro (@AM.fa_ptr) (And.intro (@fd_59_0) (And.intro (@fd_59_1) (And.intro (@AM.ldO_agg) (And.intro (@AM.ldO_one) (And.intro (@AM.ld_ptr) (And.intro (@lk_22) (And.intro (@AM.op_box) (And.intro (@AM.op_call) (And.intro (@AM.op_fieldAddr) (@AM.op_load))))))))))))))))))
theorem b45_PC7 : type_of% (And.intro (@AM.bin_add) (And.intro (@AM.bin_lss) (And.intro (@AM.bin_neq) (And.intro (@AM.boxK_agg) (And.intro (@AM.boxK_bool) (And.intro (@AM.boxK_func) (And.intro (@AM.boxK_int) (And.intro (@AM.boxK_map) (And.intro (@AM.boxK_pointer) (And.intro (@AM.boxK_slice) (And.intro (@AM.boxK_string) (And.intro (@AM.fa_ptr) (And.intro (@fd_59_0) (And.intro (@fd_59_1) (And.intro (@AM.iaO_ok) (And.intro (AM.ia_slice el_22) (And.intro (@AM.ldO_agg) (And.intro (@AM.ldO_one) (And.intro (@AM.ld_ptr) (And.intro (AM.len_slice ul_22) (And.intro (@lk_22) (And.intro (@lk_3) (And.intro (@AM.op_binOp) (And.intro (@AM.op_box) (And.intro (@AM.op_fieldAddr) (And.intro (@AM.op_indexAddr) (And.intro (@AM.op_len) (@AM.op_load)))))))))))))))))))))))))))) := And.intro (@AM.bin_add) (And.intro (@AM.bin_lss) (And.intro (@AM.bin_neq) (And.intro (@AM.boxK_agg) (And.intro (@AM.boxK_bool) (And.intro (@AM.boxK_func) (And.intro (@AM.boxK_int) (And.intro (@AM.boxK_map) (And.intro (@AM.boxK_pointer) (And.intro (@AM.boxK_slice) (And.intro (@AM.boxK_string) (And.intro (@AM.fa_ptr) (And.intro (@fd_59_0) (And.intro (@fd_59_1) (And.intro (@AM.iaO_ok) (And.intro (AM.ia_slice el_22) (And.intro (@AM.ldO_agg) (And.intro (@AM.ldO_one) (And.intro (@AM.ld_ptr) (And.intro (AM.len_slice ul_22) (And.intro (@lk_22) (And.intro (@lk_3) (And.intro (@AM.op_binOp) (And.intro (@AM.op_box) (And.intro (@AM.op_fieldAddr) (And.intro (@AM.op_indexAddr) (And.intro (@AM.op_len) (@AM.op_load)))))))))))))))))))))))))))


theorem take_next {l t : List Int} {i : Nat} (h1 : i < l.length) (h2 : i < t.length) (h : l.take i = t.take i) (e : l.getD i 0 = t.getD i 0) : l.take (i + 1) = t.take (i + 1) := by
  rw [List.take_add_one, List.take_add_one, h]
  simp only [List.getD, List.getElem?_eq_getElem h1, List.getElem?_eq_getElem h2, Option.getD_some] at e ⊢
  rw [e]
theorem take_all {l t : List Int} (h : l.length = t.length) (e : l.take l.length = t.take l.length) : l = t := by
  rw [List.take_length] at e
  rw [e, List.take_of_length_le (by omega)]
theorem equal_w {s t : Value} {l m : List Int} {h : AHeap} (hs : Rd h 3 1 s l.length (l.map (.int .i64))) (ht : Rd h 3 1 t m.length (m.map (.int .i64))) (hn : l.length ≤ 4000000000) {Q : VQ} (hq : Q (.bool (decide (l = m))) h) : W 86 [s, t] h Q := by
  obtain ⟨a, ac, rfl⟩ := hs.form
  obtain ⟨b, bc, rfl⟩ := ht.form
  refine AM.enter hp (fn := Tryd.f86) (rs := [.tmp 4]) (nt := 26) (by kernel_rfl) Tryd.func86 rfl rfl rfl (by kernel_rfl) ?_
  by_cases hnk : (l.length : Int) = m.length
  · have hnk' : l.length = m.length := by omega
    (repeat' (first | (simp (maxSteps := 1000000) (disch := first | omega | (simp only [AM.DB, List.length_set, List.length_map]; first | done | omega)) only [AM.RB, Nat.reduceAdd, Nat.reduceMul, Nat.reduceEqDiff, reduceCtorEq, b86_PC7, decide_eq_true hnk]) | refine AM.drawW_fine hp (by kernel_rfl) (by kernel_rfl) (by kernel_rfl) ?_ | refine AM.opW_tied (by kernel_rfl) ?_ | refine AM.opW_untied (by kernel_rfl) ?_))
    refine AM.loop_w hp 26 (fun i : Nat => [(0, .slice a l.length ac), (1, .slice b m.length bc), (12, .int .i64 l.length), (13, .int .i64 i)]) (fun i h' => h' = h ∧ i ≤ l.length ∧ l.take i = m.take i) (fun i => l.length - i) (by kernel_rfl) 0 ?_ ?_ ?_
    · simp (maxSteps := 1000000) (disch := first | omega | (simp only [AM.DB, List.length_set, List.length_map]; first | done | omega)) only [AM.RB, Nat.reduceAdd, Nat.reduceMul, Nat.reduceEqDiff, reduceCtorEq, b86_PC7]
      first | rfl | skip
    · exact ⟨rfl, Nat.zero_le _, rfl⟩
    rintro i h1 ρ ⟨rfl, hi, htk⟩
    simp (maxSteps := 1000000) (disch := first | omega | (simp only [AM.DB, List.length_set, List.length_map]; first | done | omega)) only [AM.RB, Nat.reduceAdd, Nat.reduceMul, Nat.reduceEqDiff, reduceCtorEq, b86_PC7]
    refine AM.condV_split (fun hlt => ?_) (fun hlt => ?_)
    · have hil : i < l.length := by omega
      have him : i < m.length := by omega
      by_cases e : l.getD i 0 = m.getD i 0
      · (repeat' (first | (simp (maxSteps := 1000000) (disch := first | omega | (simp only [AM.DB, List.length_set, List.length_map]; first | done | omega)) only [AM.RB, Nat.reduceAdd, Nat.reduceMul, Nat.reduceEqDiff, reduceCtorEq, b86_PC7, hs.ia el_22, ht.ia el_22, Rd.ldi hs lk_3, Rd.ldi ht lk_3, Int.toNat_natCast, decide_eq_true e, AM.wrap_i64]) | refine AM.drawW_fine hp (by kernel_rfl) (by kernel_rfl) (by kernel_rfl) ?_ | refine AM.opW_tied (by kernel_rfl) ?_ | refine AM.opW_untied (by kernel_rfl) ?_))
        exact ⟨i + 1, by omega, congrArg _ (by omega), by omega, take_next hil him htk e⟩
      · (repeat' (first | (simp (maxSteps := 1000000) (disch := first | omega | (simp only [AM.DB, List.length_set, List.length_map]; first | done | omega)) only [AM.RB, Nat.reduceAdd, Nat.reduceMul, Nat.reduceEqDiff, reduceCtorEq, b86_PC7, hs.ia el_22, ht.ia el_22, Rd.ldi hs lk_3, Rd.ldi ht lk_3, Int.toNat_natCast, decide_eq_false e]) | refine AM.drawW_fine hp (by kernel_rfl) (by kernel_rfl) (by kernel_rfl) ?_ | refine AM.opW_tied (by kernel_rfl) ?_ | refine AM.opW_untied (by kernel_rfl) ?_))
        rw [decide_eq_false (fun q => e (by rw [q]))] at hq
        exact hq
    · obtain rfl : i = l.length := by omega
      rw [decide_eq_true (take_all hnk' htk)] at hq
      (repeat' (first | (simp (maxSteps := 1000000) (disch := first | omega | (simp only [AM.DB, List.length_set, List.length_map]; first | done | omega)) only [AM.RB, Nat.reduceAdd, Nat.reduceMul, Nat.reduceEqDiff, reduceCtorEq, b86_PC7]) | refine AM.drawW_fine hp (by kernel_rfl) (by kernel_rfl) (by kernel_rfl) ?_ | refine AM.opW_tied (by kernel_rfl) ?_ | refine AM.opW_untied (by kernel_rfl) ?_))
      exact hq
  · (repeat' (first | (simp (maxSteps := 1000000) (disch := first | omega | (simp only [AM.DB, List.length_set, List.length_map]; first | done | omega)) only [AM.RB, Nat.reduceAdd, Nat.reduceMul, Nat.reduceEqDiff, reduceCtorEq, b86_PC7, decide_eq_false hnk]) | refine AM.drawW_fine hp (by kernel_rfl) (by kernel_rfl) (by kernel_rfl) ?_ | refine AM.opW_tied (by kernel_rfl) ?_ | refine AM.opW_untied (by kernel_rfl) ?_))
    rw [decide_eq_false (fun q => hnk (by rw [q]))] at hq
    exact hq
theorem prod_dec (a b : St) : decide (a = b) = (decide (a.1 = b.1) && decide (a.2 = b.2)) := by
  rw [← Bool.decide_and]
  exact decide_eq_decide.2 ⟨fun e => ⟨congrArg _ e, congrArg _ e⟩, fun e => Prod.ext e.1 e.2⟩
theorem psame_w {va vb : Value} {a b : St} {h : AHeap} (ha : StR h va a) (hb : StR h vb b) (h1 : a.1.length ≤ 4000000) (h2 : a.2.length ≤ 4000000) {Q : VQ} (hq : ∀ h', Fr none' h h' → Q (.bool (decide (a = b))) h') : W 44 [va, vb] h Q := by
  obtain ⟨a1, a2, rfl, ra1, ra2⟩ := ha
  obtain ⟨a1a, a1c, rfl⟩ := ra1.form
  obtain ⟨a2a, a2c, rfl⟩ := ra2.form
  obtain ⟨b1, b2, rfl, rb1, rb2⟩ := hb
  obtain ⟨b1a, b1c, rfl⟩ := rb1.form
  obtain ⟨b2a, b2c, rfl⟩ := rb2.form
  rw [prod_dec] at hq
  refine AM.enter hp (fn := Tryd.f44) (rs := [.tmp 4]) (nt := 17) (by kernel_rfl) Tryd.func44 rfl rfl rfl (by kernel_rfl) ?_
  simp (maxSteps := 1000000) (disch := first | omega | (simp only [AM.DB, List.length_set, List.length_map]; first | done | omega)) only [AM.RB, Nat.reduceAdd, Nat.reduceMul, Nat.reduceEqDiff, reduceCtorEq, b44_PC7]
  generalize hE_ : AHeap.alloc h _ = h1; obtain ⟨g1, fr1, n1, l1⟩ := AM.new_get hE_; clear hE_
  generalize hE_ : AHeap.alloc h1 _ = h2; obtain ⟨g2, fr2, n2, l2⟩ := AM.new_get hE_; clear hE_
  rw [n1] at g2
  have g12 := g1.fr0 fr2
  have fr02 := fr1.trans fr2
  have q1 := ra1.fr0 fr02
  have q2 := ra2.fr0 fr02
  have q3 := rb1.fr0 fr02
  have q4 := rb2.fr0 fr02
  (first | (simp (maxSteps := 1000000) (disch := first | omega | (simp only [AM.DB, List.length_set, List.length_map]; first | done | omega)) only [AM.RB, Nat.reduceAdd, Nat.reduceMul, Nat.reduceEqDiff, reduceCtorEq, b44_PC7, g12, g2]) | skip)
  refine equal_w q1 q3 (by omega) ?_
  cases e1 : decide (a.1 = b.1) <;> rw [e1] at hq
  · (first | (simp (maxSteps := 1000000) (disch := first | omega | (simp only [AM.DB, List.length_set, List.length_map]; first | done | omega)) only [AM.RB, Nat.reduceAdd, Nat.reduceMul, Nat.reduceEqDiff, reduceCtorEq, b44_PC7]) | skip)
    exact hq _ fr02
  · (first | (simp (maxSteps := 1000000) (disch := first | omega | (simp only [AM.DB, List.length_set, List.length_map]; first | done | omega)) only [AM.RB, Nat.reduceAdd, Nat.reduceMul, Nat.reduceEqDiff, reduceCtorEq, b44_PC7, g12, g2]) | skip)
    refine equal_w q2 q4 (by omega) ?_
    (first | (simp (maxSteps := 1000000) (disch := first | omega | (simp only [AM.DB, List.length_set, List.length_map]; first | done | omega)) only [AM.RB, Nat.reduceAdd, Nat.reduceMul, Nat.reduceEqDiff, reduceCtorEq, b44_PC7]) | skip)
    rw [Bool.true_and] at hq
    exact hq _ fr02
set_option maxHeartbeats 4000000 in
theorem refSame_w {va vb : Value} {a b : St} {h : AHeap} (ha : StR h va a) (hb : StR h vb b) (h1 : a.1.length ≤ 4000000) (h2 : a.2.length ≤ 4000000) {Q : VQ} (hq : ∀ h', Fr none' h h' → Q (.bool (decide (a = b))) h') : W 45 [va, vb] h Q := by
  obtain ⟨a1, a2, rfl, ra1, ra2⟩ := ha
  obtain ⟨a1a, a1c, rfl⟩ := ra1.form
  obtain ⟨a2a, a2c, rfl⟩ := ra2.form
  obtain ⟨b1, b2, rfl, rb1, rb2⟩ := hb
  obtain ⟨b1a, b1c, rfl⟩ := rb1.form
  obtain ⟨b2a, b2c, rfl⟩ := rb2.form
  rw [prod_dec] at hq
  refine AM.enter hp (fn := Tryd.f45) (rs := [.tmp 4]) (nt := 59) (by kernel_rfl) Tryd.func45 rfl rfl rfl (by kernel_rfl) ?_
  simp (maxSteps := 1000000) (disch := first | omega | (simp only [AM.DB, List.length_set, List.length_map]; first | done | omega)) only [AM.RB, Nat.reduceAdd, Nat.reduceMul, Nat.reduceEqDiff, reduceCtorEq, b45_PC7]
  generalize hE_ : AHeap.alloc h _ = h1; obtain ⟨g1, fr1, n1, l1⟩ := AM.new_get hE_; clear hE_
  generalize hE_ : AHeap.alloc h1 _ = h2; obtain ⟨g2, fr2, n2, l2⟩ := AM.new_get hE_; clear hE_
  rw [n1] at g2
  have g12 := g1.fr0 fr2
  have fr02 := fr1.trans fr2
  have q1 := ra1.fr0 fr02
  have q2 := ra2.fr0 fr02
  have q3 := rb1.fr0 fr02
  have q4 := rb2.fr0 fr02
  by_cases c1 : (a.1.length : Int) = b.1.length
  case neg =>
    rw [decide_eq_false (show ¬ a.1 = b.1 from fun e => c1 (by rw [e]))] at hq
    (repeat' (first | (simp (maxSteps := 1000000) (disch := first | omega | (simp only [AM.DB, List.length_set, List.length_map]; first | done | omega)) only [AM.RB, Nat.reduceAdd, Nat.reduceMul, Nat.reduceEqDiff, reduceCtorEq, b45_PC7, g12, g2, decide_eq_false c1]) | refine AM.drawW_fine hp (by kernel_rfl) (by kernel_rfl) (by kernel_rfl) ?_ | refine AM.opW_tied (by kernel_rfl) ?_ | refine AM.opW_untied (by kernel_rfl) ?_))
    exact hq _ fr02
  by_cases c2 : (a.2.length : Int) = b.2.length
  case neg =>
    rw [decide_eq_false (show ¬ a.2 = b.2 from fun e => c2 (by rw [e])), Bool.and_false] at hq
    (repeat' (first | (simp (maxSteps := 1000000) (disch := first | omega | (simp only [AM.DB, List.length_set, List.length_map]; first | done | omega)) only [AM.RB, Nat.reduceAdd, Nat.reduceMul, Nat.reduceEqDiff, reduceCtorEq, b45_PC7, g12, g2, decide_eq_true c1, decide_eq_false c2]) | refine AM.drawW_fine hp (by kernel_rfl) (by kernel_rfl) (by kernel_rfl) ?_ | refine AM.opW_tied (by kernel_rfl) ?_ | refine AM.opW_untied (by kernel_rfl) ?_))
    exact hq _ fr02
  have c1' : a.1.length = b.1.length := by omega
  have c2' : a.2.length = b.2.length := by omega
  (repeat' (first | (simp (maxSteps := 1000000) (disch := first | omega | (simp only [AM.DB, List.length_set, List.length_map]; first | done | omega)) only [AM.RB, Nat.reduceAdd, Nat.reduceMul, Nat.reduceEqDiff, reduceCtorEq, b45_PC7, g12, g2, decide_eq_true c1, decide_eq_true c2]) | refine AM.drawW_fine hp (by kernel_rfl) (by kernel_rfl) (by kernel_rfl) ?_ | refine AM.opW_tied (by kernel_rfl) ?_ | refine AM.opW_untied (by kernel_rfl) ?_))
  refine AM.loop_w hp 59 (fun i : Nat => [(2, pv h.next), (3, pv (h.next + 1)), (5, .int .i64 i)]) (fun i h' => h' = h2 ∧ i ≤ a.1.length ∧ a.1.take i = b.1.take i) (fun i => a.1.length - i) (by kernel_rfl) 0 ?_ ?_ ?_
  · simp (maxSteps := 1000000) (disch := first | omega | (simp only [AM.DB, List.length_set, List.length_map]; first | done | omega)) only [AM.RB, Nat.reduceAdd, Nat.reduceMul, Nat.reduceEqDiff, reduceCtorEq, b45_PC7]
    first | rfl | skip
  · exact ⟨rfl, Nat.zero_le _, rfl⟩
  rintro i h3 ρ ⟨rfl, hi, htk⟩
  simp (maxSteps := 1000000) (disch := first | omega | (simp only [AM.DB, List.length_set, List.length_map]; first | done | omega)) only [AM.RB, Nat.reduceAdd, Nat.reduceMul, Nat.reduceEqDiff, reduceCtorEq, b45_PC7, g12]
  refine AM.condV_split (fun hlt => ?_) (fun hlt => ?_)
  · have hil : i < a.1.length := by omega
    have him : i < b.1.length := by omega
    by_cases e : a.1.getD i 0 = b.1.getD i 0
    · (repeat' (first | (simp (maxSteps := 1000000) (disch := first | omega | (simp only [AM.DB, List.length_set, List.length_map]; first | done | omega)) only [AM.RB, Nat.reduceAdd, Nat.reduceMul, Nat.reduceEqDiff, reduceCtorEq, b45_PC7, g12, g2, q1.ia el_22, q3.ia el_22, Rd.ldi q1 lk_3, Rd.ldi q3 lk_3, Int.toNat_natCast, decide_eq_true e, AM.wrap_i64]) | refine AM.drawW_fine hp (by kernel_rfl) (by kernel_rfl) (by kernel_rfl) ?_ | refine AM.opW_tied (by kernel_rfl) ?_ | refine AM.opW_untied (by kernel_rfl) ?_))
      exact ⟨i + 1, by omega, congrArg _ (by omega), by omega, take_next hil him htk e⟩
    · rw [decide_eq_false (show ¬ a.1 = b.1 from fun q => e (by rw [q]))] at hq
      (repeat' (first | (simp (maxSteps := 1000000) (disch := first | omega | (simp only [AM.DB, List.length_set, List.length_map]; first | done | omega)) only [AM.RB, Nat.reduceAdd, Nat.reduceMul, Nat.reduceEqDiff, reduceCtorEq, b45_PC7, g12, g2, q1.ia el_22, q3.ia el_22, Rd.ldi q1 lk_3, Rd.ldi q3 lk_3, Int.toNat_natCast, decide_eq_false e]) | refine AM.drawW_fine hp (by kernel_rfl) (by kernel_rfl) (by kernel_rfl) ?_ | refine AM.opW_tied (by kernel_rfl) ?_ | refine AM.opW_untied (by kernel_rfl) ?_))
      exact hq _ fr02
  obtain rfl : i = a.1.length := by omega
  rw [decide_eq_true (take_all c1' htk), Bool.true_and] at hq
  (repeat' (first | (simp (maxSteps := 1000000) (disch := first | omega | (simp only [AM.DB, List.length_set, List.length_map]; first | done | omega)) only [AM.RB, Nat.reduceAdd, Nat.reduceMul, Nat.reduceEqDiff, reduceCtorEq, b45_PC7]) | refine AM.drawW_fine hp (by kernel_rfl) (by kernel_rfl) (by kernel_rfl) ?_ | refine AM.opW_tied (by kernel_rfl) ?_ | refine AM.opW_untied (by kernel_rfl) ?_))
  refine AM.loop_w hp 59 (fun i : Nat => [(2, pv h.next), (3, pv (h.next + 1)), (6, .int .i64 i)]) (fun i h' => h' = h3 ∧ i ≤ a.2.length ∧ a.2.take i = b.2.take i) (fun i => a.2.length - i) (by kernel_rfl) 0 ?_ ?_ ?_
  · simp (maxSteps := 1000000) (disch := first | omega | (simp only [AM.DB, List.length_set, List.length_map]; first | done | omega)) only [AM.RB, Nat.reduceAdd, Nat.reduceMul, Nat.reduceEqDiff, reduceCtorEq, b45_PC7]
    first | rfl | skip
  · exact ⟨rfl, Nat.zero_le _, rfl⟩
  rintro i h4 ρ ⟨rfl, hi, htk⟩
  simp (maxSteps := 1000000) (disch := first | omega | (simp only [AM.DB, List.length_set, List.length_map]; first | done | omega)) only [AM.RB, Nat.reduceAdd, Nat.reduceMul, Nat.reduceEqDiff, reduceCtorEq, b45_PC7, g12]
  refine AM.condV_split (fun hlt => ?_) (fun hlt => ?_)
  · have hil : i < a.2.length := by omega
    have him : i < b.2.length := by omega
    by_cases e : a.2.getD i 0 = b.2.getD i 0
    · (repeat' (first | (simp (maxSteps := 1000000) (disch := first | omega | (simp only [AM.DB, List.length_set, List.length_map]; first | done | omega)) only [AM.RB, Nat.reduceAdd, Nat.reduceMul, Nat.reduceEqDiff, reduceCtorEq, b45_PC7, g12, g2, q2.ia el_22, q4.ia el_22, Rd.ldi q2 lk_3, Rd.ldi q4 lk_3, Int.toNat_natCast, decide_eq_true e, AM.wrap_i64]) | refine AM.drawW_fine hp (by kernel_rfl) (by kernel_rfl) (by kernel_rfl) ?_ | refine AM.opW_tied (by kernel_rfl) ?_ | refine AM.opW_untied (by kernel_rfl) ?_))
      exact ⟨i + 1, by omega, congrArg _ (by omega), by omega, take_next hil him htk e⟩
    · rw [decide_eq_false (show ¬ a.2 = b.2 from fun q => e (by rw [q]))] at hq
      (repeat' (first | (simp (maxSteps := 1000000) (disch := first | omega | (simp only [AM.DB, List.length_set, List.length_map]; first | done | omega)) only [AM.RB, Nat.reduceAdd, Nat.reduceMul, Nat.reduceEqDiff, reduceCtorEq, b45_PC7, g12, g2, q2.ia el_22, q4.ia el_22, Rd.ldi q2 lk_3, Rd.ldi q4 lk_3, Int.toNat_natCast, decide_eq_false e]) | refine AM.drawW_fine hp (by kernel_rfl) (by kernel_rfl) (by kernel_rfl) ?_ | refine AM.opW_tied (by kernel_rfl) ?_ | refine AM.opW_untied (by kernel_rfl) ?_))
      exact hq _ fr02
  obtain rfl : i = a.2.length := by omega
  rw [decide_eq_true (take_all c2' htk)] at hq
  (repeat' (first | (simp (maxSteps := 1000000) (disch := first | omega | (simp only [AM.DB, List.length_set, List.length_map]; first | done | omega)) only [AM.RB, Nat.reduceAdd, Nat.reduceMul, Nat.reduceEqDiff, reduceCtorEq, b45_PC7]) | refine AM.drawW_fine hp (by kernel_rfl) (by kernel_rfl) (by kernel_rfl) ?_ | refine AM.opW_tied (by kernel_rfl) ?_ | refine AM.opW_untied (by kernel_rfl) ?_))
  exact hq _ fr02

end Go.Proofs.YtbaohngkapmhlaaDoor

namespace Go.Proofs.YtbaohngkapmhlaaDoor
open Go.AM

/-! ### All steps: as the document has them -/
end Go.Proofs.YtbaohngkapmhlaaDoor

namespace Go.Proofs.YtbaohngkapmhlaaDoor
open Go.AM
set_option maxRecDepth 8000
theorem b49_PC8 : type_of% (And.intro (@AM.alK_some) (And.intro (@al_59) (And.intro (@AM.bdV_some) (And.intro (@bd_59) (And.intro (@AM.bin_eql) (And.intro (@AM.bin_geq) (And.intro (@AM.bin_lss) (And.intro (@AM.bin_neq) (And.intro (@AM.boxK_agg) (And.intro (@AM.boxK_bool) (And.intro (@AM.boxK_func) (And.intro (@AM.boxK_int) (And.intro (@AM.boxK_map) (And.intro (@AM.boxK_pointer) (And.intro (@AM.boxK_slice) (And.intro (@AM.boxK_string) (And.intro (@AM.fa_ptr) (And.intro (@fd_59_0) (And.intro (@fd_59_1) (And.intro (@fd_65_0) (And.intro (@fd_65_1) (And.intro (@fd_65_2) (And.intro (@AM.fillL_cons) (And.intro (@AM.fillL_nil) (And.intro (@AM.fillS_agg) (And.intro (@AM.fillS_bool) (And.intro (@AM.fillS_func) (And.intro (@AM.fillS_int) (And.intro (@AM.fillS_map) (And.intro (@AM.fillS_pointer) (And.intro (@AM.fillS_slice) (And.intro (@AM.fillS_string) (And.intro (@AM.iaO_ok) (And.intro (AM.ia_slice el_22) (And.intro (@AM.ldO_agg) (And.intro (@AM.ldO_one) (And.intro (@AM.ld_ptr) (And.intro (AM.len_slice ul_22) (And.intro (@lk_22) (And.intro (@lk_3) (And.intro (@lk_59) (And.intro (@AM.op_alloc) (And.intro (@AM.op_append) (And.intro (@AM.op_binOp) (And.intro (@AM.op_box) (And.intro (@AM.op_build) (And.intro (@AM.op_call) (And.intro (@AM.op_fieldAddr) (And.intro (@AM.op_indexAddr) (And.intro (@AM.op_len) (And.intro (@AM.op_load) (And.intro (@AM.op_store) (And.intro (@AM.op_unOp) (And.intro (@AM.resL_two) (And.intro (@AM.res_cell) (And.intro (@AM.stO_agg) (And.intro (@AM.stO_bool) (And.intro (@AM.stO_int) (And.intro (@AM.stO_map) (And.intro (@AM.stO_pointer) (And.intro (@AM.stO_slice) (And.intro (@AM.stO_string) (And.intro (@AM.st_ptr) (And.intro (@sz_22) (And.intro (@sz_3) (And.intro (@sz_59) (And.intro (@AM.un_neg) (@AM.un_not)))))))))))))))))))))))))))))))))))))))))))))))))))))))))))))))))))) := And.intro (@AM.alK_some) (And.intro (@al_59) (And.intro (@AM.bdV_some) (And.intro (@bd_59) (And.intro (@AM.bin_eql) (And.intro (@AM.bin_geq) (And.intro (@AM.bin_lss) (And.intro (@AM.bin_neq) (And.intro (@AM.boxK_agg) (And.intro (@AM.boxK_bool) (And.intro (@AM.boxK_func) (And.intro (@AM.boxK_int) (And.intro (@AM.boxK_map) (And.intro (@AM.boxK_pointer) (And.intro (@AM.boxK_slice) (And.intro (@AM.boxK_string) (And.intro (@AM.fa_ptr) (And.intro (@fd_59_0) (And.intro (@fd_59_1) (And.intro (@fd_65_0) (And.intro (@fd_65_1) (And.intro (@fd_65_2) (And.intro (@AM.fillL_cons) (And.intro (@AM.fillL_nil) (And.intro (@AM.fillS_agg) (And.intro (@AM.fillS_bool) (And.intro (@AM.fillS_func) (And.intro (@AM.fillS_int) (And.intro (@AM.fillS_map) (And.intro (@AM.fillS_pointer) (And.intro (@AM.fillS_slice) (And.intro (@AM.fillS_string) (And.intro (@AM.iaO_ok) (And.intro (AM.ia_slice el_22) (And.intro (@AM.ldO_agg) (And.intro (@AM.ldO_one) (And.intro (@AM.ld_ptr) (And.intro (AM.len_slice ul_22) (And.intro (@lk_22) (And.intro (@lk_3) (And.intro (@lk_59) (And.intro (@AM.op_alloc) (And.intro (@AM.op_append) (And.intro (@AM.op_binOp) (And.intro (@AM.op_box) (And.intro (@AM.op_build) (And.intro (@AM.op_call) (And.intro (@AM.op_fieldAddr) (And.intro (@AM.op_indexAddr) (And.intro (@AM.op_len) (And.intro (@AM.op_load) (And.intro (@AM.op_store) (And.intro (@AM.op_unOp) (And.intro (@AM.resL_two) (And.intro (@AM.res_cell) (And.intro (@AM.stO_agg) (And.intro (@AM.stO_bool) (And.intro (@AM.stO_int) (And.intro (@AM.stO_map) (And.intro (@AM.stO_pointer) (And.intro (@AM.stO_slice) (And.intro (@AM.stO_string) (And.intro (@AM.st_ptr) (And.intro (@sz_22) (And.intro (@sz_3) (And.intro (@sz_59) (And.intro (@AM.un_neg) (@AM.un_not)))))))))))))))))))))))))))))))))))))))))))))))))))))))))))))))))))


/-- A state of the run's own: two slices apart. -/
def StO (n : Nat) (h : AHeap) (v : Value) (s : St) : Prop := ∃ a b, v = .agg #[a, b] ∧ Ow h 3 1 a s.1.length (s.1.map (.int .i64)) ∧ Ow h 3 1 b s.2.length (s.2.map (.int .i64)) ∧ (∀ id, idOf a id ∨ idOf b id → n ≤ id) ∧ ∀ id, idOf a id → ¬ idOf b id
theorem StO.rd {n : Nat} {h : AHeap} {v : Value} {s : St} (x : StO n h v s) : StR h v s := by
  obtain ⟨a, b, e, oa, ob, _⟩ := x
  exact ⟨a, b, e, oa.rd, ob.rd⟩
theorem StO.fr0 {n : Nat} {h h' : AHeap} {v : Value} {s : St} (x : StO n h v s) (fr : Fr none' h h') : StO n h' v s := by
  obtain ⟨a, b, e, oa, ob, q⟩ := x
  exact ⟨a, b, e, oa.fr0 fr, ob.fr0 fr, q⟩
theorem StO.fr {n : Nat} {h h' : AHeap} {v : Value} {s : St} {T : Nat → Prop} (x : StO n h v s) (fr : Fr T h h') (hT : ∀ id, n ≤ id → ¬ T id) : StO n h' v s := by
  obtain ⟨a, b, e, oa, ob, hid, q⟩ := x
  exact ⟨a, b, e, oa.fr fr (fun id k => hT id (hid id (.inl k))), ob.fr fr (fun id k => hT id (hid id (.inr k))), hid, q⟩
theorem StO.weak {n n' : Nat} {h : AHeap} {v : Value} {s : St} (x : StO n h v s) (hn : n' ≤ n) : StO n' h v s := by
  obtain ⟨a, b, e, oa, ob, hid, q⟩ := x
  exact ⟨a, b, e, oa, ob, fun id k => Nat.le_trans hn (hid id k), q⟩
theorem map_set' (l : List Int) (i : Nat) (v : Int) : (l.map (Value.int .i64)).set i (.int .i64 v) = (l.set i v).map (.int .i64) := by rw [List.map_set]
set_option maxHeartbeats 8000000 in
theorem refDo_w {h : AHeap} {p : Nat} {lv : Value} {L : List (List UInt8)} {l : List UInt8} {v : Value} {s : St} (r : Rp h p lv L) (G : Good l L) (hs : StR h v s) (hl : h.low ≤ h.next) (hn1 : s.1.length ≤ 4000000) (hn2 : s.2.length ≤ 4000000) (x : Sp) {Q : VQ}
    (hq : ∀ a1 m1 c1 a2 m2 c2 h', Fr none' h h' → ((chk L.flatten s && may L s x) = true → StO h.next h' (.agg #[.slice a1 m1 c1, .slice a2 m2 c2]) (turnS s x)) → Q (.tuple #[.agg #[.slice a1 m1 c1, .slice a2 m2 c2], .bool (chk L.flatten s && may L s x)]) h') : W 49 [pv p, v, spV x] h Q := by
  obtain ⟨k, t, c⟩ := x
  obtain ⟨a, b, rfl, ra, rb⟩ := hs
  obtain ⟨aa, ac, rfl⟩ := ra.form
  obtain ⟨ba, bc, rfl⟩ := rb.form
  have hbd : L.length ≤ 4000000 ∧ (L.getD 0 []).length ≤ 4000000 := by have := G.fit.r32; have := G.fit.c32; omega
  refine AM.enter hp (fn := Tryd.f49) (rs := [.cell 6 59, .tmp 7]) (nt := 143) (by kernel_rfl) Tryd.func49 rfl rfl rfl (by kernel_rfl) ?_
  simp (maxSteps := 1000000) (disch := first | omega | (simp only [AM.DB, List.length_set, List.length_map]; first | done | omega)) only [AM.RB, Nat.reduceAdd, Nat.reduceMul, Nat.reduceEqDiff, reduceCtorEq, b49_PC8]
  generalize hE_ : AHeap.alloc h _ = h1; obtain ⟨g1, fr1, n1, l1⟩ := AM.new_get hE_; clear hE_
  generalize hE_ : AHeap.alloc h1 _ = h2; obtain ⟨g2, fr2, n2, l2⟩ := AM.new_get hE_; clear hE_
  rw [n1] at g2
  generalize hE_ : AHeap.alloc h2 _ = h3; obtain ⟨g3, fr3, n3, l3⟩ := AM.new_get hE_; clear hE_
  rw [n2, n1] at g3
  have g13 := (g1.fr0 fr2).fr0 fr3
  have g23 := g2.fr0 fr3
  have fr03 := (fr1.trans fr2).trans fr3
  have nx3 := fr03.next
  have lw3 := fr03.low
  (repeat' (first | (simp (maxSteps := 1000000) (disch := first | omega | (simp only [AM.DB, List.length_set, List.length_map]; first | done | omega)) only [AM.RB, Nat.reduceAdd, Nat.reduceMul, Nat.reduceEqDiff, reduceCtorEq, b49_PC8, g13]) | refine AM.drawW_loose (id := 8) hp (by kernel_rfl) (by kernel_rfl) ?_ | refine AM.drawW_loose (id := 15) hp (by kernel_rfl) (by kernel_rfl) ?_ | refine AM.drawW_loose (id := 18) hp (by kernel_rfl) (by kernel_rfl) ?_ | refine AM.drawW_fine (id := 20) hp (by kernel_rfl) (by kernel_rfl) (by kernel_rfl) ?_ | refine AM.drawW_fine (id := 22) hp (by kernel_rfl) (by kernel_rfl) (by kernel_rfl) ?_ | refine AM.opW_tied (by kernel_rfl) ?_ | refine AM.opW_untied (by kernel_rfl) ?_ | refine AM.build_w ?_))
  refine refCheck_w (r.fr0 fr03) G ⟨_, _, rfl, ra.fr0 fr03, rb.fr0 fr03⟩ (by omega) fun h4 fr4 => ?_
  have fr04 := fr03.trans fr4
  have g14 := g13.fr0 fr4
  have g24 := g23.fr0 fr4
  have g34 := g3.fr0 fr4
  have nx4 := fr4.next
  have lw4 := fr4.low
  cases hc : chk L.flatten s
  · rw [hc, Bool.false_and] at hq
    (repeat' (first | (simp (maxSteps := 1000000) (disch := first | omega | (simp only [AM.DB, List.length_set, List.length_map]; first | done | omega)) only [AM.RB, Nat.reduceAdd, Nat.reduceMul, Nat.reduceEqDiff, reduceCtorEq, b49_PC8, g34]) | refine AM.drawW_loose (id := 8) hp (by kernel_rfl) (by kernel_rfl) ?_ | refine AM.drawW_loose (id := 15) hp (by kernel_rfl) (by kernel_rfl) ?_ | refine AM.drawW_loose (id := 18) hp (by kernel_rfl) (by kernel_rfl) ?_ | refine AM.drawW_fine (id := 20) hp (by kernel_rfl) (by kernel_rfl) (by kernel_rfl) ?_ | refine AM.drawW_fine (id := 22) hp (by kernel_rfl) (by kernel_rfl) (by kernel_rfl) ?_ | refine AM.opW_tied (by kernel_rfl) ?_ | refine AM.opW_untied (by kernel_rfl) ?_ | refine AM.build_w ?_))
    generalize hE_ : AHeap.put h4 _ _ = h5; obtain ⟨g5, fr5, n5, l5⟩ := AM.put_get hE_ (by omega); clear hE_
    (repeat' (first | (simp (maxSteps := 1000000) (disch := first | omega | (simp only [AM.DB, List.length_set, List.length_map]; first | done | omega)) only [AM.RB, Nat.reduceAdd, Nat.reduceMul, Nat.reduceEqDiff, reduceCtorEq, b49_PC8, g5]) | refine AM.drawW_loose (id := 8) hp (by kernel_rfl) (by kernel_rfl) ?_ | refine AM.drawW_loose (id := 15) hp (by kernel_rfl) (by kernel_rfl) ?_ | refine AM.drawW_loose (id := 18) hp (by kernel_rfl) (by kernel_rfl) ?_ | refine AM.drawW_fine (id := 20) hp (by kernel_rfl) (by kernel_rfl) (by kernel_rfl) ?_ | refine AM.drawW_fine (id := 22) hp (by kernel_rfl) (by kernel_rfl) (by kernel_rfl) ?_ | refine AM.opW_tied (by kernel_rfl) ?_ | refine AM.opW_untied (by kernel_rfl) ?_ | refine AM.build_w ?_))
    exact hq _ _ _ _ _ _ _ (Fr.fresh fr04 fr5 (fun id e => by have e : id = h.next + 1 + 1 := e; omega)) (fun e => by cases e)
  rw [hc, Bool.true_and] at hq
  have ch := (chk_iff _ _).1 hc
  have ra4 := ra.fr0 fr04
  have rb4 := rb.fr0 fr04
  (repeat' (first | (simp (maxSteps := 1000000) (disch := first | omega | (simp only [AM.DB, List.length_set, List.length_map]; first | done | omega)) only [AM.RB, Nat.reduceAdd, Nat.reduceMul, Nat.reduceEqDiff, reduceCtorEq, b49_PC8, g14]) | refine AM.drawW_loose (id := 8) hp (by kernel_rfl) (by kernel_rfl) ?_ | refine AM.drawW_loose (id := 15) hp (by kernel_rfl) (by kernel_rfl) ?_ | refine AM.drawW_loose (id := 18) hp (by kernel_rfl) (by kernel_rfl) ?_ | refine AM.drawW_fine (id := 20) hp (by kernel_rfl) (by kernel_rfl) (by kernel_rfl) ?_ | refine AM.drawW_fine (id := 22) hp (by kernel_rfl) (by kernel_rfl) (by kernel_rfl) ?_ | refine AM.opW_tied (by kernel_rfl) ?_ | refine AM.opW_untied (by kernel_rfl) ?_ | refine AM.build_w ?_))
  generalize hE_ : AHeap.put (AHeap.alloc h4 _) _ _ = h5; obtain ⟨g5, fr5, n5, l5⟩ := AM.box_get hE_ (by omega); clear hE_
  have ra5 := ra4.fr0 fr5
  have hx_1 := g14.fr0 fr5
  (repeat' (first | (simp (maxSteps := 1000000) (disch := first | omega | (simp only [AM.DB, List.length_set, List.length_map]; first | done | omega)) only [AM.RB, Nat.reduceAdd, Nat.reduceMul, Nat.reduceEqDiff, reduceCtorEq, b49_PC8, g5, hx_1]) | refine AM.drawW_loose (id := 8) hp (by kernel_rfl) (by kernel_rfl) ?_ | refine AM.drawW_loose (id := 15) hp (by kernel_rfl) (by kernel_rfl) ?_ | refine AM.drawW_loose (id := 18) hp (by kernel_rfl) (by kernel_rfl) ?_ | refine AM.drawW_fine (id := 20) hp (by kernel_rfl) (by kernel_rfl) (by kernel_rfl) ?_ | refine AM.drawW_fine (id := 22) hp (by kernel_rfl) (by kernel_rfl) (by kernel_rfl) ?_ | refine AM.opW_tied (by kernel_rfl) ?_ | refine AM.opW_untied (by kernel_rfl) ?_ | refine AM.build_w ?_))
  refine AM.appends_w ap_22 ap_22 (AM.Ow.nil _ _ _) ra5 (AM.ints_one _ _) (by omega) (AM.fits (by omega) (by omega)) (AM.fits' (by omega)) fun v6 h6 o6 fr6' hid6 => ?_
  rw [Nat.zero_add, List.nil_append] at o6
  have fr6 : Fr none' h5 h6 := fr6'.mono fun _ _ q => q
  have nx6 := fr6.next
  have lw6 := fr6.low
  obtain ⟨va, vc, rfl⟩ := o6.form
  have fr46 := fr5.trans fr6
  have hx_2 := g5.fr0 fr6
  have hx_3 := g14.fr0 fr46
  (repeat' (first | (simp (maxSteps := 1000000) (disch := first | omega | (simp only [AM.DB, List.length_set, List.length_map]; first | done | omega)) only [AM.RB, Nat.reduceAdd, Nat.reduceMul, Nat.reduceEqDiff, reduceCtorEq, b49_PC8, hx_2, hx_3]) | refine AM.drawW_loose (id := 8) hp (by kernel_rfl) (by kernel_rfl) ?_ | refine AM.drawW_loose (id := 15) hp (by kernel_rfl) (by kernel_rfl) ?_ | refine AM.drawW_loose (id := 18) hp (by kernel_rfl) (by kernel_rfl) ?_ | refine AM.drawW_fine (id := 20) hp (by kernel_rfl) (by kernel_rfl) (by kernel_rfl) ?_ | refine AM.drawW_fine (id := 22) hp (by kernel_rfl) (by kernel_rfl) (by kernel_rfl) ?_ | refine AM.opW_tied (by kernel_rfl) ?_ | refine AM.opW_untied (by kernel_rfl) ?_ | refine AM.build_w ?_))
  generalize hE_ : AHeap.put h6 _ _ = h7; obtain ⟨g7, fr7, n7, l7⟩ := AM.put_get hE_ (by omega); clear hE_
  have fr67 : Fr (fun id => id = h4.next) h4 h7 := ((fr5.trans fr6).mono fun _ _ q => q.elim).trans fr7
  have fr07 : Fr none' h h7 := Fr.fresh fr04 fr67 (fun id e => by have e : id = h4.next := e; omega)
  have fr47 : Fr none' h4 h7 := Fr.fresh (fr5.trans fr6) fr7 (fun id e => by have e : id = h4.next := e; omega)
  have o7 := o6.fr fr7 (fun id q e => by have e : id = h4.next := e; have := hid6 id q; rcases this with q | q; exact q.elim; omega)
  have rb7 := rb4.fr0 fr47
  have g17 := g14.fr0 fr47
  (repeat' (first | (simp (maxSteps := 1000000) (disch := first | omega | (simp only [AM.DB, List.length_set, List.length_map]; first | done | omega)) only [AM.RB, Nat.reduceAdd, Nat.reduceMul, Nat.reduceEqDiff, reduceCtorEq, b49_PC8, g7, g17]) | refine AM.drawW_loose (id := 8) hp (by kernel_rfl) (by kernel_rfl) ?_ | refine AM.drawW_loose (id := 15) hp (by kernel_rfl) (by kernel_rfl) ?_ | refine AM.drawW_loose (id := 18) hp (by kernel_rfl) (by kernel_rfl) ?_ | refine AM.drawW_fine (id := 20) hp (by kernel_rfl) (by kernel_rfl) (by kernel_rfl) ?_ | refine AM.drawW_fine (id := 22) hp (by kernel_rfl) (by kernel_rfl) (by kernel_rfl) ?_ | refine AM.opW_tied (by kernel_rfl) ?_ | refine AM.opW_untied (by kernel_rfl) ?_ | refine AM.build_w ?_))
  refine AM.appends_w ap_22 ap_22 (AM.Ow.nil _ _ _) rb7 (AM.ints_one _ _) (by omega) (AM.fits (by omega) (by omega)) (AM.fits' (by omega)) fun w8 h8 o8 fr8' hid8 => ?_
  rw [Nat.zero_add, List.nil_append] at o8
  have fr8 : Fr none' h7 h8 := fr8'.mono fun _ _ q => q
  have nx8 := fr8.next
  have lw8 := fr8.low
  obtain ⟨wa, wc, rfl⟩ := o8.form
  have fr48 := fr47.trans fr8
  have hx_4 := g7.fr0 fr8
  have hx_5 := g24.fr0 fr48
  (repeat' (first | (simp (maxSteps := 1000000) (disch := first | omega | (simp only [AM.DB, List.length_set, List.length_map]; first | done | omega)) only [AM.RB, Nat.reduceAdd, Nat.reduceMul, Nat.reduceEqDiff, reduceCtorEq, b49_PC8, hx_4, hx_5]) | refine AM.drawW_loose (id := 8) hp (by kernel_rfl) (by kernel_rfl) ?_ | refine AM.drawW_loose (id := 15) hp (by kernel_rfl) (by kernel_rfl) ?_ | refine AM.drawW_loose (id := 18) hp (by kernel_rfl) (by kernel_rfl) ?_ | refine AM.drawW_fine (id := 20) hp (by kernel_rfl) (by kernel_rfl) (by kernel_rfl) ?_ | refine AM.drawW_fine (id := 22) hp (by kernel_rfl) (by kernel_rfl) (by kernel_rfl) ?_ | refine AM.opW_tied (by kernel_rfl) ?_ | refine AM.opW_untied (by kernel_rfl) ?_ | refine AM.build_w ?_))
  generalize hE_ : AHeap.put h8 _ _ = h9; obtain ⟨g9, fr9, n9, l9⟩ := AM.put_get hE_ (by omega); clear hE_
  have hv9 : ∀ id, idOf (.slice va s.1.length vc) id → h4.next + 1 ≤ id ∧ id < h7.next := fun id q => by
    have h1 := hid6 id q
    have h2 := o6.lt q
    rcases h1 with h1 | h1
    · exact h1.elim
    · omega
  have hw9 : ∀ id, idOf (.slice wa s.2.length wc) id → h7.next ≤ id := fun id q => by
    rcases hid8 id q with h1 | h1
    · exact h1.elim
    · exact h1
  have o1 := (o7.fr0 fr8).fr fr9 (fun id q e => by have e : id = h4.next := e; have := hv9 id q; omega)
  have o2 := o8.fr fr9 (fun id q e => by have e : id = h4.next := e; have := hw9 id q; omega)
  have fr49 : Fr none' h4 h9 := Fr.fresh (fr47.trans fr8) fr9 (fun id e => by have e : id = h4.next := e; omega)
  have fr09 := fr04.trans fr49
  have nx9 := fr49.next
  have lw9 := fr49.low
  have r9 := r.fr0 fr09
  have ra9 := ra.fr0 fr09
  have rb9 := rb.fr0 fr09
  have g19 := g14.fr0 fr49
  have g29 := g24.fr0 fr49
  have g39 := g34.fr0 fr49
  clear fr1 fr2 fr3 fr4 fr5 fr6 fr6' fr7 fr8 fr8' fr9 fr67 fr07 fr47 fr03 g1 g2 g3 g13 g23 g14 g24 g34 g17 g5 g7 o6 o7 o8 ra5 ra4 rb4 rb7 hid6 hid8
  have lt4 : h4.next < h9.next := AM.get_some_lt g9
  have bad : ∀ {Q : VQ} {h' : AHeap}, may L s (k, t, c) = false → (∀ a1 m1 c1 a2 m2 c2 h', Fr none' h h' → (may L s (k, t, c) = true → StO h.next h' (.agg #[.slice a1 m1 c1, .slice a2 m2 c2]) (turnS s (k, t, c))) → Q (.tuple #[.agg #[.slice a1 m1 c1, .slice a2 m2 c2], .bool (may L s (k, t, c))]) h') → Fr none' h h' → ∀ a1 m1 c1 a2 m2 c2, Q (.tuple #[.agg #[.slice a1 m1 c1, .slice a2 m2 c2], .bool false]) h' := fun e hq fr a1 m1 c1 a2 m2 c2 => by
    rw [e] at hq
    exact hq _ _ _ _ _ _ _ fr (fun e => by cases e)
  by_cases k0 : k = 0
  · subst k0
    have e : may L s (0, t, c) = (decide (t = 0) && decide (c = 0)) := by unfold may; rw [if_pos rfl]
    rw [e] at hq
    have et : turnS s (0, t, c) = s := by unfold turnS; rw [if_neg (show ¬ (0 : Int) = 1 by decide), if_neg (show ¬ (0 : Int) = 2 by decide), if_neg (show ¬ (0 : Int) = 3 by decide)]
    rw [et] at hq
    have fin : ∀ h', Fr (fun id => id = h.next + 1 + 1) h9 h' → Fr none' h h' ∧ StO h.next h' (.agg #[.slice va s.1.length vc, .slice wa s.2.length wc]) s := fun h' fr => by
      refine ⟨Fr.fresh fr09 fr (fun id e => by have e : id = h.next + 1 + 1 := e; omega), _, _, rfl, o1.fr fr (fun id q e => by have e : id = h.next + 1 + 1 := e; have := hv9 id q; omega), o2.fr fr (fun id q e => by have e : id = h.next + 1 + 1 := e; have := hw9 id q; omega), fun id q => ?_, fun id q1 q2 => ?_⟩
      · rcases q with q | q
        · have := hv9 id q; omega
        · have := hw9 id q; omega
      · have := hv9 id q1; have := hw9 id q2; omega
    cases t0 : decide (t = 0) <;> cases c0 : decide (c = 0) <;> rw [t0, c0] at hq
    all_goals (
      (repeat' (first | (simp (maxSteps := 1000000) (disch := first | omega | (simp only [AM.DB, List.length_set, List.length_map]; first | done | omega)) only [AM.RB, Nat.reduceAdd, Nat.reduceMul, Nat.reduceEqDiff, reduceCtorEq, b49_PC8, g9, g19, g29, g39, t0, c0]) | refine AM.drawW_loose (id := 8) hp (by kernel_rfl) (by kernel_rfl) ?_ | refine AM.drawW_loose (id := 15) hp (by kernel_rfl) (by kernel_rfl) ?_ | refine AM.drawW_loose (id := 18) hp (by kernel_rfl) (by kernel_rfl) ?_ | refine AM.drawW_fine (id := 20) hp (by kernel_rfl) (by kernel_rfl) (by kernel_rfl) ?_ | refine AM.drawW_fine (id := 22) hp (by kernel_rfl) (by kernel_rfl) (by kernel_rfl) ?_ | refine AM.opW_tied (by kernel_rfl) ?_ | refine AM.opW_untied (by kernel_rfl) ?_ | refine AM.build_w ?_))
      generalize hE_ : AHeap.put h9 _ _ = h10; obtain ⟨g10, fr10, n10, l10⟩ := AM.put_get hE_ (by omega); clear hE_
      have g2a := fr10.get g29 (show ¬ h.next + 1 = h.next + 1 + 1 by omega)
      refine ⟨AM.looseOk_by [(6, [0, 10])] (by kernel_rfl) ?_, ?_⟩
      · simp (maxSteps := 1000000) (disch := first | omega | (simp only [AM.DB, List.length_set, List.length_map]; first | done | omega)) only [AM.RB, Nat.reduceAdd, Nat.reduceMul, Nat.reduceEqDiff, reduceCtorEq, b49_PC8]
        all_goals ((repeat' apply And.intro) <;> (first | (refine AM.stable_len _ _ _ _ _ _ (fun _ => ?_); (simp (maxSteps := 1000000) (disch := first | omega | (simp only [AM.DB, List.length_set, List.length_map]; first | done | omega)) only [AM.RB, Nat.reduceAdd, Nat.reduceMul, Nat.reduceEqDiff, reduceCtorEq, b49_PC8, g29, g2a])) | (refine AM.stable_load _ _ _ _ _ _ ?_; (first | (simp (maxSteps := 1000000) (disch := first | omega | (simp only [AM.DB, List.length_set, List.length_map]; first | done | omega)) only [AM.RB, Nat.reduceAdd, Nat.reduceMul, Nat.reduceEqDiff, reduceCtorEq, b49_PC8, g29, g2a]) | skip); (first | (refine AM.stabL_int (by omega) ?_; (simp (maxSteps := 1000000) (disch := first | omega | (simp only [AM.DB, List.length_set, List.length_map]; first | done | omega)) only [AM.RB, Nat.reduceAdd, Nat.reduceMul, Nat.reduceEqDiff, reduceCtorEq, b49_PC8, g29, g2a])) | (refine AM.stabL_ptr (by omega) (by omega) ?_; (simp (maxSteps := 1000000) (disch := first | omega | (simp only [AM.DB, List.length_set, List.length_map]; first | done | omega)) only [AM.RB, Nat.reduceAdd, Nat.reduceMul, Nat.reduceEqDiff, reduceCtorEq, b49_PC8, g29, g2a])) | (refine AM.stabL_string (by omega) ?_; (simp (maxSteps := 1000000) (disch := first | omega | (simp only [AM.DB, List.length_set, List.length_map]; first | done | omega)) only [AM.RB, Nat.reduceAdd, Nat.reduceMul, Nat.reduceEqDiff, reduceCtorEq, b49_PC8, g29, g2a])) | (refine AM.stabL_bool (by omega) ?_; (simp (maxSteps := 1000000) (disch := first | omega | (simp only [AM.DB, List.length_set, List.length_map]; first | done | omega)) only [AM.RB, Nat.reduceAdd, Nat.reduceMul, Nat.reduceEqDiff, reduceCtorEq, b49_PC8, g29, g2a]))))))
      (repeat' (first | (simp (maxSteps := 1000000) (disch := first | omega | (simp only [AM.DB, List.length_set, List.length_map]; first | done | omega)) only [AM.RB, Nat.reduceAdd, Nat.reduceMul, Nat.reduceEqDiff, reduceCtorEq, b49_PC8, g10]) | refine AM.drawW_loose (id := 8) hp (by kernel_rfl) (by kernel_rfl) ?_ | refine AM.drawW_loose (id := 15) hp (by kernel_rfl) (by kernel_rfl) ?_ | refine AM.drawW_loose (id := 18) hp (by kernel_rfl) (by kernel_rfl) ?_ | refine AM.drawW_fine (id := 20) hp (by kernel_rfl) (by kernel_rfl) (by kernel_rfl) ?_ | refine AM.drawW_fine (id := 22) hp (by kernel_rfl) (by kernel_rfl) (by kernel_rfl) ?_ | refine AM.opW_tied (by kernel_rfl) ?_ | refine AM.opW_untied (by kernel_rfl) ?_ | refine AM.build_w ?_))
      exact hq _ _ _ _ _ _ _ (fin _ fr10).1 (fun _ => (fin _ fr10).2))
  have dk0 : decide (k = 0) = false := decide_eq_false k0
  (repeat' (first | (simp (maxSteps := 1000000) (disch := first | omega | (simp only [AM.DB, List.length_set, List.length_map]; first | done | omega)) only [AM.RB, Nat.reduceAdd, Nat.reduceMul, Nat.reduceEqDiff, reduceCtorEq, b49_PC8, dk0, g29]) | refine AM.drawW_loose (id := 8) hp (by kernel_rfl) (by kernel_rfl) ?_ | refine AM.drawW_loose (id := 15) hp (by kernel_rfl) (by kernel_rfl) ?_ | refine AM.drawW_loose (id := 18) hp (by kernel_rfl) (by kernel_rfl) ?_ | refine AM.drawW_fine (id := 20) hp (by kernel_rfl) (by kernel_rfl) (by kernel_rfl) ?_ | refine AM.drawW_fine (id := 22) hp (by kernel_rfl) (by kernel_rfl) (by kernel_rfl) ?_ | refine AM.opW_tied (by kernel_rfl) ?_ | refine AM.opW_untied (by kernel_rfl) ?_ | refine AM.build_w ?_))
  refine refFree_w r9 G.rows hbd G.all c ?_
  rw [G.free]
  have badE : ∀ h', may L s (k, t, c) = false → Fr (fun id => id = h.next + 1 + 1) h9 h' → Q (.tuple #[.agg #[.slice none 0 0, .slice none 0 0], .bool false]) h' := fun h' e fr => bad e hq (Fr.fresh fr09 fr (fun id e => by have e : id = h.next + 1 + 1 := e; omega)) _ _ _ _ _ _
  by_cases t0 : t < 0
  · have e : may L s (k, t, c) = false := by unfold may; rw [if_neg k0, decide_eq_false (show ¬ 0 ≤ t by omega)]; rfl
    (repeat' (first | (simp (maxSteps := 1000000) (disch := first | omega | (simp only [AM.DB, List.length_set, List.length_map]; first | done | omega)) only [AM.RB, Nat.reduceAdd, Nat.reduceMul, Nat.reduceEqDiff, reduceCtorEq, b49_PC8, g29, g39, decide_eq_true t0]) | refine AM.drawW_loose (id := 8) hp (by kernel_rfl) (by kernel_rfl) ?_ | refine AM.drawW_loose (id := 15) hp (by kernel_rfl) (by kernel_rfl) ?_ | refine AM.drawW_loose (id := 18) hp (by kernel_rfl) (by kernel_rfl) ?_ | refine AM.drawW_fine (id := 20) hp (by kernel_rfl) (by kernel_rfl) (by kernel_rfl) ?_ | refine AM.drawW_fine (id := 22) hp (by kernel_rfl) (by kernel_rfl) (by kernel_rfl) ?_ | refine AM.opW_tied (by kernel_rfl) ?_ | refine AM.opW_untied (by kernel_rfl) ?_ | refine AM.build_w ?_))
    generalize hE_ : AHeap.put h9 _ _ = h10; obtain ⟨g10, fr10, n10, l10⟩ := AM.put_get hE_ (by omega); clear hE_
    (repeat' (first | (simp (maxSteps := 1000000) (disch := first | omega | (simp only [AM.DB, List.length_set, List.length_map]; first | done | omega)) only [AM.RB, Nat.reduceAdd, Nat.reduceMul, Nat.reduceEqDiff, reduceCtorEq, b49_PC8, g10]) | refine AM.drawW_loose (id := 8) hp (by kernel_rfl) (by kernel_rfl) ?_ | refine AM.drawW_loose (id := 15) hp (by kernel_rfl) (by kernel_rfl) ?_ | refine AM.drawW_loose (id := 18) hp (by kernel_rfl) (by kernel_rfl) ?_ | refine AM.drawW_fine (id := 20) hp (by kernel_rfl) (by kernel_rfl) (by kernel_rfl) ?_ | refine AM.drawW_fine (id := 22) hp (by kernel_rfl) (by kernel_rfl) (by kernel_rfl) ?_ | refine AM.opW_tied (by kernel_rfl) ?_ | refine AM.opW_untied (by kernel_rfl) ?_ | refine AM.build_w ?_))
    exact badE _ e fr10
  by_cases t1 : (s.1.length : Int) ≤ t
  · have e : may L s (k, t, c) = false := by unfold may; rw [if_neg k0, decide_eq_false (show ¬ t < s.1.length by omega), Bool.and_false]; rfl
    (repeat' (first | (simp (maxSteps := 1000000) (disch := first | omega | (simp only [AM.DB, List.length_set, List.length_map]; first | done | omega)) only [AM.RB, Nat.reduceAdd, Nat.reduceMul, Nat.reduceEqDiff, reduceCtorEq, b49_PC8, g19, g29, g39, decide_eq_false t0, decide_eq_true t1]) | refine AM.drawW_loose (id := 8) hp (by kernel_rfl) (by kernel_rfl) ?_ | refine AM.drawW_loose (id := 15) hp (by kernel_rfl) (by kernel_rfl) ?_ | refine AM.drawW_loose (id := 18) hp (by kernel_rfl) (by kernel_rfl) ?_ | refine AM.drawW_fine (id := 20) hp (by kernel_rfl) (by kernel_rfl) (by kernel_rfl) ?_ | refine AM.drawW_fine (id := 22) hp (by kernel_rfl) (by kernel_rfl) (by kernel_rfl) ?_ | refine AM.opW_tied (by kernel_rfl) ?_ | refine AM.opW_untied (by kernel_rfl) ?_ | refine AM.build_w ?_))
    generalize hE_ : AHeap.put h9 _ _ = h10; obtain ⟨g10, fr10, n10, l10⟩ := AM.put_get hE_ (by omega); clear hE_
    (repeat' (first | (simp (maxSteps := 1000000) (disch := first | omega | (simp only [AM.DB, List.length_set, List.length_map]; first | done | omega)) only [AM.RB, Nat.reduceAdd, Nat.reduceMul, Nat.reduceEqDiff, reduceCtorEq, b49_PC8, g10]) | refine AM.drawW_loose (id := 8) hp (by kernel_rfl) (by kernel_rfl) ?_ | refine AM.drawW_loose (id := 15) hp (by kernel_rfl) (by kernel_rfl) ?_ | refine AM.drawW_loose (id := 18) hp (by kernel_rfl) (by kernel_rfl) ?_ | refine AM.drawW_fine (id := 20) hp (by kernel_rfl) (by kernel_rfl) (by kernel_rfl) ?_ | refine AM.drawW_fine (id := 22) hp (by kernel_rfl) (by kernel_rfl) (by kernel_rfl) ?_ | refine AM.opW_tied (by kernel_rfl) ?_ | refine AM.opW_untied (by kernel_rfl) ?_ | refine AM.build_w ?_))
    exact badE _ e fr10
  cases fc : freeP L.flatten c
  · have e : may L s (k, t, c) = false := by unfold may; rw [if_neg k0, fc, Bool.and_false]; rfl
    (repeat' (first | (simp (maxSteps := 1000000) (disch := first | omega | (simp only [AM.DB, List.length_set, List.length_map]; first | done | omega)) only [AM.RB, Nat.reduceAdd, Nat.reduceMul, Nat.reduceEqDiff, reduceCtorEq, b49_PC8, g19, g29, g39, decide_eq_false t0, decide_eq_false t1]) | refine AM.drawW_loose (id := 8) hp (by kernel_rfl) (by kernel_rfl) ?_ | refine AM.drawW_loose (id := 15) hp (by kernel_rfl) (by kernel_rfl) ?_ | refine AM.drawW_loose (id := 18) hp (by kernel_rfl) (by kernel_rfl) ?_ | refine AM.drawW_fine (id := 20) hp (by kernel_rfl) (by kernel_rfl) (by kernel_rfl) ?_ | refine AM.drawW_fine (id := 22) hp (by kernel_rfl) (by kernel_rfl) (by kernel_rfl) ?_ | refine AM.opW_tied (by kernel_rfl) ?_ | refine AM.opW_untied (by kernel_rfl) ?_ | refine AM.build_w ?_))
    generalize hE_ : AHeap.put h9 _ _ = h10; obtain ⟨g10, fr10, n10, l10⟩ := AM.put_get hE_ (by omega); clear hE_
    (repeat' (first | (simp (maxSteps := 1000000) (disch := first | omega | (simp only [AM.DB, List.length_set, List.length_map]; first | done | omega)) only [AM.RB, Nat.reduceAdd, Nat.reduceMul, Nat.reduceEqDiff, reduceCtorEq, b49_PC8, g10]) | refine AM.drawW_loose (id := 8) hp (by kernel_rfl) (by kernel_rfl) ?_ | refine AM.drawW_loose (id := 15) hp (by kernel_rfl) (by kernel_rfl) ?_ | refine AM.drawW_loose (id := 18) hp (by kernel_rfl) (by kernel_rfl) ?_ | refine AM.drawW_fine (id := 20) hp (by kernel_rfl) (by kernel_rfl) (by kernel_rfl) ?_ | refine AM.drawW_fine (id := 22) hp (by kernel_rfl) (by kernel_rfl) (by kernel_rfl) ?_ | refine AM.opW_tied (by kernel_rfl) ?_ | refine AM.opW_untied (by kernel_rfl) ?_ | refine AM.build_w ?_))
    exact badE _ e fr10
  obtain ⟨c1, c2⟩ := freeP_in fc
  obtain ⟨c, rfl⟩ := Int.eq_ofNat_of_zero_le c1
  obtain ⟨t, rfl⟩ := Int.eq_ofNat_of_zero_le (show 0 ≤ t by omega)
  have hln := ch.ln
  have hcl : c < s.2.length := by omega
  have htl : t < s.1.length := by omega
  obtain ⟨at_, hat⟩ : ∃ y, s.1.getD t 0 = y := ⟨_, rfl⟩
  obtain ⟨ho, hho⟩ : ∃ y, s.2.getD c 0 = y := ⟨_, rfl⟩
  have e : may L s (k, t, c) = (if k = 1 then decide (ho = -1) else if k = 2 then decide (ho = t) && !decide (at_ = c) else if k = 3 then decide (ho = t) && edgeL L at_ c else false) := by
    have dr0 : decide (0 ≤ (t : Int)) = true := decide_eq_true (by omega)
    have dr1 : decide ((t : Int) < (s.1.length : Int)) = true := decide_eq_true (by omega)
    unfold may
    simp only [Int.toNat_natCast]
    rw [if_neg k0, fc, dr0, dr1]
    simp only [hat, hho, Bool.and_self, Bool.true_and]
  rw [e] at hq
  have fin : ∀ h' u, Fr (fun id => idOf (.slice va s.1.length vc) id ∨ idOf (.slice wa s.2.length wc) id ∨ id = h.next + 1 + 1) h9 h' → Ow h' 3 1 (.slice va s.1.length vc) s.1.length (u.1.map (.int .i64)) → Ow h' 3 1 (.slice wa s.2.length wc) s.2.length (u.2.map (.int .i64)) → u.1.length = s.1.length → u.2.length = s.2.length → Fr none' h h' ∧ StO h.next h' (.agg #[.slice va s.1.length vc, .slice wa s.2.length wc]) u := fun h' u fr q1 q2 e1 e2 => by
    refine ⟨Fr.fresh fr09 fr (fun id e => by
      rcases e with e | e | e
      · have := hv9 id e; omega
      · have := hw9 id e; omega
      · omega), _, _, rfl, by rw [e1]; exact q1, by rw [e2]; exact q2, fun id q => ?_, fun id q1 q2 => ?_⟩
    · rcases q with q | q
      · have := hv9 id q; omega
      · have := hw9 id q; omega
    · have := hv9 id q1; have := hw9 id q2; omega
  (repeat' (first | (simp (maxSteps := 1000000) (disch := first | omega | (simp only [AM.DB, List.length_set, List.length_map]; first | done | omega)) only [AM.RB, Nat.reduceAdd, Nat.reduceMul, Nat.reduceEqDiff, reduceCtorEq, b49_PC8, g19, g29, decide_eq_false t0, decide_eq_false t1]) | refine AM.drawW_loose (id := 8) hp (by kernel_rfl) (by kernel_rfl) ?_ | refine AM.drawW_loose (id := 15) hp (by kernel_rfl) (by kernel_rfl) ?_ | refine AM.drawW_loose (id := 18) hp (by kernel_rfl) (by kernel_rfl) ?_ | refine AM.drawW_fine (id := 20) hp (by kernel_rfl) (by kernel_rfl) (by kernel_rfl) ?_ | refine AM.drawW_fine (id := 22) hp (by kernel_rfl) (by kernel_rfl) (by kernel_rfl) ?_ | refine AM.opW_tied (by kernel_rfl) ?_ | refine AM.opW_untied (by kernel_rfl) ?_ | refine AM.build_w ?_))
  by_cases k1 : k = 1
  · subst k1
    rw [if_pos rfl] at hq
    have eu : turnS s (1, (t : Int), (c : Int)) = (s.1, s.2.set c t) := rfl
    rw [eu] at hq
    (repeat' (first | (simp (maxSteps := 1000000) (disch := first | omega | (simp only [AM.DB, List.length_set, List.length_map]; first | done | omega)) only [AM.RB, Nat.reduceAdd, Nat.reduceMul, Nat.reduceEqDiff, reduceCtorEq, b49_PC8, g9, g19, g29, o2.ia el_22, Int.toNat_natCast]) | refine AM.drawW_loose (id := 8) hp (by kernel_rfl) (by kernel_rfl) ?_ | refine AM.drawW_loose (id := 15) hp (by kernel_rfl) (by kernel_rfl) ?_ | refine AM.drawW_loose (id := 18) hp (by kernel_rfl) (by kernel_rfl) ?_ | refine AM.drawW_fine (id := 20) hp (by kernel_rfl) (by kernel_rfl) (by kernel_rfl) ?_ | refine AM.drawW_fine (id := 22) hp (by kernel_rfl) (by kernel_rfl) (by kernel_rfl) ?_ | refine AM.opW_tied (by kernel_rfl) ?_ | refine AM.opW_untied (by kernel_rfl) ?_ | refine AM.build_w ?_))
    refine o2.st sz_3 (j := c) (by omega) rfl rfl fun h10 o10 fr10 n10 => ?_
    rw [map_set'] at o10
    have hst : ∀ id, idOf (.slice wa s.2.length wc) id → h4.next + 1 ≤ id := fun id q => by have := hw9 id q; omega
    have lw10 := fr10.low
    have g9a := fr10.get g9 (fun q => by have := hst _ q; omega)
    have g1a := fr10.get g19 (fun q => by have := hst _ q; omega)
    have g2a := fr10.get g29 (fun q => by have := hst _ q; omega)
    have g3a := fr10.get g39 (fun q => by have := hst _ q; omega)
    have raa := ra9.fr fr10 (fun id q1 q2 => by have := ra.lt q1; have := hst _ q2; omega)
    have rba := rb9.fr fr10 (fun id q1 q2 => by have := rb.lt q1; have := hst _ q2; omega)
    (repeat' (first | (simp (maxSteps := 1000000) (disch := first | omega | (simp only [AM.DB, List.length_set, List.length_map]; first | done | omega)) only [AM.RB, Nat.reduceAdd, Nat.reduceMul, Nat.reduceEqDiff, reduceCtorEq, b49_PC8, g9a, g1a, g2a, g3a, rba.ia el_22, Rd.ldi rba lk_3, Int.toNat_natCast, hho]) | refine AM.drawW_loose (id := 8) hp (by kernel_rfl) (by kernel_rfl) ?_ | refine AM.drawW_loose (id := 15) hp (by kernel_rfl) (by kernel_rfl) ?_ | refine AM.drawW_loose (id := 18) hp (by kernel_rfl) (by kernel_rfl) ?_ | refine AM.drawW_fine (id := 20) hp (by kernel_rfl) (by kernel_rfl) (by kernel_rfl) ?_ | refine AM.drawW_fine (id := 22) hp (by kernel_rfl) (by kernel_rfl) (by kernel_rfl) ?_ | refine AM.opW_tied (by kernel_rfl) ?_ | refine AM.opW_untied (by kernel_rfl) ?_ | refine AM.build_w ?_))
    generalize hE_ : AHeap.put h10 _ _ = h11; obtain ⟨g11, fr11, n11, l11⟩ := AM.put_get hE_ (by omega); clear hE_
    have g1b := fr11.get g1a (show ¬ h.next = h.next + 1 + 1 by omega)
    have g2b := fr11.get g2a (show ¬ h.next + 1 = h.next + 1 + 1 by omega)
    have rab := raa.fr fr11 (fun id q1 q2 => by have := ra.lt q1; have q2 : id = h.next + 1 + 1 := q2; omega)
    have rbb := rba.fr fr11 (fun id q1 q2 => by have := rb.lt q1; have q2 : id = h.next + 1 + 1 := q2; omega)
    refine ⟨AM.looseOk_by [(2, [0, 9]), (4, [0, 9]), (6, [0, 9])] (by kernel_rfl) ?_, ?_⟩
    · simp (maxSteps := 1000000) (disch := first | omega | (simp only [AM.DB, List.length_set, List.length_map]; first | done | omega)) only [AM.RB, Nat.reduceAdd, Nat.reduceMul, Nat.reduceEqDiff, reduceCtorEq, b49_PC8]
      all_goals ((repeat' apply And.intro) <;> (first | (refine AM.stable_len _ _ _ _ _ _ (fun _ => ?_); (simp (maxSteps := 1000000) (disch := first | omega | (simp only [AM.DB, List.length_set, List.length_map]; first | done | omega)) only [AM.RB, Nat.reduceAdd, Nat.reduceMul, Nat.reduceEqDiff, reduceCtorEq, b49_PC8, g1a, g2a, g1b, g2b, rba.ia el_22, Rd.ldi rba lk_3, rbb.ia el_22, Rd.ldi rbb lk_3, Int.toNat_natCast, hho])) | (refine AM.stable_load _ _ _ _ _ _ ?_; (first | (simp (maxSteps := 1000000) (disch := first | omega | (simp only [AM.DB, List.length_set, List.length_map]; first | done | omega)) only [AM.RB, Nat.reduceAdd, Nat.reduceMul, Nat.reduceEqDiff, reduceCtorEq, b49_PC8, g1a, g2a, g1b, g2b, rba.ia el_22, Rd.ldi rba lk_3, rbb.ia el_22, Rd.ldi rbb lk_3, Int.toNat_natCast, hho]) | skip); (first | (refine AM.stabL_int (by omega) ?_; (simp (maxSteps := 1000000) (disch := first | omega | (simp only [AM.DB, List.length_set, List.length_map]; first | done | omega)) only [AM.RB, Nat.reduceAdd, Nat.reduceMul, Nat.reduceEqDiff, reduceCtorEq, b49_PC8, g1a, g2a, g1b, g2b, rba.ia el_22, Rd.ldi rba lk_3, rbb.ia el_22, Rd.ldi rbb lk_3, Int.toNat_natCast, hho])) | (refine AM.stabL_ptr (by omega) (by omega) ?_; (simp (maxSteps := 1000000) (disch := first | omega | (simp only [AM.DB, List.length_set, List.length_map]; first | done | omega)) only [AM.RB, Nat.reduceAdd, Nat.reduceMul, Nat.reduceEqDiff, reduceCtorEq, b49_PC8, g1a, g2a, g1b, g2b, rba.ia el_22, Rd.ldi rba lk_3, rbb.ia el_22, Rd.ldi rbb lk_3, Int.toNat_natCast, hho])) | (refine AM.stabL_string (by omega) ?_; (simp (maxSteps := 1000000) (disch := first | omega | (simp only [AM.DB, List.length_set, List.length_map]; first | done | omega)) only [AM.RB, Nat.reduceAdd, Nat.reduceMul, Nat.reduceEqDiff, reduceCtorEq, b49_PC8, g1a, g2a, g1b, g2b, rba.ia el_22, Rd.ldi rba lk_3, rbb.ia el_22, Rd.ldi rbb lk_3, Int.toNat_natCast, hho])) | (refine AM.stabL_bool (by omega) ?_; (simp (maxSteps := 1000000) (disch := first | omega | (simp only [AM.DB, List.length_set, List.length_map]; first | done | omega)) only [AM.RB, Nat.reduceAdd, Nat.reduceMul, Nat.reduceEqDiff, reduceCtorEq, b49_PC8, g1a, g2a, g1b, g2b, rba.ia el_22, Rd.ldi rba lk_3, rbb.ia el_22, Rd.ldi rbb lk_3, Int.toNat_natCast, hho])) | (refine AM.stabL_rd rba (by omega) (by omega) ?_; (simp (maxSteps := 1000000) (disch := first | omega | (simp only [AM.DB, List.length_set, List.length_map]; first | done | omega)) only [AM.RB, Nat.reduceAdd, Nat.reduceMul, Nat.reduceEqDiff, reduceCtorEq, b49_PC8, g1a, g2a, g1b, g2b, rba.ia el_22, Rd.ldi rba lk_3, rbb.ia el_22, Rd.ldi rbb lk_3, Int.toNat_natCast, hho])) | (refine AM.stabL_rd rbb (by omega) (by omega) ?_; (simp (maxSteps := 1000000) (disch := first | omega | (simp only [AM.DB, List.length_set, List.length_map]; first | done | omega)) only [AM.RB, Nat.reduceAdd, Nat.reduceMul, Nat.reduceEqDiff, reduceCtorEq, b49_PC8, g1a, g2a, g1b, g2b, rba.ia el_22, Rd.ldi rba lk_3, rbb.ia el_22, Rd.ldi rbb lk_3, Int.toNat_natCast, hho])) | (refine AM.stabL_elS rba (by omega) (by omega) ?_; (simp (maxSteps := 1000000) (disch := first | omega | (simp only [AM.DB, List.length_set, List.length_map]; first | done | omega)) only [AM.RB, Nat.reduceAdd, Nat.reduceMul, Nat.reduceEqDiff, reduceCtorEq, b49_PC8, g1a, g2a, g1b, g2b, rba.ia el_22, Rd.ldi rba lk_3, rbb.ia el_22, Rd.ldi rbb lk_3, Int.toNat_natCast, hho])) | (refine AM.stabL_elI rba (by omega) (by omega) ?_; (simp (maxSteps := 1000000) (disch := first | omega | (simp only [AM.DB, List.length_set, List.length_map]; first | done | omega)) only [AM.RB, Nat.reduceAdd, Nat.reduceMul, Nat.reduceEqDiff, reduceCtorEq, b49_PC8, g1a, g2a, g1b, g2b, rba.ia el_22, Rd.ldi rba lk_3, rbb.ia el_22, Rd.ldi rbb lk_3, Int.toNat_natCast, hho])) | (refine AM.stabL_elS rbb (by omega) (by omega) ?_; (simp (maxSteps := 1000000) (disch := first | omega | (simp only [AM.DB, List.length_set, List.length_map]; first | done | omega)) only [AM.RB, Nat.reduceAdd, Nat.reduceMul, Nat.reduceEqDiff, reduceCtorEq, b49_PC8, g1a, g2a, g1b, g2b, rba.ia el_22, Rd.ldi rba lk_3, rbb.ia el_22, Rd.ldi rbb lk_3, Int.toNat_natCast, hho])) | (refine AM.stabL_elI rbb (by omega) (by omega) ?_; (simp (maxSteps := 1000000) (disch := first | omega | (simp only [AM.DB, List.length_set, List.length_map]; first | done | omega)) only [AM.RB, Nat.reduceAdd, Nat.reduceMul, Nat.reduceEqDiff, reduceCtorEq, b49_PC8, g1a, g2a, g1b, g2b, rba.ia el_22, Rd.ldi rba lk_3, rbb.ia el_22, Rd.ldi rbb lk_3, Int.toNat_natCast, hho]))))))
    (repeat' (first | (simp (maxSteps := 1000000) (disch := first | omega | (simp only [AM.DB, List.length_set, List.length_map]; first | done | omega)) only [AM.RB, Nat.reduceAdd, Nat.reduceMul, Nat.reduceEqDiff, reduceCtorEq, b49_PC8, g11]) | refine AM.drawW_loose (id := 8) hp (by kernel_rfl) (by kernel_rfl) ?_ | refine AM.drawW_loose (id := 15) hp (by kernel_rfl) (by kernel_rfl) ?_ | refine AM.drawW_loose (id := 18) hp (by kernel_rfl) (by kernel_rfl) ?_ | refine AM.drawW_fine (id := 20) hp (by kernel_rfl) (by kernel_rfl) (by kernel_rfl) ?_ | refine AM.drawW_fine (id := 22) hp (by kernel_rfl) (by kernel_rfl) (by kernel_rfl) ?_ | refine AM.opW_tied (by kernel_rfl) ?_ | refine AM.opW_untied (by kernel_rfl) ?_ | refine AM.build_w ?_))
    have ff := fin _ (s.1, s.2.set c t) ((fr10.mono fun _ _ q => .inr (.inl q)).trans (fr11.mono fun _ _ q => .inr (.inr q))) ((o1.fr fr10 (fun id q1 q2 => by have := hv9 id q1; have := hw9 id q2; omega)).fr fr11 (fun id q1 e => by have := hv9 id q1; have e : id = h.next + 1 + 1 := e; omega)) (o10.fr fr11 (fun id q1 e => by have := hw9 id q1; have e : id = h.next + 1 + 1 := e; omega)) rfl (by simp)
    exact hq _ _ _ _ _ _ _ ff.1 (fun _ => ff.2)
  by_cases k2 : k = 2
  · subst k2
    rw [if_neg (by decide), if_pos rfl] at hq
    have eu : turnS s (2, (t : Int), (c : Int)) = (s.1, s.2.set c (-1)) := rfl
    have d21 : decide ((2 : Int) = 1) = false := rfl
    have d22 : decide ((2 : Int) = 2) = true := rfl
    rw [eu] at hq
    cases e1 : decide (ho = (t : Int)) <;> cases e2 : decide (at_ = (c : Int)) <;> rw [e1, e2] at hq
    all_goals (
      (repeat' (first | (simp (maxSteps := 1000000) (disch := first | omega | (simp only [AM.DB, List.length_set, List.length_map]; first | done | omega)) only [AM.RB, Nat.reduceAdd, Nat.reduceMul, Nat.reduceEqDiff, reduceCtorEq, b49_PC8, d21, d22, g9, g19, g29, o2.ia el_22, Int.toNat_natCast]) | refine AM.drawW_loose (id := 8) hp (by kernel_rfl) (by kernel_rfl) ?_ | refine AM.drawW_loose (id := 15) hp (by kernel_rfl) (by kernel_rfl) ?_ | refine AM.drawW_loose (id := 18) hp (by kernel_rfl) (by kernel_rfl) ?_ | refine AM.drawW_fine (id := 20) hp (by kernel_rfl) (by kernel_rfl) (by kernel_rfl) ?_ | refine AM.drawW_fine (id := 22) hp (by kernel_rfl) (by kernel_rfl) (by kernel_rfl) ?_ | refine AM.opW_tied (by kernel_rfl) ?_ | refine AM.opW_untied (by kernel_rfl) ?_ | refine AM.build_w ?_))
      refine o2.st sz_3 (j := c) (by omega) rfl rfl fun h10 o10 fr10 n10 => ?_
      rw [map_set'] at o10
      have hst : ∀ id, idOf (.slice wa s.2.length wc) id → h4.next + 1 ≤ id := fun id q => by have := hw9 id q; omega
      have lw10 := fr10.low
      have g9a := fr10.get g9 (fun q => by have := hst _ q; omega)
      have g1a := fr10.get g19 (fun q => by have := hst _ q; omega)
      have g2a := fr10.get g29 (fun q => by have := hst _ q; omega)
      have g3a := fr10.get g39 (fun q => by have := hst _ q; omega)
      have raa := ra9.fr fr10 (fun id q1 q2 => by have := ra.lt q1; have := hst _ q2; omega)
      have rba := rb9.fr fr10 (fun id q1 q2 => by have := rb.lt q1; have := hst _ q2; omega)
      (repeat' (first | (simp (maxSteps := 1000000) (disch := first | omega | (simp only [AM.DB, List.length_set, List.length_map]; first | done | omega)) only [AM.RB, Nat.reduceAdd, Nat.reduceMul, Nat.reduceEqDiff, reduceCtorEq, b49_PC8, g9a, g1a, g2a, g3a, rba.ia el_22, Rd.ldi rba lk_3, raa.ia el_22, Rd.ldi raa lk_3, Int.toNat_natCast, hho, hat, e1, e2]) | refine AM.drawW_loose (id := 8) hp (by kernel_rfl) (by kernel_rfl) ?_ | refine AM.drawW_loose (id := 15) hp (by kernel_rfl) (by kernel_rfl) ?_ | refine AM.drawW_loose (id := 18) hp (by kernel_rfl) (by kernel_rfl) ?_ | refine AM.drawW_fine (id := 20) hp (by kernel_rfl) (by kernel_rfl) (by kernel_rfl) ?_ | refine AM.drawW_fine (id := 22) hp (by kernel_rfl) (by kernel_rfl) (by kernel_rfl) ?_ | refine AM.opW_tied (by kernel_rfl) ?_ | refine AM.opW_untied (by kernel_rfl) ?_ | refine AM.build_w ?_))
      generalize hE_ : AHeap.put h10 _ _ = h11; obtain ⟨g11, fr11, n11, l11⟩ := AM.put_get hE_ (by omega); clear hE_
      have g1b := fr11.get g1a (show ¬ h.next = h.next + 1 + 1 by omega)
      have g2b := fr11.get g2a (show ¬ h.next + 1 = h.next + 1 + 1 by omega)
      have rab := raa.fr fr11 (fun id q1 q2 => by have := ra.lt q1; have q2 : id = h.next + 1 + 1 := q2; omega)
      have rbb := rba.fr fr11 (fun id q1 q2 => by have := rb.lt q1; have q2 : id = h.next + 1 + 1 := q2; omega)
      refine ⟨AM.looseOk_by [(12, [0, 22]), (14, [0, 22]), (16, [0, 22]), (18, [0, 22])] (by kernel_rfl) ?_, ?_⟩
      · simp (maxSteps := 1000000) (disch := first | omega | (simp only [AM.DB, List.length_set, List.length_map]; first | done | omega)) only [AM.RB, Nat.reduceAdd, Nat.reduceMul, Nat.reduceEqDiff, reduceCtorEq, b49_PC8]
        all_goals ((repeat' apply And.intro) <;> (first | (refine AM.stable_len _ _ _ _ _ _ (fun _ => ?_); (simp (maxSteps := 1000000) (disch := first | omega | (simp only [AM.DB, List.length_set, List.length_map]; first | done | omega)) only [AM.RB, Nat.reduceAdd, Nat.reduceMul, Nat.reduceEqDiff, reduceCtorEq, b49_PC8, g1a, g2a, g1b, g2b, raa.ia el_22, Rd.ldi raa lk_3, rab.ia el_22, Rd.ldi rab lk_3, Int.toNat_natCast, hat])) | (refine AM.stable_load _ _ _ _ _ _ ?_; (first | (simp (maxSteps := 1000000) (disch := first | omega | (simp only [AM.DB, List.length_set, List.length_map]; first | done | omega)) only [AM.RB, Nat.reduceAdd, Nat.reduceMul, Nat.reduceEqDiff, reduceCtorEq, b49_PC8, g1a, g2a, g1b, g2b, raa.ia el_22, Rd.ldi raa lk_3, rab.ia el_22, Rd.ldi rab lk_3, Int.toNat_natCast, hat]) | skip); (first | (refine AM.stabL_int (by omega) ?_; (simp (maxSteps := 1000000) (disch := first | omega | (simp only [AM.DB, List.length_set, List.length_map]; first | done | omega)) only [AM.RB, Nat.reduceAdd, Nat.reduceMul, Nat.reduceEqDiff, reduceCtorEq, b49_PC8, g1a, g2a, g1b, g2b, raa.ia el_22, Rd.ldi raa lk_3, rab.ia el_22, Rd.ldi rab lk_3, Int.toNat_natCast, hat])) | (refine AM.stabL_ptr (by omega) (by omega) ?_; (simp (maxSteps := 1000000) (disch := first | omega | (simp only [AM.DB, List.length_set, List.length_map]; first | done | omega)) only [AM.RB, Nat.reduceAdd, Nat.reduceMul, Nat.reduceEqDiff, reduceCtorEq, b49_PC8, g1a, g2a, g1b, g2b, raa.ia el_22, Rd.ldi raa lk_3, rab.ia el_22, Rd.ldi rab lk_3, Int.toNat_natCast, hat])) | (refine AM.stabL_string (by omega) ?_; (simp (maxSteps := 1000000) (disch := first | omega | (simp only [AM.DB, List.length_set, List.length_map]; first | done | omega)) only [AM.RB, Nat.reduceAdd, Nat.reduceMul, Nat.reduceEqDiff, reduceCtorEq, b49_PC8, g1a, g2a, g1b, g2b, raa.ia el_22, Rd.ldi raa lk_3, rab.ia el_22, Rd.ldi rab lk_3, Int.toNat_natCast, hat])) | (refine AM.stabL_bool (by omega) ?_; (simp (maxSteps := 1000000) (disch := first | omega | (simp only [AM.DB, List.length_set, List.length_map]; first | done | omega)) only [AM.RB, Nat.reduceAdd, Nat.reduceMul, Nat.reduceEqDiff, reduceCtorEq, b49_PC8, g1a, g2a, g1b, g2b, raa.ia el_22, Rd.ldi raa lk_3, rab.ia el_22, Rd.ldi rab lk_3, Int.toNat_natCast, hat])) | (refine AM.stabL_rd raa (by omega) (by omega) ?_; (simp (maxSteps := 1000000) (disch := first | omega | (simp only [AM.DB, List.length_set, List.length_map]; first | done | omega)) only [AM.RB, Nat.reduceAdd, Nat.reduceMul, Nat.reduceEqDiff, reduceCtorEq, b49_PC8, g1a, g2a, g1b, g2b, raa.ia el_22, Rd.ldi raa lk_3, rab.ia el_22, Rd.ldi rab lk_3, Int.toNat_natCast, hat])) | (refine AM.stabL_rd rab (by omega) (by omega) ?_; (simp (maxSteps := 1000000) (disch := first | omega | (simp only [AM.DB, List.length_set, List.length_map]; first | done | omega)) only [AM.RB, Nat.reduceAdd, Nat.reduceMul, Nat.reduceEqDiff, reduceCtorEq, b49_PC8, g1a, g2a, g1b, g2b, raa.ia el_22, Rd.ldi raa lk_3, rab.ia el_22, Rd.ldi rab lk_3, Int.toNat_natCast, hat])) | (refine AM.stabL_elS raa (by omega) (by omega) ?_; (simp (maxSteps := 1000000) (disch := first | omega | (simp only [AM.DB, List.length_set, List.length_map]; first | done | omega)) only [AM.RB, Nat.reduceAdd, Nat.reduceMul, Nat.reduceEqDiff, reduceCtorEq, b49_PC8, g1a, g2a, g1b, g2b, raa.ia el_22, Rd.ldi raa lk_3, rab.ia el_22, Rd.ldi rab lk_3, Int.toNat_natCast, hat])) | (refine AM.stabL_elI raa (by omega) (by omega) ?_; (simp (maxSteps := 1000000) (disch := first | omega | (simp only [AM.DB, List.length_set, List.length_map]; first | done | omega)) only [AM.RB, Nat.reduceAdd, Nat.reduceMul, Nat.reduceEqDiff, reduceCtorEq, b49_PC8, g1a, g2a, g1b, g2b, raa.ia el_22, Rd.ldi raa lk_3, rab.ia el_22, Rd.ldi rab lk_3, Int.toNat_natCast, hat])) | (refine AM.stabL_elS rab (by omega) (by omega) ?_; (simp (maxSteps := 1000000) (disch := first | omega | (simp only [AM.DB, List.length_set, List.length_map]; first | done | omega)) only [AM.RB, Nat.reduceAdd, Nat.reduceMul, Nat.reduceEqDiff, reduceCtorEq, b49_PC8, g1a, g2a, g1b, g2b, raa.ia el_22, Rd.ldi raa lk_3, rab.ia el_22, Rd.ldi rab lk_3, Int.toNat_natCast, hat])) | (refine AM.stabL_elI rab (by omega) (by omega) ?_; (simp (maxSteps := 1000000) (disch := first | omega | (simp only [AM.DB, List.length_set, List.length_map]; first | done | omega)) only [AM.RB, Nat.reduceAdd, Nat.reduceMul, Nat.reduceEqDiff, reduceCtorEq, b49_PC8, g1a, g2a, g1b, g2b, raa.ia el_22, Rd.ldi raa lk_3, rab.ia el_22, Rd.ldi rab lk_3, Int.toNat_natCast, hat]))))))
      (repeat' (first | (simp (maxSteps := 1000000) (disch := first | omega | (simp only [AM.DB, List.length_set, List.length_map]; first | done | omega)) only [AM.RB, Nat.reduceAdd, Nat.reduceMul, Nat.reduceEqDiff, reduceCtorEq, b49_PC8, g11]) | refine AM.drawW_loose (id := 8) hp (by kernel_rfl) (by kernel_rfl) ?_ | refine AM.drawW_loose (id := 15) hp (by kernel_rfl) (by kernel_rfl) ?_ | refine AM.drawW_loose (id := 18) hp (by kernel_rfl) (by kernel_rfl) ?_ | refine AM.drawW_fine (id := 20) hp (by kernel_rfl) (by kernel_rfl) (by kernel_rfl) ?_ | refine AM.drawW_fine (id := 22) hp (by kernel_rfl) (by kernel_rfl) (by kernel_rfl) ?_ | refine AM.opW_tied (by kernel_rfl) ?_ | refine AM.opW_untied (by kernel_rfl) ?_ | refine AM.build_w ?_))
      have ff := fin _ (s.1, s.2.set c (-1)) ((fr10.mono fun _ _ q => .inr (.inl q)).trans (fr11.mono fun _ _ q => .inr (.inr q))) ((o1.fr fr10 (fun id q1 q2 => by have := hv9 id q1; have := hw9 id q2; omega)).fr fr11 (fun id q1 e => by have := hv9 id q1; have e : id = h.next + 1 + 1 := e; omega)) (o10.fr fr11 (fun id q1 e => by have := hw9 id q1; have e : id = h.next + 1 + 1 := e; omega)) rfl (by simp)
      exact hq _ _ _ _ _ _ _ ff.1 (fun _ => ff.2))
  by_cases k3 : k = 3
  · subst k3
    rw [if_neg (by decide), if_neg (by decide), if_pos rfl] at hq
    have eu : turnS s (3, (t : Int), (c : Int)) = (s.1.set t c, s.2) := rfl
    have d31 : decide ((3 : Int) = 1) = false := rfl
    have d32 : decide ((3 : Int) = 2) = false := rfl
    have d33 : decide ((3 : Int) = 3) = true := rfl
    rw [eu] at hq
    (repeat' (first | (simp (maxSteps := 1000000) (disch := first | omega | (simp only [AM.DB, List.length_set, List.length_map]; first | done | omega)) only [AM.RB, Nat.reduceAdd, Nat.reduceMul, Nat.reduceEqDiff, reduceCtorEq, b49_PC8, d31, d32, d33, g19, g29, ra9.ia el_22, Rd.ldi ra9 lk_3, Int.toNat_natCast, hat]) | refine AM.drawW_loose (id := 8) hp (by kernel_rfl) (by kernel_rfl) ?_ | refine AM.drawW_loose (id := 15) hp (by kernel_rfl) (by kernel_rfl) ?_ | refine AM.drawW_loose (id := 18) hp (by kernel_rfl) (by kernel_rfl) ?_ | refine AM.drawW_fine (id := 20) hp (by kernel_rfl) (by kernel_rfl) (by kernel_rfl) ?_ | refine AM.drawW_fine (id := 22) hp (by kernel_rfl) (by kernel_rfl) (by kernel_rfl) ?_ | refine AM.opW_tied (by kernel_rfl) ?_ | refine AM.opW_untied (by kernel_rfl) ?_ | refine AM.build_w ?_))
    refine refEdge_w r9 G _ _ ?_
    cases e2 : edgeL L at_ (c : Int) <;> cases e1 : decide (ho = (t : Int)) <;> rw [e1, e2] at hq
    all_goals (
      (repeat' (first | (simp (maxSteps := 1000000) (disch := first | omega | (simp only [AM.DB, List.length_set, List.length_map]; first | done | omega)) only [AM.RB, Nat.reduceAdd, Nat.reduceMul, Nat.reduceEqDiff, reduceCtorEq, b49_PC8, g9, g19, g29, o1.ia el_22, Int.toNat_natCast]) | refine AM.drawW_loose (id := 8) hp (by kernel_rfl) (by kernel_rfl) ?_ | refine AM.drawW_loose (id := 15) hp (by kernel_rfl) (by kernel_rfl) ?_ | refine AM.drawW_loose (id := 18) hp (by kernel_rfl) (by kernel_rfl) ?_ | refine AM.drawW_fine (id := 20) hp (by kernel_rfl) (by kernel_rfl) (by kernel_rfl) ?_ | refine AM.drawW_fine (id := 22) hp (by kernel_rfl) (by kernel_rfl) (by kernel_rfl) ?_ | refine AM.opW_tied (by kernel_rfl) ?_ | refine AM.opW_untied (by kernel_rfl) ?_ | refine AM.build_w ?_))
      refine o1.st sz_3 (j := t) (by omega) rfl rfl fun h10 o10 fr10 n10 => ?_
      rw [map_set'] at o10
      have hst : ∀ id, idOf (.slice va s.1.length vc) id → h4.next + 1 ≤ id := fun id q => by have := hv9 id q; omega
      have lw10 := fr10.low
      have g9a := fr10.get g9 (fun q => by have := hst _ q; omega)
      have g1a := fr10.get g19 (fun q => by have := hst _ q; omega)
      have g2a := fr10.get g29 (fun q => by have := hst _ q; omega)
      have g3a := fr10.get g39 (fun q => by have := hst _ q; omega)
      have raa := ra9.fr fr10 (fun id q1 q2 => by have := ra.lt q1; have := hst _ q2; omega)
      have rba := rb9.fr fr10 (fun id q1 q2 => by have := rb.lt q1; have := hst _ q2; omega)
      (repeat' (first | (simp (maxSteps := 1000000) (disch := first | omega | (simp only [AM.DB, List.length_set, List.length_map]; first | done | omega)) only [AM.RB, Nat.reduceAdd, Nat.reduceMul, Nat.reduceEqDiff, reduceCtorEq, b49_PC8, g9a, g1a, g2a, g3a, rba.ia el_22, Rd.ldi rba lk_3, Int.toNat_natCast, hho, e1]) | refine AM.drawW_loose (id := 8) hp (by kernel_rfl) (by kernel_rfl) ?_ | refine AM.drawW_loose (id := 15) hp (by kernel_rfl) (by kernel_rfl) ?_ | refine AM.drawW_loose (id := 18) hp (by kernel_rfl) (by kernel_rfl) ?_ | refine AM.drawW_fine (id := 20) hp (by kernel_rfl) (by kernel_rfl) (by kernel_rfl) ?_ | refine AM.drawW_fine (id := 22) hp (by kernel_rfl) (by kernel_rfl) (by kernel_rfl) ?_ | refine AM.opW_tied (by kernel_rfl) ?_ | refine AM.opW_untied (by kernel_rfl) ?_ | refine AM.build_w ?_))
      generalize hE_ : AHeap.put h10 _ _ = h11; obtain ⟨g11, fr11, n11, l11⟩ := AM.put_get hE_ (by omega); clear hE_
      have g1b := fr11.get g1a (show ¬ h.next = h.next + 1 + 1 by omega)
      have g2b := fr11.get g2a (show ¬ h.next + 1 = h.next + 1 + 1 by omega)
      have rab := raa.fr fr11 (fun id q1 q2 => by have := ra.lt q1; have q2 : id = h.next + 1 + 1 := q2; omega)
      have rbb := rba.fr fr11 (fun id q1 q2 => by have := rb.lt q1; have q2 : id = h.next + 1 + 1 := q2; omega)
      (repeat' (first | (simp (maxSteps := 1000000) (disch := first | omega | (simp only [AM.DB, List.length_set, List.length_map]; first | done | omega)) only [AM.RB, Nat.reduceAdd, Nat.reduceMul, Nat.reduceEqDiff, reduceCtorEq, b49_PC8, g11]) | refine AM.drawW_loose (id := 8) hp (by kernel_rfl) (by kernel_rfl) ?_ | refine AM.drawW_loose (id := 15) hp (by kernel_rfl) (by kernel_rfl) ?_ | refine AM.drawW_loose (id := 18) hp (by kernel_rfl) (by kernel_rfl) ?_ | refine AM.drawW_fine (id := 20) hp (by kernel_rfl) (by kernel_rfl) (by kernel_rfl) ?_ | refine AM.drawW_fine (id := 22) hp (by kernel_rfl) (by kernel_rfl) (by kernel_rfl) ?_ | refine AM.opW_tied (by kernel_rfl) ?_ | refine AM.opW_untied (by kernel_rfl) ?_ | refine AM.build_w ?_))
      have ff := fin _ (s.1.set t c, s.2) ((fr10.mono fun _ _ q => .inl q).trans (fr11.mono fun _ _ q => .inr (.inr q))) (o10.fr fr11 (fun id q1 e => by have := hv9 id q1; have e : id = h.next + 1 + 1 := e; omega)) ((o2.fr fr10 (fun id q1 q2 => by have := hw9 id q1; have := hv9 id q2; omega)).fr fr11 (fun id q1 e => by have := hw9 id q1; have e : id = h.next + 1 + 1 := e; omega)) (by simp) rfl
      exact hq _ _ _ _ _ _ _ ff.1 (fun _ => ff.2))
  · rw [if_neg k1, if_neg k2, if_neg k3] at e hq
    (repeat' (first | (simp (maxSteps := 1000000) (disch := first | omega | (simp only [AM.DB, List.length_set, List.length_map]; first | done | omega)) only [AM.RB, Nat.reduceAdd, Nat.reduceMul, Nat.reduceEqDiff, reduceCtorEq, b49_PC8, g39, decide_eq_false k1, decide_eq_false k2, decide_eq_false k3]) | refine AM.drawW_loose (id := 8) hp (by kernel_rfl) (by kernel_rfl) ?_ | refine AM.drawW_loose (id := 15) hp (by kernel_rfl) (by kernel_rfl) ?_ | refine AM.drawW_loose (id := 18) hp (by kernel_rfl) (by kernel_rfl) ?_ | refine AM.drawW_fine (id := 20) hp (by kernel_rfl) (by kernel_rfl) (by kernel_rfl) ?_ | refine AM.drawW_fine (id := 22) hp (by kernel_rfl) (by kernel_rfl) (by kernel_rfl) ?_ | refine AM.opW_tied (by kernel_rfl) ?_ | refine AM.opW_untied (by kernel_rfl) ?_ | refine AM.build_w ?_))
    generalize hE_ : AHeap.put h9 _ _ = h10; obtain ⟨g10, fr10, n10, l10⟩ := AM.put_get hE_ (by omega); clear hE_
    (repeat' (first | (simp (maxSteps := 1000000) (disch := first | omega | (simp only [AM.DB, List.length_set, List.length_map]; first | done | omega)) only [AM.RB, Nat.reduceAdd, Nat.reduceMul, Nat.reduceEqDiff, reduceCtorEq, b49_PC8, g10]) | refine AM.drawW_loose (id := 8) hp (by kernel_rfl) (by kernel_rfl) ?_ | refine AM.drawW_loose (id := 15) hp (by kernel_rfl) (by kernel_rfl) ?_ | refine AM.drawW_loose (id := 18) hp (by kernel_rfl) (by kernel_rfl) ?_ | refine AM.drawW_fine (id := 20) hp (by kernel_rfl) (by kernel_rfl) (by kernel_rfl) ?_ | refine AM.drawW_fine (id := 22) hp (by kernel_rfl) (by kernel_rfl) (by kernel_rfl) ?_ | refine AM.opW_tied (by kernel_rfl) ?_ | refine AM.opW_untied (by kernel_rfl) ?_ | refine AM.build_w ?_))
    exact hq _ _ _ _ _ _ _ (Fr.fresh fr09 fr10 (fun id e => by have e : id = h.next + 1 + 1 := e; omega)) (fun e => by cases e)

end Go.Proofs.YtbaohngkapmhlaaDoor

namespace Go.Proofs.YtbaohngkapmhlaaDoor
open Go.AM
set_option maxRecDepth 8000
theorem b62_PR1 : type_of% (And.intro (@Option.isNone_none.{0}) (And.intro (@Option.isNone_some.{0}) (And.intro (AM.bin_snil ul_22) (And.intro (AM.bsW_int bs_22) (And.intro (AM.bsW_nil bs_22) (And.intro (AM.bsW_slice bs_22) (And.intro (AM.bsW_string bs_22) (And.intro (@AM.op_append) (And.intro (@AM.op_binOp) (@AM.op_buildSlice)))))))))) := And.intro (@Option.isNone_none.{0}) (And.intro (@Option.isNone_some.{0}) (And.intro (AM.bin_snil ul_22) (And.intro (AM.bsW_int bs_22) (And.intro (AM.bsW_nil bs_22) (And.intro (AM.bsW_slice bs_22) (And.intro (AM.bsW_string bs_22) (And.intro (@AM.op_append) (And.intro (@AM.op_binOp) (@AM.op_buildSlice)))))))))
theorem b115_PR1 : type_of% (And.intro (@AM.bin_add) (And.intro (@AM.bin_and) (And.intro (@AM.bin_mul) (And.intro (@AM.bin_shr) (And.intro (@AM.op_binOp) (@AM.resL_two)))))) := And.intro (@AM.bin_add) (And.intro (@AM.bin_and) (And.intro (@AM.bin_mul) (And.intro (@AM.bin_shr) (And.intro (@AM.op_binOp) (@AM.resL_two)))))
theorem b105_PR1 : type_of% (And.intro (@AM.cvW_int) (And.intro (AM.cv_int ul_158 ul_98) (And.intro (AM.cv_int ul_98 ul_158) (And.intro (@AM.ex_tuple) (And.intro (@AM.op_call) (And.intro (@AM.op_convert) (And.intro (@AM.op_extract) (@AM.resL_two)))))))) := And.intro (@AM.cvW_int) (And.intro (AM.cv_int ul_158 ul_98) (And.intro (AM.cv_int ul_98 ul_158) (And.intro (@AM.ex_tuple) (And.intro (@AM.op_call) (And.intro (@AM.op_convert) (And.intro (@AM.op_extract) (@AM.resL_two)))))))
theorem b87_PR1 : type_of% (And.intro (@AM.bin_add) (And.intro (@AM.bin_gtr) (And.intro (@AM.bin_lss) (And.intro (@AM.cvW_int) (And.intro (AM.cv_int ul_158 ul_3) (And.intro (AM.cv_int ul_3 ul_158) (And.intro (@AM.ex_tuple) (And.intro (AM.len_slice ul_22) (And.intro (AM.mkW_int mk_22) (And.intro (@AM.op_binOp) (And.intro (@AM.op_call) (And.intro (@AM.op_convert) (And.intro (@AM.op_copy) (And.intro (@AM.op_extract) (And.intro (@AM.op_len) (And.intro (@AM.op_makeInterface) (And.intro (@AM.op_makeSlice) (@AM.op_slice)))))))))))))))))) := And.intro (@AM.bin_add) (And.intro (@AM.bin_gtr) (And.intro (@AM.bin_lss) (And.intro (@AM.cvW_int) (And.intro (AM.cv_int ul_158 ul_3) (And.intro (AM.cv_int ul_3 ul_158) (And.intro (@AM.ex_tuple) (And.intro (AM.len_slice ul_22) (And.intro (AM.mkW_int mk_22) (And.intro (@AM.op_binOp) (And.intro (@AM.op_call) (And.intro (@AM.op_convert) (And.intro (@AM.op_copy) (And.intro (@AM.op_extract) (And.intro (@AM.op_len) (And.intro (@AM.op_makeInterface) (And.intro (@AM.op_makeSlice) (@AM.op_slice)))))))))))))))))


theorem cloneI_w {h : AHeap} {v : Value} {l : List Int} (hs : Rd h 3 1 v l.length (l.map (.int .i64))) (hl : h.low ≤ h.next) (hn : l.length ≤ 4000000) {Q : VQ}
    (hq : ∀ v' h', Ow h' 3 1 v' l.length (l.map (.int .i64)) → Fr none' h h' → (∀ id, idOf v' id → h.next ≤ id) → Q v' h') : W 62 [v] h Q := by
  refine AM.enter hp (fn := Tryd.f62) (rs := [.tmp 2]) (nt := 8) (by kernel_rfl) Tryd.func62 rfl rfl rfl (by kernel_rfl) ?_
  rcases id hs with ⟨rfl, h0, _⟩ | ⟨id, off, cap, c, e', o, rfl, _⟩
  · obtain rfl : l = [] := List.eq_nil_of_length_eq_zero h0
    (first | (simp (maxSteps := 1000000) (disch := first | omega | (simp only [AM.DB, List.length_set, List.length_map]; first | done | omega)) only [AM.RB, Nat.reduceAdd, Nat.reduceMul, Nat.reduceEqDiff, reduceCtorEq, b62_PR1]) | skip)
    exact hq _ _ (AM.Ow.nil _ _ _) (Fr.refl _ _) (fun id q => q.elim)
  · (first | (simp (maxSteps := 1000000) (disch := first | omega | (simp only [AM.DB, List.length_set, List.length_map]; first | done | omega)) only [AM.RB, Nat.reduceAdd, Nat.reduceMul, Nat.reduceEqDiff, reduceCtorEq, b62_PR1]) | skip)
    generalize hE_ : AHeap.alloc h _ = h1; obtain ⟨g1, fr1, n1, l1⟩ := AM.new_get hE_; clear hE_
    have o1 : Ow h1 3 1 (.slice (some ⟨h.next, 0, none⟩) 0 0) 0 [] := .inr ⟨_, _, _, _, _, rfl, Nat.le_refl _, g1, by simp, by simp, by omega⟩
    refine AM.appends_w ap_22 ap_22 o1 (hs.fr0 fr1) (AM.ints_one _ _) (by omega) (AM.fits (by omega) (by omega)) (AM.fits' (by omega)) fun v2 h2 o2 fr2 hid2 => ?_
    rw [Nat.zero_add, List.nil_append] at o2
    (first | (simp (maxSteps := 1000000) (disch := first | omega | (simp only [AM.DB, List.length_set, List.length_map]; first | done | omega)) only [AM.RB, Nat.reduceAdd, Nat.reduceMul, Nat.reduceEqDiff, reduceCtorEq, b62_PR1]) | skip)
    refine hq _ _ o2 (Fr.fresh fr1 fr2 (fun id e => by have e : id = h.next := e; omega)) (fun id q => ?_)
    rcases hid2 id q with q | q
    · have e : id = h.next := q
      omega
    · omega
theorem mul64_w {n : Nat} (hn : n ≤ 4000000) {h : AHeap} {Q : VQ} (hq : Q (.tuple #[.int .u64 0, .int .u64 n]) h) : W 115 [.int .u64 1, .int .u64 n] h Q := by
  have a1 : IntKind.u64.wrap ((BitVec.ofInt IntKind.u64.bits (1 : Int) &&& BitVec.ofInt IntKind.u64.bits 4294967295).toNat : Int) = 1 := rfl
  have a2 := AM.and_mask (n := n) (by omega)
  have a0 : IntKind.u64.wrap ((BitVec.ofInt IntKind.u64.bits (0 : Int) &&& BitVec.ofInt IntKind.u64.bits 4294967295).toNat : Int) = 0 := rfl
  have s1 : Int.fdiv (1 : Int) (2 ^ (min (32 : Int).toNat IntKind.u64.bits)) = 0 := rfl
  have s2 := AM.shr_32 (n := n) (by omega)
  have s0 : Int.fdiv (0 : Int) (2 ^ (min (32 : Int).toNat IntKind.u64.bits)) = 0 := rfl
  refine AM.enter hp (fn := Tryd.f115) (rs := [.tmp 4, .tmp 5]) (nt := 51) (by kernel_rfl) Tryd.func115 rfl rfl rfl (by kernel_rfl) ?_
  (first | (simp (maxSteps := 1000000) (disch := first | omega | (simp only [AM.DB, List.length_set, List.length_map]; first | done | omega)) only [AM.RB, Nat.reduceAdd, Nat.reduceMul, Nat.reduceEqDiff, reduceCtorEq, b115_PR1, a1, a2, a0, s1, s2, s0, Int.zero_mul, Int.one_mul, Int.mul_zero, Int.add_zero, Int.zero_add, AM.wrap_u64]) | skip)
  exact hq
theorem mul_w {n : Nat} (hn : n ≤ 4000000) {h : AHeap} {Q : VQ} (hq : Q (.tuple #[.int .u64 0, .int .u64 n]) h) : W 105 [.int .u64 1, .int .u64 n] h Q := by
  refine AM.enter hp (fn := Tryd.f105) (rs := [.tmp 4, .tmp 5]) (nt := 30) (by kernel_rfl) Tryd.func105 rfl rfl rfl (by kernel_rfl) ?_
  (first | (simp (maxSteps := 1000000) (disch := first | omega | (simp only [AM.DB, List.length_set, List.length_map]; first | done | omega)) only [AM.RB, Nat.reduceAdd, Nat.reduceMul, Nat.reduceEqDiff, reduceCtorEq, b105_PR1]) | skip)
  refine mul64_w hn ?_
  (first | (simp (maxSteps := 1000000) (disch := first | omega | (simp only [AM.DB, List.length_set, List.length_map]; first | done | omega)) only [AM.RB, Nat.reduceAdd, Nat.reduceMul, Nat.reduceEqDiff, reduceCtorEq, b105_PR1]) | skip)
  exact hq
theorem setRow_rep (n k m : Nat) (x : Value) (y : Value) (hk : k + m ≤ n) : setRow (List.replicate k x ++ List.replicate (n - k) y) k (List.replicate m x) = List.replicate (k + m) x ++ List.replicate (n - (k + m)) y := by
  apply List.ext_getElem?
  intro i
  rw [AM.setRow_get _ _ _ (by simp <;> omega)]
  simp only [List.length_replicate, List.getElem?_append, List.getElem?_replicate]
  rcases (show (k ≤ i ∧ i < k + m) ∨ i < k ∨ (k + m ≤ i ∧ i < n) ∨ n ≤ i by omega) with q | q | q | q
  · simp [q, show ¬ i < k by omega, show i - k < m by omega]
  · rw [if_neg (show ¬ (k ≤ i ∧ i < k + m) by omega)]
    simp [q, show i < k + m by omega]
  · simp [show ¬ (k ≤ i ∧ i < k + m) by omega, show ¬ i < k + m by omega, show ¬ i < k by omega, show i - k < n - k by omega, show i - (k + m) < n - (k + m) by omega]
  · simp [show ¬ (k ≤ i ∧ i < k + m) by omega, show ¬ i < k + m by omega, show ¬ i < k by omega, show ¬ i - k < n - k by omega, show ¬ i - (k + m) < n - (k + m) by omega]
set_option maxHeartbeats 4000000 in
theorem repeat_w {h : AHeap} {v : Value} {x : Int} {n : Nat} (hs : Rd h 3 1 v 1 [.int .i64 x]) (hn0 : 0 < n) (hn : n ≤ 4000000) (hl : h.low ≤ h.next) {Q : VQ}
    (hq : ∀ v' h', Ow h' 3 1 v' n ((List.replicate n x).map (.int .i64)) → Fr none' h h' → (∀ id, idOf v' id → h.next ≤ id) → Q v' h') : W 87 [v, .int .i64 n] h Q := by
  obtain ⟨va, vc, rfl⟩ := hs.form
  have d1 : decide ((n : Int) < 0) = false := decide_eq_false (by omega)
  have d2 : decide ((9223372036854775807 : Int) < (n : Int)) = false := decide_eq_false (by omega)
  refine AM.enter hp (fn := Tryd.f87) (rs := [.tmp 4]) (nt := 48) (by kernel_rfl) Tryd.func87 rfl rfl rfl (by kernel_rfl) ?_
  (repeat' (first | (simp (maxSteps := 1000000) (disch := first | omega | (simp only [AM.DB, List.length_set, List.length_map]; first | done | omega)) only [AM.RB, Nat.reduceAdd, Nat.reduceMul, Nat.reduceEqDiff, reduceCtorEq, b87_PR1, d1, AM.wrap_u64, AM.wrap_i64]) | refine AM.drawW_fine hp (by kernel_rfl) (by kernel_rfl) (by kernel_rfl) ?_ | refine AM.opW_tied (by kernel_rfl) ?_ | refine AM.opW_untied (by kernel_rfl) ?_))
  refine mul_w hn ?_
  have d0 : decide ((0 : Int) < 0) = false := rfl
  have erep : ∀ m, AM.repeated [Value.int .i64 0] m = List.replicate m (Value.int .i64 0) := fun m => by
    induction m with
    | zero => rfl
    | succ m ih => rw [AM.repeated, ih, List.replicate_succ]; rfl
  (repeat' (first | (simp (maxSteps := 1000000) (disch := first | omega | (simp only [AM.DB, List.length_set, List.length_map]; first | done | omega)) only [AM.RB, Nat.reduceAdd, Nat.reduceMul, Nat.reduceEqDiff, reduceCtorEq, b87_PR1, d0, d2, AM.wrap_i64, erep]) | refine AM.drawW_fine hp (by kernel_rfl) (by kernel_rfl) (by kernel_rfl) ?_ | refine AM.opW_tied (by kernel_rfl) ?_ | refine AM.opW_untied (by kernel_rfl) ?_))
  generalize hE_ : AHeap.alloc h _ = h1; obtain ⟨g1, fr1, n1, l1⟩ := AM.new_get hE_; clear hE_
  refine AM.copy_w (id := h.next) (off := 0) (c := List.replicate n (.int .i64 0)) (cs := [.int .i64 x]) (m := 1) (dl := n) el_22 (by omega) g1 (by omega) (by simp) (hs.fr0 fr1) rfl (by omega) fun h2 g2 fr2 n2 l2 => ?_
  have em : min 1 n = 1 := by omega
  have e2 : setRow (List.replicate n (Value.int .i64 0)) 0 ([Value.int .i64 x].take (min 1 n * 1)) = List.replicate 1 (.int .i64 x) ++ List.replicate (n - 1) (.int .i64 0) := by
    have := setRow_rep n 0 1 (.int .i64 x) (.int .i64 0) (by omega)
    simpa [em] using this
  rw [e2] at g2
  rw [em]
  have fr02 : Fr none' h h2 := Fr.fresh fr1 fr2 (fun id e => by have e : id = h.next := e; omega)
  (repeat' (first | (simp (maxSteps := 1000000) (disch := first | omega | (simp only [AM.DB, List.length_set, List.length_map]; first | done | omega)) only [AM.RB, Nat.reduceAdd, Nat.reduceMul, Nat.reduceEqDiff, reduceCtorEq, b87_PR1]) | refine AM.drawW_fine hp (by kernel_rfl) (by kernel_rfl) (by kernel_rfl) ?_ | refine AM.opW_tied (by kernel_rfl) ?_ | refine AM.opW_untied (by kernel_rfl) ?_))
  refine AM.loop_w hp 48 (fun k : Nat => [(7, .slice (some ⟨h.next, 0, none⟩) n n), (8, .int .i64 k)])
    (fun k h' => 1 ≤ k ∧ k ≤ n ∧ h'.get h.next = some (.cells (List.replicate k (.int .i64 x) ++ List.replicate (n - k) (.int .i64 0)) 3 false) ∧ Fr none' h h' ∧ h.next < h'.next) (fun k => n - k) (by kernel_rfl) 1 ?_ ?_ ?_
  · simp (maxSteps := 1000000) (disch := first | omega | (simp only [AM.DB, List.length_set, List.length_map]; first | done | omega)) only [AM.RB, Nat.reduceAdd, Nat.reduceMul, Nat.reduceEqDiff, reduceCtorEq, b87_PR1]
    first | rfl | skip
  · exact ⟨Nat.le_refl _, hn0, g2, fr02, by omega⟩
  rintro k h3 ρ ⟨hk1, hkn, g3, fr3, nx3⟩
  have lw3 := fr3.low
  simp (maxSteps := 1000000) (disch := first | omega | (simp only [AM.DB, List.length_set, List.length_map]; first | done | omega)) only [AM.RB, Nat.reduceAdd, Nat.reduceMul, Nat.reduceEqDiff, reduceCtorEq, b87_PR1]
  refine AM.condV_split (fun hlt => ?_) (fun hlt => ?_)
  · have hkl : k < n := by omega
    (repeat' (first | (simp (maxSteps := 1000000) (disch := first | omega | (simp only [AM.DB, List.length_set, List.length_map]; first | done | omega)) only [AM.RB, Nat.reduceAdd, Nat.reduceMul, Nat.reduceEqDiff, reduceCtorEq, b87_PR1, AM.slc el_22 g3, AM.slbs_lo_i, AM.slbs_hi_i, Int.toNat_natCast, Nat.sub_zero, Nat.zero_mul, Nat.mul_one]) | refine AM.drawW_fine hp (by kernel_rfl) (by kernel_rfl) (by kernel_rfl) ?_ | refine AM.opW_tied (by kernel_rfl) ?_ | refine AM.opW_untied (by kernel_rfl) ?_))
    have r3 : Rd h3 3 1 (.slice (some ⟨h.next, 0, none⟩) k n) k (List.replicate k (.int .i64 x)) := .inr ⟨_, _, _, _, _, _, rfl, hkn, g3, by simp <;> omega, by simp, .inr rfl⟩
    refine AM.copy_w (id := h.next) (off := k) (cs := List.replicate k (.int .i64 x)) (m := k) (dl := n - k) el_22 (by omega) g3 (by omega) (by simp <;> omega) r3 (by rw [List.all_eq_true]; intro v hv; rw [List.eq_of_mem_replicate hv]; rfl) (by omega) fun h4 g4 fr4 n4 l4 => ?_
    have e4 : setRow (List.replicate k (Value.int .i64 x) ++ List.replicate (n - k) (.int .i64 0)) k ((List.replicate k (Value.int .i64 x)).take (min k (n - k) * 1)) = List.replicate (k + min k (n - k)) (.int .i64 x) ++ List.replicate (n - (k + min k (n - k))) (.int .i64 0) := by
      rw [Nat.mul_one, List.take_replicate, show min (min k (n - k)) k = min k (n - k) by omega]
      exact setRow_rep n k _ _ _ (by omega)
    rw [e4] at g4
    (repeat' (first | (simp (maxSteps := 1000000) (disch := first | omega | (simp only [AM.DB, List.length_set, List.length_map]; first | done | omega)) only [AM.RB, Nat.reduceAdd, Nat.reduceMul, Nat.reduceEqDiff, reduceCtorEq, b87_PR1, AM.wrap_i64]) | refine AM.drawW_fine hp (by kernel_rfl) (by kernel_rfl) (by kernel_rfl) ?_ | refine AM.opW_tied (by kernel_rfl) ?_ | refine AM.opW_untied (by kernel_rfl) ?_))
    refine ⟨k + min k (n - k), by omega, congrArg _ (by omega), by omega, by omega, g4, Fr.fresh fr3 fr4 (fun id e => by have e : id = h.next := e; omega), by omega⟩
  · obtain rfl : k = n := by omega
    rw [Nat.sub_self, List.replicate_zero, List.append_nil] at g3
    (repeat' (first | (simp (maxSteps := 1000000) (disch := first | omega | (simp only [AM.DB, List.length_set, List.length_map]; first | done | omega)) only [AM.RB, Nat.reduceAdd, Nat.reduceMul, Nat.reduceEqDiff, reduceCtorEq, b87_PR1]) | refine AM.drawW_fine hp (by kernel_rfl) (by kernel_rfl) (by kernel_rfl) ?_ | refine AM.opW_tied (by kernel_rfl) ?_ | refine AM.opW_untied (by kernel_rfl) ?_))
    refine hq _ _ (.inr ⟨_, _, _, _, _, rfl, Nat.le_refl _, g3, by simp, by simp, by omega⟩) fr3 (fun id e => by have e : id = h.next := e; omega)

end Go.Proofs.YtbaohngkapmhlaaDoor

namespace Go.Proofs.YtbaohngkapmhlaaDoor
open Go.AM
set_option maxRecDepth 8000
/-! ### All steps, one behind the other -/
end Go.Proofs.YtbaohngkapmhlaaDoor

namespace Go.Proofs.YtbaohngkapmhlaaDoor
open Go.AM
set_option maxRecDepth 8000
abbrev encS (x : Sp) : List Value := [.int .i64 x.1, .int .i64 x.2.1, .int .i64 x.2.2]
theorem encS_len (x : Sp) : (encS x).length = 3 := rfl
/-- What stands behind each round: the map, the steps so far. 'N': the objects that were there ahead of the range. -/
def stK (h : AHeap) (N p t2 t3 b w1 w2 : Nat) (L : List (List UInt8)) (B : Nat → Prop) (v1 v2 : Value) (s : St) (l : List Sp) (S : Nat → Prop) (h' : AHeap) : Prop :=
  ∃ Sm sl, Mt h' p L Sm ∧ (∀ id, Sm id → id < N ∨ S id) ∧ (∀ id, B id ∨ id = t2 ∨ id = t3 ∨ id = b ∨ id = w1 ∨ id = w2 ∨ idOf sl id → ¬ Sm id) ∧
    h'.get t2 = some (.cells [pv p] 26 false) ∧ h'.get t3 = some (.cells [v1, v2] 59 false) ∧ StR h' (.agg #[v1, v2]) s ∧
    h'.get w1 = some (.cells [.int .i64 (s.1.length : Int)] 3 false) ∧ h'.get w2 = some (.cells [pv p] 26 false) ∧
    h'.get b = some (.cells [sl] 70 false) ∧ Ow h' 65 3 sl l.length (l.flatMap encS) ∧ (∀ id, idOf sl id → S id ∧ N ≤ id) ∧ h'.get GW = some (.cells waysC 166 false) ∧ Fr (fun id => id = p) h h'
theorem frExtP {h h1 h2 : AHeap} {N : Nat} {T : Nat → Prop} (fr : Fr T h h1) (hB : ∀ id, id < N → h2.get id = h1.get id) (hb : h.next ≤ N) (hn : h1.next ≤ h2.next) (hl : h2.low = h1.low) : Fr T h h2 :=
  ⟨Nat.le_trans fr.next hn, hl.trans fr.low, fun id q1 q2 => by rw [hB id (by omega)]; exact fr.old id q1 q2⟩
theorem stK.keep {h : AHeap} {N p t2 t3 b w1 w2 : Nat} {L : List (List UInt8)} {B : Nat → Prop} {v1 v2 : Value} {s : St} {l : List Sp} {S : Nat → Prop} {h1 h2 : AHeap} (hN : h.next ≤ N) (ho : (t2 < N ∧ t3 < N ∧ b < N) ∧ w1 < N ∧ w2 < N ∧ GW < N) (hv : ∀ id, idOf v1 id ∨ idOf v2 id → id < N)
    (k : stK h N p t2 t3 b w1 w2 L B v1 v2 s l S h1) (hS : ∀ id, S id → h2.get id = h1.get id) (hB : ∀ id, id < N → h2.get id = h1.get id) (hn : h1.next ≤ h2.next) (hl : h2.low = h1.low) : stK h N p t2 t3 b w1 w2 L B v1 v2 s l S h2 := by
  obtain ⟨Sm, sl, m, hm, hd, g2, g3, ⟨a, c, e, ra, rc⟩, gw1, gw2, gb, o, hsl, gg, fr⟩ := k
  cases e
  refine ⟨Sm, sl, m.keep (fun id q => ?_) hn hl, hm, hd, by rw [hB _ ho.1.1]; exact g2, by rw [hB _ ho.1.2.1]; exact g3, ⟨_, _, rfl, ra.same (fun id q => hB id (hv id (.inl q))), rc.same (fun id q => hB id (hv id (.inr q)))⟩,
    by rw [hB _ ho.2.1]; exact gw1, by rw [hB _ ho.2.2.1]; exact gw2, by rw [hB _ ho.1.2.2]; exact gb, o.same (fun id q => hS id (hsl id q).1) hl, hsl, by rw [hB _ ho.2.2.2]; exact gg, frExtP fr hB hN hn hl⟩
  rcases hm id q with q | q
  · exact hB id q
  · exact hS id q

end Go.Proofs.YtbaohngkapmhlaaDoor

namespace Go.Proofs.YtbaohngkapmhlaaDoor
open Go.AM
set_option maxRecDepth 8000
theorem Mk.sub {h : AHeap} {p : Nat} {L : List (List UInt8)} {B C : Nat → Prop} (m : Mk h p L B) (hC : ∀ id, C id → B id) : Mk h p L C := by
  obtain ⟨⟨S, m, hB⟩, hb⟩ := m
  exact ⟨⟨S, m, fun id q => hB id (hC id q)⟩, fun id q => hb id (hC id q)⟩
/-- New ones are none of a map's own. -/
theorem Mk.fresh {h : AHeap} {p : Nat} {L : List (List UInt8)} {B : Nat → Prop} (m : Mk h p L B) {h' : AHeap} (fr : Fr none' h h') : Mk h' p L (fun id => B id ∨ (h.next ≤ id ∧ id < h'.next)) := m.more fr fun id q => q
end Go.Proofs.YtbaohngkapmhlaaDoor

namespace Go.Proofs.YtbaohngkapmhlaaDoor
open Go.AM
set_option maxRecDepth 8000
theorem b88_PR2 : type_of% (And.intro (@AM.alK_some) (And.intro (@al_59) (And.intro (@AM.bdV_some) (And.intro (@bd_59) (And.intro (@AM.boxK_agg) (And.intro (@AM.boxK_bool) (And.intro (@AM.boxK_func) (And.intro (@AM.boxK_int) (And.intro (@AM.boxK_map) (And.intro (@AM.boxK_pointer) (And.intro (@AM.boxK_slice) (And.intro (@AM.boxK_string) (And.intro (@AM.fa_ptr) (And.intro (@fd_59_0) (And.intro (@fd_59_1) (And.intro (@AM.fillL_cons) (And.intro (@AM.fillL_nil) (And.intro (@AM.fillS_agg) (And.intro (@AM.fillS_bool) (And.intro (@AM.fillS_func) (And.intro (@AM.fillS_int) (And.intro (@AM.fillS_map) (And.intro (@AM.fillS_pointer) (And.intro (@AM.fillS_slice) (And.intro (@AM.fillS_string) (And.intro (@AM.ldO_agg) (And.intro (@AM.ldO_one) (And.intro (@AM.ld_ptr) (And.intro (@lk_22) (And.intro (@lk_59) (And.intro (@AM.op_alloc) (And.intro (@AM.op_box) (And.intro (@AM.op_build) (And.intro (@AM.op_call) (And.intro (@AM.op_fieldAddr) (And.intro (@AM.op_load) (And.intro (@AM.op_store) (And.intro (@AM.res_cell) (And.intro (@AM.stO_agg) (And.intro (@AM.stO_bool) (And.intro (@AM.stO_int) (And.intro (@AM.stO_map) (And.intro (@AM.stO_pointer) (And.intro (@AM.stO_slice) (And.intro (@AM.stO_string) (And.intro (@AM.st_ptr) (@sz_59))))))))))))))))))))))))))))))))))))))))))))))) := And.intro (@AM.alK_some) (And.intro (@al_59) (And.intro (@AM.bdV_some) (And.intro (@bd_59) (And.intro (@AM.boxK_agg) (And.intro (@AM.boxK_bool) (And.intro (@AM.boxK_func) (And.intro (@AM.boxK_int) (And.intro (@AM.boxK_map) (And.intro (@AM.boxK_pointer) (And.intro (@AM.boxK_slice) (And.intro (@AM.boxK_string) (And.intro (@AM.fa_ptr) (And.intro (@fd_59_0) (And.intro (@fd_59_1) (And.intro (@AM.fillL_cons) (And.intro (@AM.fillL_nil) (And.intro (@AM.fillS_agg) (And.intro (@AM.fillS_bool) (And.intro (@AM.fillS_func) (And.intro (@AM.fillS_int) (And.intro (@AM.fillS_map) (And.intro (@AM.fillS_pointer) (And.intro (@AM.fillS_slice) (And.intro (@AM.fillS_string) (And.intro (@AM.ldO_agg) (And.intro (@AM.ldO_one) (And.intro (@AM.ld_ptr) (And.intro (@lk_22) (And.intro (@lk_59) (And.intro (@AM.op_alloc) (And.intro (@AM.op_box) (And.intro (@AM.op_build) (And.intro (@AM.op_call) (And.intro (@AM.op_fieldAddr) (And.intro (@AM.op_load) (And.intro (@AM.op_store) (And.intro (@AM.res_cell) (And.intro (@AM.stO_agg) (And.intro (@AM.stO_bool) (And.intro (@AM.stO_int) (And.intro (@AM.stO_map) (And.intro (@AM.stO_pointer) (And.intro (@AM.stO_slice) (And.intro (@AM.stO_string) (And.intro (@AM.st_ptr) (@sz_59))))))))))))))))))))))))))))))))))))))))))))))
theorem b89_PR2 : type_of% (And.intro (@AM.bin_eql) (And.intro (@AM.boxK_agg) (And.intro (@AM.boxK_bool) (And.intro (@AM.boxK_func) (And.intro (@AM.boxK_int) (And.intro (@AM.boxK_map) (And.intro (@AM.boxK_pointer) (And.intro (@AM.boxK_slice) (And.intro (@AM.boxK_string) (And.intro (@AM.fa_ptr) (And.intro (@fd_59_0) (And.intro (@fd_59_1) (And.intro (@fd_65_0) (And.intro (@fd_65_1) (And.intro (@fd_65_2) (And.intro (@AM.iaO_ok) (And.intro (AM.ia_slice el_22) (And.intro (@AM.ldO_agg) (And.intro (@AM.ldO_one) (And.intro (@AM.ld_ptr) (And.intro (@lk_22) (And.intro (@lk_3) (And.intro (@AM.op_binOp) (And.intro (@AM.op_box) (And.intro (@AM.op_fieldAddr) (And.intro (@AM.op_indexAddr) (And.intro (@AM.op_load) (And.intro (@AM.op_store) (And.intro (@AM.stO_agg) (And.intro (@AM.stO_bool) (And.intro (@AM.stO_int) (And.intro (@AM.stO_map) (And.intro (@AM.stO_pointer) (And.intro (@AM.stO_slice) (And.intro (@AM.stO_string) (And.intro (@AM.st_ptr) (@sz_3))))))))))))))))))))))))))))))))))))) := And.intro (@AM.bin_eql) (And.intro (@AM.boxK_agg) (And.intro (@AM.boxK_bool) (And.intro (@AM.boxK_func) (And.intro (@AM.boxK_int) (And.intro (@AM.boxK_map) (And.intro (@AM.boxK_pointer) (And.intro (@AM.boxK_slice) (And.intro (@AM.boxK_string) (And.intro (@AM.fa_ptr) (And.intro (@fd_59_0) (And.intro (@fd_59_1) (And.intro (@fd_65_0) (And.intro (@fd_65_1) (And.intro (@fd_65_2) (And.intro (@AM.iaO_ok) (And.intro (AM.ia_slice el_22) (And.intro (@AM.ldO_agg) (And.intro (@AM.ldO_one) (And.intro (@AM.ld_ptr) (And.intro (@lk_22) (And.intro (@lk_3) (And.intro (@AM.op_binOp) (And.intro (@AM.op_box) (And.intro (@AM.op_fieldAddr) (And.intro (@AM.op_indexAddr) (And.intro (@AM.op_load) (And.intro (@AM.op_store) (And.intro (@AM.stO_agg) (And.intro (@AM.stO_bool) (And.intro (@AM.stO_int) (And.intro (@AM.stO_map) (And.intro (@AM.stO_pointer) (And.intro (@AM.stO_slice) (And.intro (@AM.stO_string) (And.intro (@AM.st_ptr) (@sz_3))))))))))))))))))))))))))))))))))))
theorem b51_PR2 : type_of% (And.intro (@AM.bin_neq) (And.intro (@AM.boxK_agg) (And.intro (@AM.boxK_bool) (And.intro (@AM.boxK_func) (And.intro (@AM.boxK_int) (And.intro (@AM.boxK_map) (And.intro (@AM.boxK_pointer) (And.intro (@AM.boxK_slice) (And.intro (@AM.boxK_string) (And.intro (@AM.ldO_agg) (And.intro (@AM.ldO_one) (And.intro (@AM.ld_ptr) (And.intro (@lk_59) (And.intro (@lk_65) (And.intro (@AM.op_binOp) (And.intro (@AM.op_box) (And.intro (@AM.op_call) (And.intro (@AM.op_load) (And.intro (@AM.op_unOp) (And.intro (@AM.un_neg) (@AM.un_not))))))))))))))))))))) := And.intro (@AM.bin_neq) (And.intro (@AM.boxK_agg) (And.intro (@AM.boxK_bool) (And.intro (@AM.boxK_func) (And.intro (@AM.boxK_int) (And.intro (@AM.boxK_map) (And.intro (@AM.boxK_pointer) (And.intro (@AM.boxK_slice) (And.intro (@AM.boxK_string) (And.intro (@AM.ldO_agg) (And.intro (@AM.ldO_one) (And.intro (@AM.ld_ptr) (And.intro (@lk_59) (And.intro (@lk_65) (And.intro (@AM.op_binOp) (And.intro (@AM.op_box) (And.intro (@AM.op_call) (And.intro (@AM.op_load) (And.intro (@AM.op_unOp) (And.intro (@AM.un_neg) (@AM.un_not))))))))))))))))))))
theorem b50_PR2 : type_of% (And.intro (@AM.alK_some) (And.intro (@al_59) (And.intro (@AM.bdV_some) (And.intro (@bd_59) (And.intro (@AM.bin_neq) (And.intro (@AM.boxK_agg) (And.intro (@AM.boxK_bool) (And.intro (@AM.boxK_func) (And.intro (@AM.boxK_int) (And.intro (@AM.boxK_map) (And.intro (@AM.boxK_pointer) (And.intro (@AM.boxK_slice) (And.intro (@AM.boxK_string) (And.intro (@AM.fillL_cons) (And.intro (@AM.fillL_nil) (And.intro (@AM.fillS_agg) (And.intro (@AM.fillS_bool) (And.intro (@AM.fillS_func) (And.intro (@AM.fillS_int) (And.intro (@AM.fillS_map) (And.intro (@AM.fillS_pointer) (And.intro (@AM.fillS_slice) (And.intro (@AM.fillS_string) (And.intro (@AM.ldO_agg) (And.intro (@AM.ldO_one) (And.intro (@AM.ld_ptr) (And.intro (@lk_59) (And.intro (@lk_65) (And.intro (@AM.op_alloc) (And.intro (@AM.op_binOp) (And.intro (@AM.op_box) (And.intro (@AM.op_build) (And.intro (@AM.op_call) (And.intro (@AM.op_load) (And.intro (@AM.op_store) (And.intro (@AM.resL_two) (And.intro (@AM.res_cell) (And.intro (@AM.stO_agg) (And.intro (@AM.stO_bool) (And.intro (@AM.stO_int) (And.intro (@AM.stO_map) (And.intro (@AM.stO_pointer) (And.intro (@AM.stO_slice) (And.intro (@AM.stO_string) (And.intro (@AM.st_ptr) (@sz_59)))))))))))))))))))))))))))))))))))))))))))))) := And.intro (@AM.alK_some) (And.intro (@al_59) (And.intro (@AM.bdV_some) (And.intro (@bd_59) (And.intro (@AM.bin_neq) (And.intro (@AM.boxK_agg) (And.intro (@AM.boxK_bool) (And.intro (@AM.boxK_func) (And.intro (@AM.boxK_int) (And.intro (@AM.boxK_map) (And.intro (@AM.boxK_pointer) (And.intro (@AM.boxK_slice) (And.intro (@AM.boxK_string) (And.intro (@AM.fillL_cons) (And.intro (@AM.fillL_nil) (And.intro (@AM.fillS_agg) (And.intro (@AM.fillS_bool) (And.intro (@AM.fillS_func) (And.intro (@AM.fillS_int) (And.intro (@AM.fillS_map) (And.intro (@AM.fillS_pointer) (And.intro (@AM.fillS_slice) (And.intro (@AM.fillS_string) (And.intro (@AM.ldO_agg) (And.intro (@AM.ldO_one) (And.intro (@AM.ld_ptr) (And.intro (@lk_59) (And.intro (@lk_65) (And.intro (@AM.op_alloc) (And.intro (@AM.op_binOp) (And.intro (@AM.op_box) (And.intro (@AM.op_build) (And.intro (@AM.op_call) (And.intro (@AM.op_load) (And.intro (@AM.op_store) (And.intro (@AM.resL_two) (And.intro (@AM.res_cell) (And.intro (@AM.stO_agg) (And.intro (@AM.stO_bool) (And.intro (@AM.stO_int) (And.intro (@AM.stO_map) (And.intro (@AM.stO_pointer) (And.intro (@AM.stO_slice) (And.intro (@AM.stO_string) (And.intro (@AM.st_ptr) (@sz_59)))))))))))))))))))))))))))))))))))))))))))))


set_option maxHeartbeats 4000000 in
theorem twin_w {h : AHeap} {v : Value} {s : St} (hs : StR h v s) (hl : h.low ≤ h.next) (hn1 : s.1.length ≤ 4000000) (hn2 : s.2.length ≤ 4000000) {Q : VQ}
    (hq : ∀ a1 m1 c1 a2 m2 c2 h', Fr none' h h' → StO h.next h' (.agg #[.slice a1 m1 c1, .slice a2 m2 c2]) s → Q (.agg #[.slice a1 m1 c1, .slice a2 m2 c2]) h') : W 88 [v] h Q := by
  obtain ⟨a, b, rfl, ra, rb⟩ := hs
  obtain ⟨aa, ac, rfl⟩ := ra.form
  obtain ⟨ba, bc, rfl⟩ := rb.form
  refine AM.enter hp (fn := Tryd.f88) (rs := [.cell 2 59]) (nt := 10) (by kernel_rfl) Tryd.func88 rfl rfl rfl (by kernel_rfl) ?_
  simp (maxSteps := 1000000) (disch := first | omega | (simp only [AM.DB, List.length_set, List.length_map]; first | done | omega)) only [AM.RB, Nat.reduceAdd, Nat.reduceMul, Nat.reduceEqDiff, reduceCtorEq, b88_PR2]
  generalize hE_ : AHeap.alloc h _ = h1; obtain ⟨g1, fr1, n1, l1⟩ := AM.new_get hE_; clear hE_
  generalize hE_ : AHeap.alloc h1 _ = h2; obtain ⟨g2, fr2, n2, l2⟩ := AM.new_get hE_; clear hE_
  rw [n1] at g2
  have g12 := g1.fr0 fr2
  have fr02 := fr1.trans fr2
  have nx2 := fr02.next
  have lw2 := fr02.low
  (repeat' (first | (simp (maxSteps := 1000000) (disch := first | omega | (simp only [AM.DB, List.length_set, List.length_map]; first | done | omega)) only [AM.RB, Nat.reduceAdd, Nat.reduceMul, Nat.reduceEqDiff, reduceCtorEq, b88_PR2, g12]) | refine AM.drawW_loose (id := 1) hp (by kernel_rfl) (by kernel_rfl) ?_ | refine AM.opW_tied (by kernel_rfl) ?_ | refine AM.opW_untied (by kernel_rfl) ?_ | refine AM.build_w ?_))
  refine cloneI_w (ra.fr0 fr02) (by omega) (by omega) fun v3 h3 o3 fr3 hid3 => ?_
  obtain ⟨va, vc, rfl⟩ := o3.form
  have nx3 := fr3.next
  have lw3 := fr3.low
  have g13 := g12.fr0 fr3
  (repeat' (first | (simp (maxSteps := 1000000) (disch := first | omega | (simp only [AM.DB, List.length_set, List.length_map]; first | done | omega)) only [AM.RB, Nat.reduceAdd, Nat.reduceMul, Nat.reduceEqDiff, reduceCtorEq, b88_PR2, g13]) | refine AM.drawW_loose (id := 1) hp (by kernel_rfl) (by kernel_rfl) ?_ | refine AM.opW_tied (by kernel_rfl) ?_ | refine AM.opW_untied (by kernel_rfl) ?_ | refine AM.build_w ?_))
  refine cloneI_w (rb.fr0 (fr02.trans fr3)) (by omega) (by omega) fun v4 h4 o4 fr4 hid4 => ?_
  obtain ⟨wa, wc, rfl⟩ := o4.form
  have nx4 := fr4.next
  have lw4 := fr4.low
  have g14 := g13.fr0 fr4
  have fr24 := fr3.trans fr4
  have g24 := g2.fr0 fr24
  (repeat' (first | (simp (maxSteps := 1000000) (disch := first | omega | (simp only [AM.DB, List.length_set, List.length_map]; first | done | omega)) only [AM.RB, Nat.reduceAdd, Nat.reduceMul, Nat.reduceEqDiff, reduceCtorEq, b88_PR2, g13, g14, g12, g24]) | refine AM.drawW_loose (id := 1) hp (by kernel_rfl) (by kernel_rfl) ?_ | refine AM.opW_tied (by kernel_rfl) ?_ | refine AM.opW_untied (by kernel_rfl) ?_ | refine AM.build_w ?_))
  generalize hE_ : AHeap.put h4 _ _ = h5; obtain ⟨g5, fr5, n5, l5⟩ := AM.put_get hE_ (by omega); clear hE_
  have g15 := fr5.get g14 (show ¬ h.next = h.next + 1 by omega)
  have rb3 := rb.fr0 (fr02.trans fr3)
  refine ⟨AM.looseOk_by [(4, [0, 3])] (by kernel_rfl) ?_, ?_⟩
  · simp (maxSteps := 1000000) (disch := first | omega | (simp only [AM.DB, List.length_set, List.length_map]; first | done | omega)) only [AM.RB, Nat.reduceAdd, Nat.reduceMul, Nat.reduceEqDiff, reduceCtorEq, b88_PR2]
    all_goals ((repeat' apply And.intro) <;> (first | (refine AM.stable_len _ _ _ _ _ _ (fun _ => ?_); (simp (maxSteps := 1000000) (disch := first | omega | (simp only [AM.DB, List.length_set, List.length_map]; first | done | omega)) only [AM.RB, Nat.reduceAdd, Nat.reduceMul, Nat.reduceEqDiff, reduceCtorEq, b88_PR2, g12, g13, g14, g15])) | (refine AM.stable_load _ _ _ _ _ _ ?_; (first | (simp (maxSteps := 1000000) (disch := first | omega | (simp only [AM.DB, List.length_set, List.length_map]; first | done | omega)) only [AM.RB, Nat.reduceAdd, Nat.reduceMul, Nat.reduceEqDiff, reduceCtorEq, b88_PR2, g12, g13, g14, g15]) | skip); (first | (refine AM.stabL_int (by omega) ?_; (simp (maxSteps := 1000000) (disch := first | omega | (simp only [AM.DB, List.length_set, List.length_map]; first | done | omega)) only [AM.RB, Nat.reduceAdd, Nat.reduceMul, Nat.reduceEqDiff, reduceCtorEq, b88_PR2, g12, g13, g14, g15])) | (refine AM.stabL_ptr (by omega) (by omega) ?_; (simp (maxSteps := 1000000) (disch := first | omega | (simp only [AM.DB, List.length_set, List.length_map]; first | done | omega)) only [AM.RB, Nat.reduceAdd, Nat.reduceMul, Nat.reduceEqDiff, reduceCtorEq, b88_PR2, g12, g13, g14, g15])) | (refine AM.stabL_string (by omega) ?_; (simp (maxSteps := 1000000) (disch := first | omega | (simp only [AM.DB, List.length_set, List.length_map]; first | done | omega)) only [AM.RB, Nat.reduceAdd, Nat.reduceMul, Nat.reduceEqDiff, reduceCtorEq, b88_PR2, g12, g13, g14, g15])) | (refine AM.stabL_bool (by omega) ?_; (simp (maxSteps := 1000000) (disch := first | omega | (simp only [AM.DB, List.length_set, List.length_map]; first | done | omega)) only [AM.RB, Nat.reduceAdd, Nat.reduceMul, Nat.reduceEqDiff, reduceCtorEq, b88_PR2, g12, g13, g14, g15])) | (refine AM.stabL_rd rb3 (by omega) (by omega) ?_; (simp (maxSteps := 1000000) (disch := first | omega | (simp only [AM.DB, List.length_set, List.length_map]; first | done | omega)) only [AM.RB, Nat.reduceAdd, Nat.reduceMul, Nat.reduceEqDiff, reduceCtorEq, b88_PR2, g12, g13, g14, g15])) | (refine AM.stabL_elS rb3 (by omega) (by omega) ?_; (simp (maxSteps := 1000000) (disch := first | omega | (simp only [AM.DB, List.length_set, List.length_map]; first | done | omega)) only [AM.RB, Nat.reduceAdd, Nat.reduceMul, Nat.reduceEqDiff, reduceCtorEq, b88_PR2, g12, g13, g14, g15])) | (refine AM.stabL_elI rb3 (by omega) (by omega) ?_; (simp (maxSteps := 1000000) (disch := first | omega | (simp only [AM.DB, List.length_set, List.length_map]; first | done | omega)) only [AM.RB, Nat.reduceAdd, Nat.reduceMul, Nat.reduceEqDiff, reduceCtorEq, b88_PR2, g12, g13, g14, g15]))))))
  (repeat' (first | (simp (maxSteps := 1000000) (disch := first | omega | (simp only [AM.DB, List.length_set, List.length_map]; first | done | omega)) only [AM.RB, Nat.reduceAdd, Nat.reduceMul, Nat.reduceEqDiff, reduceCtorEq, b88_PR2, g5]) | refine AM.drawW_loose (id := 1) hp (by kernel_rfl) (by kernel_rfl) ?_ | refine AM.opW_tied (by kernel_rfl) ?_ | refine AM.opW_untied (by kernel_rfl) ?_ | refine AM.build_w ?_))
  have e1 : ∀ id, h2.next ≤ id → ¬ id = h.next + 1 := fun id q => by omega
  refine hq _ _ _ _ _ _ _ (Fr.fresh (fr02.trans fr24) fr5 (fun id e => by have e : id = h.next + 1 := e; omega)) ⟨_, _, rfl, (o3.fr0 fr4).fr fr5 (fun id q => e1 id (hid3 id q)), o4.fr fr5 (fun id q => e1 id (by have := hid4 id q; omega)), fun id q => ?_, fun id q1 q2 => ?_⟩
  · rcases q with q | q
    · have := hid3 id q; omega
    · have := hid4 id q; omega
  · have := o3.lt q1; have := hid4 id q2; omega
set_option maxHeartbeats 4000000 in
theorem turn_w {h : AHeap} {L : List (List UInt8)} {s : St} {x : Sp} {n : Nat} {a b : Value} (m : May L s x) (hln : s.2.length = L.flatten.length) (st : StO n h (.agg #[a, b]) s) (hl : h.low ≤ h.next) {Q : VQ}
    (hq : ∀ h', StO n h' (.agg #[a, b]) (turnS s x) → Fr (fun id => idOf a id ∨ idOf b id) h h' → Q (.tuple #[]) h') : W 89 [.agg #[a, b], spV x] h Q := by
  obtain ⟨a', b', e, oa, ob, hid, hap⟩ := st
  cases e
  obtain ⟨aa, ac, rfl⟩ := oa.form
  obtain ⟨ba, bc, rfl⟩ := ob.form
  have d01 : decide ((0 : Int) = 1) = false := rfl
  have d02 : decide ((0 : Int) = 2) = false := rfl
  have d03 : decide ((0 : Int) = 3) = false := rfl
  have d21 : decide ((2 : Int) = 1) = false := rfl
  have d31 : decide ((3 : Int) = 1) = false := rfl
  have d32 : decide ((3 : Int) = 2) = false := rfl
  have d11 : decide ((1 : Int) = 1) = true := rfl
  have d22 : decide ((2 : Int) = 2) = true := rfl
  have d33 : decide ((3 : Int) = 3) = true := rfl
  refine AM.enter hp (fn := Tryd.f89) (rs := []) (nt := 31) (by kernel_rfl) Tryd.func89 rfl rfl rfl (by kernel_rfl) ?_
  simp (maxSteps := 1000000) (disch := first | omega | (simp only [AM.DB, List.length_set, List.length_map]; first | done | omega)) only [AM.RB, Nat.reduceAdd, Nat.reduceMul, Nat.reduceEqDiff, reduceCtorEq, b89_PR2]
  generalize hE_ : AHeap.alloc h _ = h1; obtain ⟨g1, fr1, n1, l1⟩ := AM.new_get hE_; clear hE_
  generalize hE_ : AHeap.alloc h1 _ = h2; obtain ⟨g2, fr2, n2, l2⟩ := AM.new_get hE_; clear hE_
  rw [n1] at g2
  have g12 := g1.fr0 fr2
  have fr02 := fr1.trans fr2
  have nx2 := fr02.next
  have lw2 := fr02.low
  have oa2 := oa.fr0 fr02
  have ob2 := ob.fr0 fr02
  cases m with
  | none =>
    (first | (simp (maxSteps := 1000000) (disch := first | omega | (simp only [AM.DB, List.length_set, List.length_map]; first | done | omega)) only [AM.RB, Nat.reduceAdd, Nat.reduceMul, Nat.reduceEqDiff, reduceCtorEq, b89_PR2, g12, g2, d01, d02, d03]) | skip)
    exact hq _ ⟨_, _, rfl, oa2, ob2, hid, hap⟩ (fr02.mono fun _ _ q => q.elim)
  | grant r c hr hf hc hh =>
    (first | (simp (maxSteps := 1000000) (disch := first | omega | (simp only [AM.DB, List.length_set, List.length_map]; first | done | omega)) only [AM.RB, Nat.reduceAdd, Nat.reduceMul, Nat.reduceEqDiff, reduceCtorEq, b89_PR2, g12, g2, d11, ob2.ia el_22, Int.toNat_natCast]) | skip)
    refine ob2.st sz_3 (j := c) (by omega) rfl rfl fun h3 o3 fr3 n3 => ?_
    rw [map_set'] at o3
    (first | (simp (maxSteps := 1000000) (disch := first | omega | (simp only [AM.DB, List.length_set, List.length_map]; first | done | omega)) only [AM.RB, Nat.reduceAdd, Nat.reduceMul, Nat.reduceEqDiff, reduceCtorEq, b89_PR2]) | skip)
    refine hq _ ⟨_, _, rfl, oa2.fr fr3 hap, ?_, hid, hap⟩ ((fr02.mono fun _ _ q => q.elim).trans (fr3.mono fun _ _ q => .inr q))
    have e : (turnS s (1, (r : Int), (c : Int))).2 = s.2.set c r := rfl
    rw [e, List.length_set]; exact o3
  | release r c hr hf hc hh hn =>
    (first | (simp (maxSteps := 1000000) (disch := first | omega | (simp only [AM.DB, List.length_set, List.length_map]; first | done | omega)) only [AM.RB, Nat.reduceAdd, Nat.reduceMul, Nat.reduceEqDiff, reduceCtorEq, b89_PR2, g12, g2, d21, d22, ob2.ia el_22, Int.toNat_natCast]) | skip)
    refine ob2.st sz_3 (j := c) (by omega) rfl rfl fun h3 o3 fr3 n3 => ?_
    rw [map_set'] at o3
    (first | (simp (maxSteps := 1000000) (disch := first | omega | (simp only [AM.DB, List.length_set, List.length_map]; first | done | omega)) only [AM.RB, Nat.reduceAdd, Nat.reduceMul, Nat.reduceEqDiff, reduceCtorEq, b89_PR2]) | skip)
    refine hq _ ⟨_, _, rfl, oa2.fr fr3 hap, ?_, hid, hap⟩ ((fr02.mono fun _ _ q => q.elim).trans (fr3.mono fun _ _ q => .inr q))
    have e : (turnS s (2, (r : Int), (c : Int))).2 = s.2.set c (-1) := rfl
    rw [e, List.length_set]; exact o3
  | move r c hr hf hc hh he =>
    (first | (simp (maxSteps := 1000000) (disch := first | omega | (simp only [AM.DB, List.length_set, List.length_map]; first | done | omega)) only [AM.RB, Nat.reduceAdd, Nat.reduceMul, Nat.reduceEqDiff, reduceCtorEq, b89_PR2, g12, g2, d31, d32, d33, oa2.ia el_22, Int.toNat_natCast]) | skip)
    refine oa2.st sz_3 (j := r) (by omega) rfl rfl fun h3 o3 fr3 n3 => ?_
    rw [map_set'] at o3
    (first | (simp (maxSteps := 1000000) (disch := first | omega | (simp only [AM.DB, List.length_set, List.length_map]; first | done | omega)) only [AM.RB, Nat.reduceAdd, Nat.reduceMul, Nat.reduceEqDiff, reduceCtorEq, b89_PR2]) | skip)
    refine hq _ ⟨_, _, rfl, ?_, ob2.fr fr3 (fun id q1 q2 => hap id q2 q1), hid, hap⟩ ((fr02.mono fun _ _ q => q.elim).trans (fr3.mono fun _ _ q => .inl q))
    have e : (turnS s (3, (r : Int), (c : Int))).1 = s.1.set r c := rfl
    rw [e, List.length_set]; exact o3
set_option maxHeartbeats 4000000 in
theorem pMay_w {h : AHeap} {p : Nat} {L : List (List UInt8)} {B : Nat → Prop} {v : Value} {s : St} (m : Mk h p L B) (f : Fit L) (hw : h.get GW = some (.cells waysC 166 false)) (hgl : GW < h.low) (hl : h.low ≤ h.next) (hs : StR h v s) (x : Sp) {Q : VQ}
    (hq : ∀ h', Mk h' p L B → Fr (fun id => id = p) h h' → Q (.int .i64 (if (chk L.flatten s && may L s x) = true then 0 else 250)) h') : W 51 [pv p, v, spV x] h Q := by
  obtain ⟨a, b, rfl, ra, rb⟩ := id hs
  obtain ⟨aa, ac, rfl⟩ := ra.form
  obtain ⟨ba, bc, rfl⟩ := rb.form
  have d250 : decide ((250 : Int) = 0) = false := rfl
  have d00 : decide ((0 : Int) = 0) = true := rfl
  refine AM.enter hp (fn := Tryd.f51) (rs := [.tmp 6]) (nt := 19) (by kernel_rfl) Tryd.func51 rfl rfl rfl (by kernel_rfl) ?_
  simp (maxSteps := 1000000) (disch := first | omega | (simp only [AM.DB, List.length_set, List.length_map]; first | done | omega)) only [AM.RB, Nat.reduceAdd, Nat.reduceMul, Nat.reduceEqDiff, reduceCtorEq, b51_PR2]
  generalize hE_ : AHeap.alloc h _ = h1; obtain ⟨g1, fr1, n1, l1⟩ := AM.new_get hE_; clear hE_
  generalize hE_ : AHeap.alloc h1 _ = h2; obtain ⟨g2, fr2, n2, l2⟩ := AM.new_get hE_; clear hE_
  rw [n1] at g2
  have g12 := g1.fr0 fr2
  have fr02 := fr1.trans fr2
  have nx2 := fr02.next
  have lw2 := fr02.low
  obtain ⟨_, _, mm2⟩ := (m.fr0 fr02).mp
  (first | (simp (maxSteps := 1000000) (disch := first | omega | (simp only [AM.DB, List.length_set, List.length_map]; first | done | omega)) only [AM.RB, Nat.reduceAdd, Nat.reduceMul, Nat.reduceEqDiff, reduceCtorEq, b51_PR2, g12]) | skip)
  refine check_w mm2 f (hs.fr0 fr02) (by omega) fun h3 fr3 => ?_
  have fr03 := fr02.trans fr3
  have nx3 := fr3.next
  have lw3 := fr3.low
  cases hc : chk L.flatten s
  · rw [hc] at hq
    simp only [Bool.false_and, Bool.false_eq_true, if_false] at hq ⊢
    (first | (simp (maxSteps := 1000000) (disch := first | omega | (simp only [AM.DB, List.length_set, List.length_map]; first | done | omega)) only [AM.RB, Nat.reduceAdd, Nat.reduceMul, Nat.reduceEqDiff, reduceCtorEq, b51_PR2, d250]) | skip)
    exact hq _ (m.fr0 fr03) (fr03.mono fun _ _ q => q.elim)
  rw [hc] at hq
  simp only [Bool.true_and, if_true] at hq ⊢
  have hx_1 := g12.fr0 fr3
  have hx_2 := g2.fr0 fr3
  (first | (simp (maxSteps := 1000000) (disch := first | omega | (simp only [AM.DB, List.length_set, List.length_map]; first | done | omega)) only [AM.RB, Nat.reduceAdd, Nat.reduceMul, Nat.reduceEqDiff, reduceCtorEq, b51_PR2, d00, hx_1, hx_2]) | skip)
  refine pmay_w (m.fr0 fr03) f (hw.fr0 fr03) (by omega) (by omega) (hs.fr0 fr03) (((chk_iff _ _).1 hc).ln) x fun h4 m4 fr4 => ?_
  have toP := (fr03.mono fun _ _ q => q.elim).trans fr4
  cases hm : may L s x
  · rw [hm] at hq
    simp only [Bool.false_eq_true, if_false] at hq
    (first | (simp (maxSteps := 1000000) (disch := first | omega | (simp only [AM.DB, List.length_set, List.length_map]; first | done | omega)) only [AM.RB, Nat.reduceAdd, Nat.reduceMul, Nat.reduceEqDiff, reduceCtorEq, b51_PR2]) | skip)
    exact hq _ m4 toP
  · rw [hm] at hq
    simp only [if_true] at hq
    (first | (simp (maxSteps := 1000000) (disch := first | omega | (simp only [AM.DB, List.length_set, List.length_map]; first | done | omega)) only [AM.RB, Nat.reduceAdd, Nat.reduceMul, Nat.reduceEqDiff, reduceCtorEq, b51_PR2]) | skip)
    exact hq _ m4 toP
set_option maxHeartbeats 4000000 in
theorem pDo_w {h : AHeap} {p : Nat} {L : List (List UInt8)} {B : Nat → Prop} {v : Value} {s : St} (m : Mk h p L B) (f : Fit L) (hw : h.get GW = some (.cells waysC 166 false)) (hgl : GW < h.low) (hl : h.low ≤ h.next) (hs : StR h v s) (hvp : ∀ a b, v = .agg #[a, b] → ∀ id, idOf a id ∨ idOf b id → id ≠ p) (hn1 : s.1.length ≤ 4000000) (hn2 : s.2.length ≤ 4000000) (x : Sp) {Q : VQ}
    (hq : ∀ a1 m1 c1 a2 m2 c2 h', Mk h' p L (fun id => B id ∨ idOf (.slice a1 m1 c1) id ∨ idOf (.slice a2 m2 c2) id) → Fr (fun id => id = p) h h' → ((chk L.flatten s && may L s x) = true → StO h.next h' (.agg #[.slice a1 m1 c1, .slice a2 m2 c2]) (turnS s x)) → Q (.tuple #[.agg #[.slice a1 m1 c1, .slice a2 m2 c2], .int .i64 (if (chk L.flatten s && may L s x) = true then 0 else 250)]) h') : W 50 [pv p, v, spV x] h Q := by
  obtain ⟨a, b, rfl, ra, rb⟩ := id hs
  obtain ⟨aa, ac, rfl⟩ := ra.form
  obtain ⟨ba, bc, rfl⟩ := rb.form
  have hlt := m.lt
  have d250 : decide ((250 : Int) = 0) = false := rfl
  have d00 : decide ((0 : Int) = 0) = true := rfl
  refine AM.enter hp (fn := Tryd.f50) (rs := [.cell 6 59, .tmp 7]) (nt := 24) (by kernel_rfl) Tryd.func50 rfl rfl rfl (by kernel_rfl) ?_
  simp (maxSteps := 1000000) (disch := first | omega | (simp only [AM.DB, List.length_set, List.length_map]; first | done | omega)) only [AM.RB, Nat.reduceAdd, Nat.reduceMul, Nat.reduceEqDiff, reduceCtorEq, b50_PR2]
  generalize hE_ : AHeap.alloc h _ = h1; obtain ⟨g1, fr1, n1, l1⟩ := AM.new_get hE_; clear hE_
  generalize hE_ : AHeap.alloc h1 _ = h2; obtain ⟨g2, fr2, n2, l2⟩ := AM.new_get hE_; clear hE_
  rw [n1] at g2
  generalize hE_ : AHeap.alloc h2 _ = h3; obtain ⟨g3, fr3, n3, l3⟩ := AM.new_get hE_; clear hE_
  rw [n2, n1] at g3
  have fr03 := (fr1.trans fr2).trans fr3
  have g13 := (g1.fr0 fr2).fr0 fr3
  have g23 := g2.fr0 fr3
  have nx3 := fr03.next
  have lw3 := fr03.low
  have m3 := m.fresh fr03
  (repeat' (first | (simp (maxSteps := 1000000) (disch := first | omega | (simp only [AM.DB, List.length_set, List.length_map]; first | done | omega)) only [AM.RB, Nat.reduceAdd, Nat.reduceMul, Nat.reduceEqDiff, reduceCtorEq, b50_PR2, g13, g23]) | refine AM.build_w ?_))
  refine pMay_w m3 f (hw.fr0 fr03) (by omega) (by omega) (hs.fr0 fr03) x fun h4 m4 fr4 => ?_
  have nx4 := fr4.next
  have lw4 := fr4.low
  have g14 := fr4.get g13 (show ¬ h.next = p by omega)
  have g24 := fr4.get g23 (show ¬ h.next + 1 = p by omega)
  have g34 := fr4.get g3 (show ¬ h.next + 1 + 1 = p by omega)
  have toP := (fr03.mono (T := fun id => id = p) fun _ _ q => q.elim).trans fr4
  cases hb : (chk L.flatten s && may L s x)
  · rw [hb] at hq
    simp only [Bool.false_eq_true, if_false] at hq ⊢
    (repeat' (first | (simp (maxSteps := 1000000) (disch := first | omega | (simp only [AM.DB, List.length_set, List.length_map]; first | done | omega)) only [AM.RB, Nat.reduceAdd, Nat.reduceMul, Nat.reduceEqDiff, reduceCtorEq, b50_PR2, d250, g34]) | refine AM.build_w ?_))
    generalize hE_ : AHeap.put h4 _ _ = h5; obtain ⟨g5, fr5, n5, l5⟩ := AM.put_get hE_ (by omega); clear hE_
    (repeat' (first | (simp (maxSteps := 1000000) (disch := first | omega | (simp only [AM.DB, List.length_set, List.length_map]; first | done | omega)) only [AM.RB, Nat.reduceAdd, Nat.reduceMul, Nat.reduceEqDiff, reduceCtorEq, b50_PR2, g5]) | refine AM.build_w ?_))
    refine hq _ _ _ _ _ _ _ (((m4.frB fr5 (fun id e => .inr (by have e : id = h.next + 1 + 1 := e; omega))).sub fun id q => ?_)) (toP.then fr5 (fun id q1 e => by have e : id = h.next + 1 + 1 := e; omega)) (fun e => by cases e)
    rcases q with q | q | q
    · exact .inl q
    · exact q.elim
    · exact q.elim
  rw [hb] at hq
  simp only [if_true] at hq ⊢
  have hs4 : StR h4 (.agg #[.slice aa s.1.length ac, .slice ba s.2.length bc]) s := (hs.fr0 fr03).frp (fun x y e => by
    cases e
    exact ⟨fun id q => hvp _ _ rfl id (.inl q), fun id q => hvp _ _ rfl id (.inr q)⟩) fr4
  (repeat' (first | (simp (maxSteps := 1000000) (disch := first | omega | (simp only [AM.DB, List.length_set, List.length_map]; first | done | omega)) only [AM.RB, Nat.reduceAdd, Nat.reduceMul, Nat.reduceEqDiff, reduceCtorEq, b50_PR2, d00, g14]) | refine AM.build_w ?_))
  refine twin_w hs4 (by omega) (by omega) (by omega) fun a1 m1 c1 a2 m2 c2 h5 fr5 st5 => ?_
  have nx5 := fr5.next
  have lw5 := fr5.low
  have g25 := g24.fr0 fr5
  have g35 := g34.fr0 fr5
  have m5 := m4.fresh fr5
  rw [Bool.and_eq_true] at hb
  have ch := (chk_iff _ _).1 hb.1
  have my := (may_iff _ _ _).1 hb.2
  (repeat' (first | (simp (maxSteps := 1000000) (disch := first | omega | (simp only [AM.DB, List.length_set, List.length_map]; first | done | omega)) only [AM.RB, Nat.reduceAdd, Nat.reduceMul, Nat.reduceEqDiff, reduceCtorEq, b50_PR2, g25]) | refine AM.build_w ?_))
  generalize hE_ : AHeap.put (AHeap.alloc h5 _) _ _ = h6; obtain ⟨g6, fr6, n6, l6⟩ := AM.box_get hE_ (by omega); clear hE_
  have nx6 := fr6.next
  have lw6 := fr6.low
  have m6 := m5.fresh fr6
  have hx_3 := g25.fr0 fr6
  (repeat' (first | (simp (maxSteps := 1000000) (disch := first | omega | (simp only [AM.DB, List.length_set, List.length_map]; first | done | omega)) only [AM.RB, Nat.reduceAdd, Nat.reduceMul, Nat.reduceEqDiff, reduceCtorEq, b50_PR2, g6, hx_3]) | refine AM.build_w ?_))
  have hlt5 : ∀ id, idOf (.slice a1 m1 c1) id ∨ idOf (.slice a2 m2 c2) id → h4.next ≤ id ∧ id < h5.next := fun id q => by
    obtain ⟨x1, x2, e, o1, o2, hid, _⟩ := st5
    cases e
    refine ⟨hid id q, ?_⟩
    rcases q with q | q
    · exact o1.lt q
    · exact o2.lt q
  refine turn_w my ch.ln (st5.fr0 fr6) (by omega) fun h7 st7 fr7 => ?_
  have nx7 := fr7.next
  have lw7 := fr7.low
  have g67 := fr7.get g6 (fun q => by have := hlt5 _ q; omega)
  have g37 := fr7.get (g35.fr0 fr6) (fun q => by have := hlt5 _ q; omega)
  have m7 := m6.frB fr7 (fun id q => .inl (.inr (hlt5 id q)))
  (repeat' (first | (simp (maxSteps := 1000000) (disch := first | omega | (simp only [AM.DB, List.length_set, List.length_map]; first | done | omega)) only [AM.RB, Nat.reduceAdd, Nat.reduceMul, Nat.reduceEqDiff, reduceCtorEq, b50_PR2, g67, g37]) | refine AM.build_w ?_))
  generalize hE_ : AHeap.put h7 _ _ = h8; obtain ⟨g8, fr8, n8, l8⟩ := AM.put_get hE_ (by omega); clear hE_
  (repeat' (first | (simp (maxSteps := 1000000) (disch := first | omega | (simp only [AM.DB, List.length_set, List.length_map]; first | done | omega)) only [AM.RB, Nat.reduceAdd, Nat.reduceMul, Nat.reduceEqDiff, reduceCtorEq, b50_PR2, g8]) | refine AM.build_w ?_))
  have frF := (((toP.trans ((fr5.trans fr6).mono fun _ _ q => q.elim)).then fr7 (fun id q1 q2 => by have := (hlt5 id q2).1; omega)).then fr8 (fun id q1 e => by have e : id = h.next + 1 + 1 := e; omega))
  refine hq _ _ _ _ _ _ _ ((m7.frB fr8 (fun id e => .inl (.inl (.inr (by have e : id = h.next + 1 + 1 := e; omega))))).sub fun id q => ?_) frF (fun _ => ((st7.fr fr8 (fun id q e => by have e : id = h.next + 1 + 1 := e; omega)).weak (by omega)))
  rcases q with q | q
  · exact .inl (.inl (.inl q))
  · exact .inl (.inr (hlt5 id q))

end Go.Proofs.YtbaohngkapmhlaaDoor
