/- Walks of this claim's functions, and plain laws. -/
import Derived.Test.YtbaohngkapmhlaaDoorWd
import Derived.Test.YtbaohngkapmhlaaDoorAMOps7
import Derived.Test.YtbaohngkapmhlaaDoorAMIter3
set_option linter.unusedSimpArgs false
set_option linter.unusedVariables false
namespace Go.Proofs.YtbaohngkapmhlaaDoor
open Go.AM
set_option maxRecDepth 8000
theorem b84_PC3 : type_of% (And.intro (@AM.andO_some) (And.intro (@AM.bdV_some) (And.intro (@bd_65) (And.intro (AM.bin_agg_eql se_65) (And.intro (@AM.bin_eql) (And.intro (@AM.bin_geq) (And.intro (@AM.bin_lss) (And.intro (@AM.bin_neq) (And.intro (@AM.boxK_agg) (And.intro (@AM.boxK_bool) (And.intro (@AM.boxK_func) (And.intro (@AM.boxK_int) (And.intro (@AM.boxK_map) (And.intro (@AM.boxK_pointer) (And.intro (@AM.boxK_slice) (And.intro (@AM.boxK_string) (And.intro (@AM.eqL_cons) (And.intro (@AM.eqL_nil) (And.intro (@AM.eqS_bool) (And.intro (@AM.eqS_int) (And.intro (@AM.eqS_string) (And.intro (@AM.fa_ptr) (And.intro (@fd_59_0) (And.intro (@fd_59_1) (And.intro (@fd_65_0) (And.intro (@fd_65_1) (And.intro (@fd_65_2) (And.intro (@AM.fillL_cons) (And.intro (@AM.fillL_nil) (And.intro (@AM.fillS_agg) (And.intro (@AM.fillS_bool) (And.intro (@AM.fillS_func) (And.intro (@AM.fillS_int) (And.intro (@AM.fillS_map) (And.intro (@AM.fillS_pointer) (And.intro (@AM.fillS_slice) (And.intro (@AM.fillS_string) (And.intro (@AM.iaO_ok) (And.intro (AM.ia_slice el_22) (And.intro (@AM.ldO_agg) (And.intro (@AM.ldO_one) (And.intro (@AM.ld_ptr) (And.intro (AM.len_slice ul_22) (And.intro (@lk_22) (And.intro (@lk_3) (And.intro (@lk_65) (And.intro (@AM.op_binOp) (And.intro (@AM.op_box) (And.intro (@AM.op_build) (And.intro (@AM.op_call) (And.intro (@AM.op_fieldAddr) (And.intro (@AM.op_indexAddr) (And.intro (@AM.op_len) (And.intro (@AM.op_load) (And.intro (@AM.op_unOp) (And.intro (@AM.un_neg) (@AM.un_not))))))))))))))))))))))))))))))))))))))))))))))))))))))))) := And.intro (@AM.andO_some) (And.intro (@AM.bdV_some) (And.intro (@bd_65) (And.intro (AM.bin_agg_eql se_65) (And.intro (@AM.bin_eql) (And.intro (@AM.bin_geq) (And.intro (@AM.bin_lss) (And.intro (@AM.bin_neq) (And.intro (@AM.boxK_agg) (And.intro (@AM.boxK_bool) (And.intro (@AM.boxK_func) (And.intro (@AM.boxK_int) (And.intro (@AM.boxK_map) (And.intro (@AM.boxK_pointer) (And.intro (@AM.boxK_slice) (And.intro (@AM.boxK_string) (And.intro (@AM.eqL_cons) (And.intro (@AM.eqL_nil) (And.intro (@AM.eqS_bool) (And.intro (@AM.eqS_int) (And.intro (@AM.eqS_string) (And.intro (@AM.fa_ptr) (And.intro (@fd_59_0) (And.intro (@fd_59_1) (And.intro (@fd_65_0) (And.intro (@fd_65_1) (And.intro (@fd_65_2) (And.intro (@AM.fillL_cons) (And.intro (@AM.fillL_nil) (And.intro (@AM.fillS_agg) (And.intro (@AM.fillS_bool) (And.intro (@AM.fillS_func) (And.intro (@AM.fillS_int) (And.intro (@AM.fillS_map) (And.intro (@AM.fillS_pointer) (And.intro (@AM.fillS_slice) (And.intro (@AM.fillS_string) (And.intro (@AM.iaO_ok) (And.intro (AM.ia_slice el_22) (And.intro (@AM.ldO_agg) (And.intro (@AM.ldO_one) (And.intro (@AM.ld_ptr) (And.intro (AM.len_slice ul_22) (And.intro (@lk_22) (And.intro (@lk_3) (And.intro (@lk_65) (And.intro (@AM.op_binOp) (And.intro (@AM.op_box) (And.intro (@AM.op_build) (And.intro (@AM.op_call) (And.intro (@AM.op_fieldAddr) (And.intro (@AM.op_indexAddr) (And.intro (@AM.op_len) (And.intro (@AM.op_load) (And.intro (@AM.op_unOp) (And.intro (@AM.un_neg) (@AM.un_not))))))))))))))))))))))))))))))))))))))))))))))))))))))))
theorem b83_PC3 : type_of% (And.intro (@AM.bin_add) (And.intro (@AM.bin_geq) (And.intro (@AM.bin_lss) (And.intro (@AM.bin_neq) (And.intro (@AM.iaO_ok) (And.intro (AM.ia_slice el_22) (And.intro (@AM.ldO_agg) (And.intro (@AM.ldO_one) (And.intro (@AM.ld_ptr) (And.intro (AM.len_slice ul_22) (And.intro (@lk_3) (And.intro (@AM.op_binOp) (And.intro (@AM.op_indexAddr) (And.intro (@AM.op_len) (And.intro (@AM.op_load) (@AM.resL_two)))))))))))))))) := And.intro (@AM.bin_add) (And.intro (@AM.bin_geq) (And.intro (@AM.bin_lss) (And.intro (@AM.bin_neq) (And.intro (@AM.iaO_ok) (And.intro (AM.ia_slice el_22) (And.intro (@AM.ldO_agg) (And.intro (@AM.ldO_one) (And.intro (@AM.ld_ptr) (And.intro (AM.len_slice ul_22) (And.intro (@lk_3) (And.intro (@AM.op_binOp) (And.intro (@AM.op_indexAddr) (And.intro (@AM.op_len) (And.intro (@AM.op_load) (@AM.resL_two)))))))))))))))


abbrev spV (x : Sp) : Value := .agg #[.int .i64 x.1, .int .i64 x.2.1, .int .i64 x.2.2]
theorem StR.frp {h h' : AHeap} {v : Value} {s : St} {T : Nat → Prop} (x : StR h v s) (hT : ∀ a b, v = .agg #[a, b] → (∀ id, idOf a id → ¬ T id) ∧ ∀ id, idOf b id → ¬ T id) (fr : Fr T h h') : StR h' v s := by
  obtain ⟨a, b, rfl, ra, rb⟩ := x
  obtain ⟨t1, t2⟩ := hT a b rfl
  exact ⟨a, b, rfl, ra.fr fr t1, rb.fr fr t2⟩
set_option maxHeartbeats 4000000 in
theorem pmay_w {h : AHeap} {p : Nat} {L : List (List UInt8)} {B : Nat → Prop} {v : Value} {s : St} (m : Mk h p L B) (f : Fit L) (hw : h.get GW = some (.cells waysC 166 false)) (hgl : GW < h.low) (hl : h.low ≤ h.next) (hs : StR h v s) (hn : s.2.length = L.flatten.length) (x : Sp) {Q : VQ}
    (hq : ∀ h', Mk h' p L B → Fr (fun id => id = p) h h' → Q (.bool (may L s x)) h') : W 84 [pv p, v, spV x] h Q := by
  obtain ⟨k, r, c⟩ := x
  obtain ⟨a, b, rfl, ra, rb⟩ := hs
  obtain ⟨aa, ac, rfl⟩ := ra.form
  obtain ⟨ba, bc, rfl⟩ := rb.form
  refine AM.enter hp (fn := Tryd.f84) (rs := [.tmp 6]) (nt := 79) (by kernel_rfl) Tryd.func84 rfl rfl rfl (by kernel_rfl) ?_
  simp (maxSteps := 1000000) (disch := first | omega | (simp only [AM.DB, List.length_set, List.length_map]; first | done | omega)) only [AM.RB, Nat.reduceAdd, Nat.reduceMul, Nat.reduceEqDiff, reduceCtorEq, b84_PC3]
  generalize hE_ : AHeap.alloc h _ = h1; obtain ⟨g1, fr1, n1, l1⟩ := AM.new_get hE_; clear hE_
  generalize hE_ : AHeap.alloc h1 _ = h2; obtain ⟨g2, fr2, n2, l2⟩ := AM.new_get hE_; clear hE_
  rw [n1] at g2
  have g12 := g1.fr0 fr2
  have fr02 := fr1.trans fr2
  have m2 := m.fr0 fr02
  have ra2 := ra.fr0 fr02
  have rb2 := rb.fr0 fr02
  have hw2 := hw.fr0 fr02
  have lw2 := fr02.low
  have nx2 := fr02.next
  have toP : ∀ {h'}, Fr (fun id => id = p) h2 h' → Fr (fun id => id = p) h h' := fun fr => (fr02.mono (fun _ _ q => q.elim)).trans fr
  have fin : Fr (fun id => id = p) h h2 := fr02.mono fun _ _ q => q.elim
  obtain ⟨kv, tl, mm⟩ := m2.mp
  by_cases k0 : k = 0
  · subst k0
    have e : may L s (0, r, c) = (decide (r = 0) && decide (c = 0)) := by unfold may; rw [if_pos rfl]
    rw [e] at hq
    cases r0 : decide (r = 0) <;> cases c0 : decide (c = 0) <;> rw [r0, c0] at hq
    all_goals (
      (repeat' (first | (simp (maxSteps := 1000000) (disch := first | omega | (simp only [AM.DB, List.length_set, List.length_map]; first | done | omega)) only [AM.RB, Nat.reduceAdd, Nat.reduceMul, Nat.reduceEqDiff, reduceCtorEq, b84_PC3, g12, g2, r0, c0]) | refine AM.drawW_fine hp (by kernel_rfl) (by kernel_rfl) (by kernel_rfl) ?_ | refine AM.opW_tied (by kernel_rfl) ?_ | refine AM.opW_untied (by kernel_rfl) ?_ | refine AM.build_w ?_))
      first | exact hq _ m2 fin | skip)
  have dk0 : decide (k = 0) = false := decide_eq_false k0
  by_cases r0 : r < 0
  · have e : may L s (k, r, c) = false := by unfold may; rw [if_neg k0, decide_eq_false (show ¬ 0 ≤ r by omega)]; rfl
    rw [e] at hq
    (repeat' (first | (simp (maxSteps := 1000000) (disch := first | omega | (simp only [AM.DB, List.length_set, List.length_map]; first | done | omega)) only [AM.RB, Nat.reduceAdd, Nat.reduceMul, Nat.reduceEqDiff, reduceCtorEq, b84_PC3, g12, g2, dk0, decide_eq_true r0]) | refine AM.drawW_fine hp (by kernel_rfl) (by kernel_rfl) (by kernel_rfl) ?_ | refine AM.opW_tied (by kernel_rfl) ?_ | refine AM.opW_untied (by kernel_rfl) ?_ | refine AM.build_w ?_))
    exact hq _ m2 fin
  by_cases r1 : (s.1.length : Int) ≤ r
  · have e : may L s (k, r, c) = false := by unfold may; rw [if_neg k0, decide_eq_false (show ¬ r < s.1.length by omega), Bool.and_false]; rfl
    rw [e] at hq
    (repeat' (first | (simp (maxSteps := 1000000) (disch := first | omega | (simp only [AM.DB, List.length_set, List.length_map]; first | done | omega)) only [AM.RB, Nat.reduceAdd, Nat.reduceMul, Nat.reduceEqDiff, reduceCtorEq, b84_PC3, g12, g2, dk0, decide_eq_false r0, decide_eq_true r1]) | refine AM.drawW_fine hp (by kernel_rfl) (by kernel_rfl) (by kernel_rfl) ?_ | refine AM.opW_tied (by kernel_rfl) ?_ | refine AM.opW_untied (by kernel_rfl) ?_ | refine AM.build_w ?_))
    exact hq _ m2 fin
  (repeat' (first | (simp (maxSteps := 1000000) (disch := first | omega | (simp only [AM.DB, List.length_set, List.length_map]; first | done | omega)) only [AM.RB, Nat.reduceAdd, Nat.reduceMul, Nat.reduceEqDiff, reduceCtorEq, b84_PC3, g12, g2, dk0, decide_eq_false r0, decide_eq_false r1]) | refine AM.drawW_fine hp (by kernel_rfl) (by kernel_rfl) (by kernel_rfl) ?_ | refine AM.opW_tied (by kernel_rfl) ?_ | refine AM.opW_untied (by kernel_rfl) ?_ | refine AM.build_w ?_))
  refine free_w mm f.rows c _ ?_
  have dr0 : decide (0 ≤ r) = true := decide_eq_true (by omega)
  have dr1 : decide (r < (s.1.length : Int)) = true := decide_eq_true (by omega)
  cases fc : freeP L.flatten c
  · have e : may L s (k, r, c) = false := by unfold may; rw [if_neg k0, fc, Bool.and_false]; rfl
    rw [e] at hq
    (repeat' (first | (simp (maxSteps := 1000000) (disch := first | omega | (simp only [AM.DB, List.length_set, List.length_map]; first | done | omega)) only [AM.RB, Nat.reduceAdd, Nat.reduceMul, Nat.reduceEqDiff, reduceCtorEq, b84_PC3]) | refine AM.drawW_fine hp (by kernel_rfl) (by kernel_rfl) (by kernel_rfl) ?_ | refine AM.opW_tied (by kernel_rfl) ?_ | refine AM.opW_untied (by kernel_rfl) ?_ | refine AM.build_w ?_))
    exact hq _ m2 fin
  obtain ⟨c1, c2⟩ := freeP_in fc
  obtain ⟨c, rfl⟩ := Int.eq_ofNat_of_zero_le c1
  obtain ⟨r, rfl⟩ := Int.eq_ofNat_of_zero_le (show 0 ≤ r by omega)
  have hcl : c < s.2.length := by omega
  have hrl : r < s.1.length := by omega
  obtain ⟨at_, hat⟩ : ∃ y, s.1.getD r 0 = y := ⟨_, rfl⟩
  obtain ⟨ho, hho⟩ : ∃ y, s.2.getD c 0 = y := ⟨_, rfl⟩
  have e : may L s (k, r, c) = (if k = 1 then decide (ho = -1) else if k = 2 then decide (ho = r) && !decide (at_ = c) else if k = 3 then decide (ho = r) && edgeL L at_ c else false) := by
    unfold may
    simp only [Int.toNat_natCast]
    rw [if_neg k0, fc, dr0, dr1]
    simp only [hat, hho, Bool.and_self, Bool.true_and]
  rw [e] at hq
  (repeat' (first | (simp (maxSteps := 1000000) (disch := first | omega | (simp only [AM.DB, List.length_set, List.length_map]; first | done | omega)) only [AM.RB, Nat.reduceAdd, Nat.reduceMul, Nat.reduceEqDiff, reduceCtorEq, b84_PC3, g12, g2, ra2.ia el_22, Rd.ldi ra2 lk_3, rb2.ia el_22, Rd.ldi rb2 lk_3, Int.toNat_natCast, hat, hho]) | refine AM.drawW_fine hp (by kernel_rfl) (by kernel_rfl) (by kernel_rfl) ?_ | refine AM.opW_tied (by kernel_rfl) ?_ | refine AM.opW_untied (by kernel_rfl) ?_ | refine AM.build_w ?_))
  by_cases k1 : k = 1
  · rw [if_pos k1] at hq
    (repeat' (first | (simp (maxSteps := 1000000) (disch := first | omega | (simp only [AM.DB, List.length_set, List.length_map]; first | done | omega)) only [AM.RB, Nat.reduceAdd, Nat.reduceMul, Nat.reduceEqDiff, reduceCtorEq, b84_PC3, g12, g2, decide_eq_true k1]) | refine AM.drawW_fine hp (by kernel_rfl) (by kernel_rfl) (by kernel_rfl) ?_ | refine AM.opW_tied (by kernel_rfl) ?_ | refine AM.opW_untied (by kernel_rfl) ?_ | refine AM.build_w ?_))
    exact hq _ m2 fin
  by_cases k2 : k = 2
  · rw [if_neg k1, if_pos k2] at hq
    cases d1 : decide (ho = (r : Int)) <;> rw [d1] at hq
    · (repeat' (first | (simp (maxSteps := 1000000) (disch := first | omega | (simp only [AM.DB, List.length_set, List.length_map]; first | done | omega)) only [AM.RB, Nat.reduceAdd, Nat.reduceMul, Nat.reduceEqDiff, reduceCtorEq, b84_PC3, g12, g2, decide_eq_false k1, decide_eq_true k2, d1]) | refine AM.drawW_fine hp (by kernel_rfl) (by kernel_rfl) (by kernel_rfl) ?_ | refine AM.opW_tied (by kernel_rfl) ?_ | refine AM.opW_untied (by kernel_rfl) ?_ | refine AM.build_w ?_))
      exact hq _ m2 fin
    · cases d2 : decide (at_ = (c : Int)) <;> rw [d2] at hq
      all_goals (
        (repeat' (first | (simp (maxSteps := 1000000) (disch := first | omega | (simp only [AM.DB, List.length_set, List.length_map]; first | done | omega)) only [AM.RB, Nat.reduceAdd, Nat.reduceMul, Nat.reduceEqDiff, reduceCtorEq, b84_PC3, g12, g2, decide_eq_false k1, decide_eq_true k2, d1, d2]) | refine AM.drawW_fine hp (by kernel_rfl) (by kernel_rfl) (by kernel_rfl) ?_ | refine AM.opW_tied (by kernel_rfl) ?_ | refine AM.opW_untied (by kernel_rfl) ?_ | refine AM.build_w ?_))
        first | exact hq _ m2 fin | skip)
  by_cases k3 : k = 3
  · rw [if_neg k1, if_neg k2, if_pos k3] at hq
    cases d1 : decide (ho = (r : Int)) <;> rw [d1] at hq
    · (repeat' (first | (simp (maxSteps := 1000000) (disch := first | omega | (simp only [AM.DB, List.length_set, List.length_map]; first | done | omega)) only [AM.RB, Nat.reduceAdd, Nat.reduceMul, Nat.reduceEqDiff, reduceCtorEq, b84_PC3, g12, g2, decide_eq_false k1, decide_eq_false k2, decide_eq_true k3, d1]) | refine AM.drawW_fine hp (by kernel_rfl) (by kernel_rfl) (by kernel_rfl) ?_ | refine AM.opW_tied (by kernel_rfl) ?_ | refine AM.opW_untied (by kernel_rfl) ?_ | refine AM.build_w ?_))
      exact hq _ m2 fin
    · (repeat' (first | (simp (maxSteps := 1000000) (disch := first | omega | (simp only [AM.DB, List.length_set, List.length_map]; first | done | omega)) only [AM.RB, Nat.reduceAdd, Nat.reduceMul, Nat.reduceEqDiff, reduceCtorEq, b84_PC3, g12, g2, decide_eq_false k1, decide_eq_false k2, decide_eq_true k3, d1]) | refine AM.drawW_fine hp (by kernel_rfl) (by kernel_rfl) (by kernel_rfl) ?_ | refine AM.opW_tied (by kernel_rfl) ?_ | refine AM.opW_untied (by kernel_rfl) ?_ | refine AM.build_w ?_))
      refine edgeK_w m2 f hw2 (by omega) (by omega) _ _ fun h3 m3 fr3 => ?_
      rw [Bool.true_and] at hq
      cases d2 : edgeL L at_ (c : Int) <;> rw [d2] at hq
      all_goals (
        (repeat' (first | (simp (maxSteps := 1000000) (disch := first | omega | (simp only [AM.DB, List.length_set, List.length_map]; first | done | omega)) only [AM.RB, Nat.reduceAdd, Nat.reduceMul, Nat.reduceEqDiff, reduceCtorEq, b84_PC3]) | refine AM.drawW_fine hp (by kernel_rfl) (by kernel_rfl) (by kernel_rfl) ?_ | refine AM.opW_tied (by kernel_rfl) ?_ | refine AM.opW_untied (by kernel_rfl) ?_ | refine AM.build_w ?_))
        first | exact hq _ m3 (toP fr3) | skip)
  · rw [if_neg k1, if_neg k2, if_neg k3] at hq
    (repeat' (first | (simp (maxSteps := 1000000) (disch := first | omega | (simp only [AM.DB, List.length_set, List.length_map]; first | done | omega)) only [AM.RB, Nat.reduceAdd, Nat.reduceMul, Nat.reduceEqDiff, reduceCtorEq, b84_PC3, g12, g2, decide_eq_false k1, decide_eq_false k2, decide_eq_false k3]) | refine AM.drawW_fine hp (by kernel_rfl) (by kernel_rfl) (by kernel_rfl) ?_ | refine AM.opW_tied (by kernel_rfl) ?_ | refine AM.opW_untied (by kernel_rfl) ?_ | refine AM.build_w ?_))
    exact hq _ m2 fin

theorem parts_w {h : AHeap} {a b : Value} {l t : List Int} (ra : Rd h 3 1 a l.length (l.map (.int .i64))) (rb : Rd h 3 1 b t.length (t.map (.int .i64))) (hlt : l.length ≤ t.length) (hl : l.length ≤ 4000000) {Q : VQ}
    (hq : Q (.tuple #[.int .i64 (partV (diffs l t l.length)).1, .bool (partV (diffs l t l.length)).2]) h) : W 83 [a, b] h Q := by
  obtain ⟨aa, ac, rfl⟩ := ra.form
  obtain ⟨ba, bc, rfl⟩ := rb.form
  refine AM.enter hp (fn := Tryd.f83) (rs := [.tmp 4, .tmp 5]) (nt := 28) (by kernel_rfl) Tryd.func83 rfl rfl rfl (by kernel_rfl) ?_
  simp (maxSteps := 1000000) (disch := first | omega | (simp only [AM.DB, List.length_set, List.length_map]; first | done | omega)) only [AM.RB, Nat.reduceAdd, Nat.reduceMul, Nat.reduceEqDiff, reduceCtorEq, b83_PC3]
  refine AM.loop_w hp 28 (fun q : Nat × Int => [(0, .slice aa l.length ac), (1, .slice ba t.length bc), (6, .int .i64 q.2), (9, .int .i64 l.length), (10, .int .i64 q.1)])
    (fun q h' => q.1 ≤ l.length ∧ h' = h ∧ ((diffs l t q.1 = [] ∧ q.2 = -1) ∨ ∃ j : Nat, diffs l t q.1 = [j] ∧ q.2 = j)) (fun q => l.length - q.1) (by kernel_rfl) (0, -1) ?_ ?_ ?_
  · simp (maxSteps := 1000000) (disch := first | omega | (simp only [AM.DB, List.length_set, List.length_map]; first | done | omega)) only [AM.RB, Nat.reduceAdd, Nat.reduceMul, Nat.reduceEqDiff, reduceCtorEq, b83_PC3]
    first | rfl | skip
  · exact ⟨Nat.zero_le _, rfl, .inl ⟨rfl, rfl⟩⟩
  rintro ⟨i, at_⟩ h1 ρ ⟨hi, rfl, hd⟩
  simp only at hi hd ⊢
  simp (maxSteps := 1000000) (disch := first | omega | (simp only [AM.DB, List.length_set, List.length_map]; first | done | omega)) only [AM.RB, Nat.reduceAdd, Nat.reduceMul, Nat.reduceEqDiff, reduceCtorEq, b83_PC3]
  refine AM.condV_split (fun hlt2 => ?_) (fun hlt2 => ?_)
  · have hil : i < l.length := by omega
    have hit : i < t.length := by omega
    obtain ⟨x, hx⟩ : ∃ x, l.getD i 0 = x := ⟨_, rfl⟩
    obtain ⟨y, hy⟩ : ∃ x, t.getD i 0 = x := ⟨_, rfl⟩
    have hsucc := diffs_succ l t i
    rw [hx, hy] at hsucc
    by_cases e : x = y
    · rw [if_pos e, List.append_nil] at hsucc
      (repeat' (first | (simp (maxSteps := 1000000) (disch := first | omega | (simp only [AM.DB, List.length_set, List.length_map]; first | done | omega)) only [AM.RB, Nat.reduceAdd, Nat.reduceMul, Nat.reduceEqDiff, reduceCtorEq, b83_PC3, ra.ia el_22, Rd.ldi ra lk_3, rb.ia el_22, Rd.ldi rb lk_3, Int.toNat_natCast, hx, hy, decide_eq_true e, AM.wrap_i64]) | refine AM.drawW_fine hp (by kernel_rfl) (by kernel_rfl) (by kernel_rfl) ?_ | refine AM.opW_tied (by kernel_rfl) ?_ | refine AM.opW_untied (by kernel_rfl) ?_))
      refine ⟨(i + 1, at_), by simp only; omega, ⟨rfl, congrArg _ (by simp only; omega)⟩, by simp only; omega, ?_⟩
      simp only
      rw [hsucc]; exact hd
    · rw [if_neg e] at hsucc
      rcases hd with ⟨d1, rfl⟩ | ⟨j, d1, rfl⟩
      · rw [d1, List.nil_append] at hsucc
        have dm : decide ((0 : Int) ≤ (-1 : Int)) = false := rfl
        (repeat' (first | (simp (maxSteps := 1000000) (disch := first | omega | (simp only [AM.DB, List.length_set, List.length_map]; first | done | omega)) only [AM.RB, Nat.reduceAdd, Nat.reduceMul, Nat.reduceEqDiff, reduceCtorEq, b83_PC3, dm, ra.ia el_22, Rd.ldi ra lk_3, rb.ia el_22, Rd.ldi rb lk_3, Int.toNat_natCast, hx, hy, decide_eq_false e, AM.wrap_i64]) | refine AM.drawW_fine hp (by kernel_rfl) (by kernel_rfl) (by kernel_rfl) ?_ | refine AM.opW_tied (by kernel_rfl) ?_ | refine AM.opW_untied (by kernel_rfl) ?_))
        refine ⟨(i + 1, (i : Int)), by simp only; omega, ⟨rfl, congrArg _ (by simp only; omega)⟩, by simp only; omega, ?_⟩
        simp only
        exact .inr ⟨i, hsucc, rfl⟩
      · rw [d1] at hsucc
        obtain ⟨r, hr⟩ := diffs_pre l t (i + 1) l.length (by omega)
        rw [hsucc] at hr
        have ev : partV (diffs l t l.length) = ((j : Int), false) := by rw [hr]; rfl
        rw [ev] at hq
        have dj : decide ((0 : Int) ≤ (j : Int)) = true := decide_eq_true (by omega)
        (repeat' (first | (simp (maxSteps := 1000000) (disch := first | omega | (simp only [AM.DB, List.length_set, List.length_map]; first | done | omega)) only [AM.RB, Nat.reduceAdd, Nat.reduceMul, Nat.reduceEqDiff, reduceCtorEq, b83_PC3, ra.ia el_22, Rd.ldi ra lk_3, rb.ia el_22, Rd.ldi rb lk_3, Int.toNat_natCast, hx, hy, decide_eq_false e, dj]) | refine AM.drawW_fine hp (by kernel_rfl) (by kernel_rfl) (by kernel_rfl) ?_ | refine AM.opW_tied (by kernel_rfl) ?_ | refine AM.opW_untied (by kernel_rfl) ?_))
        exact hq
  · obtain rfl : i = l.length := by omega
    have ev : partV (diffs l t l.length) = (at_, true) := by
      rcases hd with ⟨d1, rfl⟩ | ⟨j, d1, rfl⟩ <;> rw [d1] <;> rfl
    rw [ev] at hq
    (repeat' (first | (simp (maxSteps := 1000000) (disch := first | omega | (simp only [AM.DB, List.length_set, List.length_map]; first | done | omega)) only [AM.RB, Nat.reduceAdd, Nat.reduceMul, Nat.reduceEqDiff, reduceCtorEq, b83_PC3]) | refine AM.drawW_fine hp (by kernel_rfl) (by kernel_rfl) (by kernel_rfl) ?_ | refine AM.opW_tied (by kernel_rfl) ?_ | refine AM.opW_untied (by kernel_rfl) ?_))
    exact hq

end Go.Proofs.YtbaohngkapmhlaaDoor

namespace Go.Proofs.YtbaohngkapmhlaaDoor
open Go.AM
set_option maxRecDepth 8000
theorem b86_PC7 : type_of% (And.intro (@AM.bin_add) (And.intro (@AM.bin_lss) (And.intro (@AM.bin_neq) (And.intro (@AM.iaO_ok) (And.intro (AM.ia_slice el_22) (And.intro (@AM.ldO_agg) (And.intro (@AM.ldO_one) (And.intro (@AM.ld_ptr) (And.intro (AM.len_slice ul_22) (And.intro (@lk_3) (And.intro (@AM.op_binOp) (And.intro (@AM.op_indexAddr) (And.intro (@AM.op_len) (@AM.op_load)))))))))))))) := And.intro (@AM.bin_add) (And.intro (@AM.bin_lss) (And.intro (@AM.bin_neq) (And.intro (@AM.iaO_ok) (And.intro (AM.ia_slice el_22) (And.intro (@AM.ldO_agg) (And.intro (@AM.ldO_one) (And.intro (@AM.ld_ptr) (And.intro (AM.len_slice ul_22) (And.intro (@lk_3) (And.intro (@AM.op_binOp) (And.intro (@AM.op_indexAddr) (And.intro (@AM.op_len) (@AM.op_load)))))))))))))
theorem b44_PC7 : type_of% (And.intro (@AM.boxK_agg) (And.intro (@AM.boxK_bool) (And.intro (@AM.boxK_func) (And.intro (@AM.boxK_int) (And.intro (@AM.boxK_map) (And.intro (@AM.boxK_pointer) (And.intro (@AM.boxK_slice) (And.intro (@AM.boxK_string) (And.intro (@AM.fa_ptr) (And.intro (@fd_59_0) (And.intro (@fd_59_1) (And.intro (@AM.ldO_agg) (And.intro (@AM.ldO_one) (And.intro (@AM.ld_ptr) (And.intro (@lk_22) (And.intro (@AM.op_box) (And.intro (@AM.op_call) (And.intro (@AM.op_fieldAddr) (@AM.op_load))))))))))))))))))) := And.intro (@AM.boxK_agg) (And.intro (@AM.boxK_bool) (And.intro (@AM.boxK_func) (And.intro (@AM.boxK_int) (And.intro (@AM.boxK_map) (And.intro (@AM.boxK_pointer) (And.intro (@AM.boxK_slice) (And.intro (@AM.boxK_string) (And.intro (@AM.fa_ptr) (And.intro (@fd_59_0) (And.intro (@fd_59_1) (And.intro (@AM.ldO_agg) (And.intro (@AM.ldO_one) (And.intro (@AM.ld_ptr) (And.intro (@lk_22) (And.intro (@AM.op_box) (And.intro (@AM.op_call) (And.intro (@AM.op_fieldAddr) (@AM.op_load))))))))))))))))))
theorem b45_PC7 : type_of% (And.intro (@AM.bin_add) (And.intro (@AM.bin_lss) (And.intro (@AM.bin_neq) (And.intro (@AM.boxK_agg) (And.intro (@AM.boxK_bool) (And.intro (@AM.boxK_func) (And.intro (@AM.boxK_int) (And.intro (@AM.boxK_map) (And.intro (@AM.boxK_pointer) (And.intro (@AM.boxK_slice) (And.intro (@AM.boxK_string) (And.intro (@AM.fa_ptr) (And.intro (@fd_59_0) (And.intro (@fd_59_1) (And.intro (@AM.iaO_ok) (And.intro (AM.ia_slice el_22) (And.intro (@AM.ldO_agg) (And.intro (@AM.ldO_one) (And.intro (@AM.ld_ptr) (And.intro (AM.len_slice ul_22) (And.intro (@lk_22) (And.intro (@lk_3) (And.intro (@AM.op_binOp) (And.intro (@AM.op_box) (And.intro (@AM.op_fieldAddr) (And.intro (@AM.op_indexAddr) (And.intro (@AM.op_len) (@AM.op_load)))))))))))))))))))))))))))) := And.intro (@AM.bin_add) (And.intro (@AM.bin_lss) (And.intro (@AM.bin_neq) (And.intro (@AM.boxK_agg) (And.intro (@AM.boxK_bool) (And.intro (@AM.boxK_func) (And.intro (@AM.boxK_int) (And.intro (@AM.boxK_map) (And.intro (@AM.boxK_pointer) (And.intro (@AM.boxK_slice) (And.intro (@AM.boxK_string) (And.intro (@AM.fa_ptr) (And.intro (@fd_59_0) (And.intro (@fd_59_1) (And.intro (@AM.iaO_ok) (And.intro (AM.ia_slice el_22) (And.intro (@AM.ldO_agg) (And.intro (@AM.ldO_one) (And.intro (@AM.ld_ptr) (And.intro (AM.len_slice ul_22) (And.intro (@lk_22) (And.intro (@lk_3) (And.intro (@AM.op_binOp) (And.intro (@AM.op_box) (And.intro (@AM.op_fieldAddr) (And.intro (@AM.op_indexAddr) (And.intro (@AM.op_len) (@AM.op_load)))))))))))))))))))))))))))


theorem take_next {l t : List Int} {i : Nat} (h1 : i < l.length) (h2 : i < t.length) (h : l.take i = t.take i) (e : l.getD i 0 = t.getD i 0) : l.take (i + 1) = t.take (i + 1) := by
  rw [List.take_add_one, List.take_add_one, h]
  simp only [List.getD, List.getElem?_eq_getElem h1, List.getElem?_eq_getElem h2, Option.getD_some] at e ⊢
  rw [e]
theorem take_all {l t : List Int} (h : l.length = t.length) (e : l.take l.length = t.take l.length) : l = t := by
  rw [List.take_length] at e
  rw [e, List.take_of_length_le (by omega)]
theorem equal_w {s t : Value} {l m : List Int} {h : AHeap} (hs : Rd h 3 1 s l.length (l.map (.int .i64))) (ht : Rd h 3 1 t m.length (m.map (.int .i64))) (hn : l.length ≤ 4000000000) {Q : VQ} (hq : Q (.bool (decide (l = m))) h) : W 86 [s, t] h Q := by
  obtain ⟨a, ac, rfl⟩ := hs.form
  obtain ⟨b, bc, rfl⟩ := ht.form
  refine AM.enter hp (fn := Tryd.f86) (rs := [.tmp 4]) (nt := 26) (by kernel_rfl) Tryd.func86 rfl rfl rfl (by kernel_rfl) ?_
  by_cases hnk : (l.length : Int) = m.length
  · have hnk' : l.length = m.length := by omega
    (repeat' (first | (simp (maxSteps := 1000000) (disch := first | omega | (simp only [AM.DB, List.length_set, List.length_map]; first | done | omega)) only [AM.RB, Nat.reduceAdd, Nat.reduceMul, Nat.reduceEqDiff, reduceCtorEq, b86_PC7, decide_eq_true hnk]) | refine AM.drawW_fine hp (by kernel_rfl) (by kernel_rfl) (by kernel_rfl) ?_ | refine AM.opW_tied (by kernel_rfl) ?_ | refine AM.opW_untied (by kernel_rfl) ?_))
    refine AM.loop_w hp 26 (fun i : Nat => [(0, .slice a l.length ac), (1, .slice b m.length bc), (12, .int .i64 l.length), (13, .int .i64 i)]) (fun i h' => h' = h ∧ i ≤ l.length ∧ l.take i = m.take i) (fun i => l.length - i) (by kernel_rfl) 0 ?_ ?_ ?_
    · simp (maxSteps := 1000000) (disch := first | omega | (simp only [AM.DB, List.length_set, List.length_map]; first | done | omega)) only [AM.RB, Nat.reduceAdd, Nat.reduceMul, Nat.reduceEqDiff, reduceCtorEq, b86_PC7]
      first | rfl | skip
    · exact ⟨rfl, Nat.zero_le _, rfl⟩
    rintro i h1 ρ ⟨rfl, hi, htk⟩
    simp (maxSteps := 1000000) (disch := first | omega | (simp only [AM.DB, List.length_set, List.length_map]; first | done | omega)) only [AM.RB, Nat.reduceAdd, Nat.reduceMul, Nat.reduceEqDiff, reduceCtorEq, b86_PC7]
    refine AM.condV_split (fun hlt => ?_) (fun hlt => ?_)
    · have hil : i < l.length := by omega
      have him : i < m.length := by omega
      by_cases e : l.getD i 0 = m.getD i 0
      · (repeat' (first | (simp (maxSteps := 1000000) (disch := first | omega | (simp only [AM.DB, List.length_set, List.length_map]; first | done | omega)) only [AM.RB, Nat.reduceAdd, Nat.reduceMul, Nat.reduceEqDiff, reduceCtorEq, b86_PC7, hs.ia el_22, ht.ia el_22, Rd.ldi hs lk_3, Rd.ldi ht lk_3, Int.toNat_natCast, decide_eq_true e, AM.wrap_i64]) | refine AM.drawW_fine hp (by kernel_rfl) (by kernel_rfl) (by kernel_rfl) ?_ | refine AM.opW_tied (by kernel_rfl) ?_ | refine AM.opW_untied (by kernel_rfl) ?_))
        exact ⟨i + 1, by omega, congrArg _ (by omega), by omega, take_next hil him htk e⟩
      · (repeat' (first | (simp (maxSteps := 1000000) (disch := first | omega | (simp only [AM.DB, List.length_set, List.length_map]; first | done | omega)) only [AM.RB, Nat.reduceAdd, Nat.reduceMul, Nat.reduceEqDiff, reduceCtorEq, b86_PC7, hs.ia el_22, ht.ia el_22, Rd.ldi hs lk_3, Rd.ldi ht lk_3, Int.toNat_natCast, decide_eq_false e]) | refine AM.drawW_fine hp (by kernel_rfl) (by kernel_rfl) (by kernel_rfl) ?_ | refine AM.opW_tied (by kernel_rfl) ?_ | refine AM.opW_untied (by kernel_rfl) ?_))
        rw [decide_eq_false (fun q => e (by rw [q]))] at hq
        exact hq
    · obtain rfl : i = l.length := by omega
      rw [decide_eq_true (take_all hnk' htk)] at hq
      (repeat' (first | (simp (maxSteps := 1000000) (disch := first | omega | (simp only [AM.DB, List.length_set, List.length_map]; first | done | omega)) only [AM.RB, Nat.reduceAdd, Nat.reduceMul, Nat.reduceEqDiff, reduceCtorEq, b86_PC7]) | refine AM.drawW_fine hp (by kernel_rfl) (by kernel_rfl) (by kernel_rfl) ?_ | refine AM.opW_tied (by kernel_rfl) ?_ | refine AM.opW_untied (by kernel_rfl) ?_))
      exact hq
  · (repeat' (first | (simp (maxSteps := 1000000) (disch := first | omega | (simp only [AM.DB, List.length_set, List.length_map]; first | done | omega)) only [AM.RB, Nat.reduceAdd, Nat.reduceMul, Nat.reduceEqDiff, reduceCtorEq, b86_PC7, decide_eq_false hnk]) | refine AM.drawW_fine hp (by kernel_rfl) (by kernel_rfl) (by kernel_rfl) ?_ | refine AM.opW_tied (by kernel_rfl) ?_ | refine AM.opW_untied (by kernel_rfl) ?_))
    rw [decide_eq_false (fun q => hnk (by rw [q]))] at hq
    exact hq
theorem prod_dec (a b : St) : decide (a = b) = (decide (a.1 = b.1) && decide (a.2 = b.2)) := by
  rw [← Bool.decide_and]
  exact decide_eq_decide.2 ⟨fun e => ⟨congrArg _ e, congrArg _ e⟩, fun e => Prod.ext e.1 e.2⟩
theorem psame_w {va vb : Value} {a b : St} {h : AHeap} (ha : StR h va a) (hb : StR h vb b) (h1 : a.1.length ≤ 4000000) (h2 : a.2.length ≤ 4000000) {Q : VQ} (hq : ∀ h', Fr none' h h' → Q (.bool (decide (a = b))) h') : W 44 [va, vb] h Q := by
  obtain ⟨a1, a2, rfl, ra1, ra2⟩ := ha
  obtain ⟨a1a, a1c, rfl⟩ := ra1.form
  obtain ⟨a2a, a2c, rfl⟩ := ra2.form
  obtain ⟨b1, b2, rfl, rb1, rb2⟩ := hb
  obtain ⟨b1a, b1c, rfl⟩ := rb1.form
  obtain ⟨b2a, b2c, rfl⟩ := rb2.form
  rw [prod_dec] at hq
  refine AM.enter hp (fn := Tryd.f44) (rs := [.tmp 4]) (nt := 17) (by kernel_rfl) Tryd.func44 rfl rfl rfl (by kernel_rfl) ?_
  simp (maxSteps := 1000000) (disch := first | omega | (simp only [AM.DB, List.length_set, List.length_map]; first | done | omega)) only [AM.RB, Nat.reduceAdd, Nat.reduceMul, Nat.reduceEqDiff, reduceCtorEq, b44_PC7]
  generalize hE_ : AHeap.alloc h _ = h1; obtain ⟨g1, fr1, n1, l1⟩ := AM.new_get hE_; clear hE_
  generalize hE_ : AHeap.alloc h1 _ = h2; obtain ⟨g2, fr2, n2, l2⟩ := AM.new_get hE_; clear hE_
  rw [n1] at g2
  have g12 := g1.fr0 fr2
  have fr02 := fr1.trans fr2
  have q1 := ra1.fr0 fr02
  have q2 := ra2.fr0 fr02
  have q3 := rb1.fr0 fr02
  have q4 := rb2.fr0 fr02
  (first | (simp (maxSteps := 1000000) (disch := first | omega | (simp only [AM.DB, List.length_set, List.length_map]; first | done | omega)) only [AM.RB, Nat.reduceAdd, Nat.reduceMul, Nat.reduceEqDiff, reduceCtorEq, b44_PC7, g12, g2]) | skip)
  refine equal_w q1 q3 (by omega) ?_
  cases e1 : decide (a.1 = b.1) <;> rw [e1] at hq
  · (first | (simp (maxSteps := 1000000) (disch := first | omega | (simp only [AM.DB, List.length_set, List.length_map]; first | done | omega)) only [AM.RB, Nat.reduceAdd, Nat.reduceMul, Nat.reduceEqDiff, reduceCtorEq, b44_PC7]) | skip)
    exact hq _ fr02
  · (first | (simp (maxSteps := 1000000) (disch := first | omega | (simp only [AM.DB, List.length_set, List.length_map]; first | done | omega)) only [AM.RB, Nat.reduceAdd, Nat.reduceMul, Nat.reduceEqDiff, reduceCtorEq, b44_PC7, g12, g2]) | skip)
    refine equal_w q2 q4 (by omega) ?_
    (first | (simp (maxSteps := 1000000) (disch := first | omega | (simp only [AM.DB, List.length_set, List.length_map]; first | done | omega)) only [AM.RB, Nat.reduceAdd, Nat.reduceMul, Nat.reduceEqDiff, reduceCtorEq, b44_PC7]) | skip)
    rw [Bool.true_and] at hq
    exact hq _ fr02
set_option maxHeartbeats 4000000 in
theorem refSame_w {va vb : Value} {a b : St} {h : AHeap} (ha : StR h va a) (hb : StR h vb b) (h1 : a.1.length ≤ 4000000) (h2 : a.2.length ≤ 4000000) {Q : VQ} (hq : ∀ h', Fr none' h h' → Q (.bool (decide (a = b))) h') : W 45 [va, vb] h Q := by
  obtain ⟨a1, a2, rfl, ra1, ra2⟩ := ha
  obtain ⟨a1a, a1c, rfl⟩ := ra1.form
  obtain ⟨a2a, a2c, rfl⟩ := ra2.form
  obtain ⟨b1, b2, rfl, rb1, rb2⟩ := hb
  obtain ⟨b1a, b1c, rfl⟩ := rb1.form
  obtain ⟨b2a, b2c, rfl⟩ := rb2.form
  rw [prod_dec] at hq
  refine AM.enter hp (fn := Tryd.f45) (rs := [.tmp 4]) (nt := 59) (by kernel_rfl) Tryd.func45 rfl rfl rfl (by kernel_rfl) ?_
  simp (maxSteps := 1000000) (disch := first | omega | (simp only [AM.DB, List.length_set, List.length_map]; first | done | omega)) only [AM.RB, Nat.reduceAdd, Nat.reduceMul, Nat.reduceEqDiff, reduceCtorEq, b45_PC7]
  generalize hE_ : AHeap.alloc h _ = h1; obtain ⟨g1, fr1, n1, l1⟩ := AM.new_get hE_; clear hE_
  generalize hE_ : AHeap.alloc h1 _ = h2; obtain ⟨g2, fr2, n2, l2⟩ := AM.new_get hE_; clear hE_
  rw [n1] at g2
  have g12 := g1.fr0 fr2
  have fr02 := fr1.trans fr2
  have q1 := ra1.fr0 fr02
  have q2 := ra2.fr0 fr02
  have q3 := rb1.fr0 fr02
  have q4 := rb2.fr0 fr02
  by_cases c1 : (a.1.length : Int) = b.1.length
  case neg =>
    rw [decide_eq_false (show ¬ a.1 = b.1 from fun e => c1 (by rw [e]))] at hq
    (repeat' (first | (simp (maxSteps := 1000000) (disch := first | omega | (simp only [AM.DB, List.length_set, List.length_map]; first | done | omega)) only [AM.RB, Nat.reduceAdd, Nat.reduceMul, Nat.reduceEqDiff, reduceCtorEq, b45_PC7, g12, g2, decide_eq_false c1]) | refine AM.drawW_fine hp (by kernel_rfl) (by kernel_rfl) (by kernel_rfl) ?_ | refine AM.opW_tied (by kernel_rfl) ?_ | refine AM.opW_untied (by kernel_rfl) ?_))
    exact hq _ fr02
  by_cases c2 : (a.2.length : Int) = b.2.length
  case neg =>
    rw [decide_eq_false (show ¬ a.2 = b.2 from fun e => c2 (by rw [e])), Bool.and_false] at hq
    (repeat' (first | (simp (maxSteps := 1000000) (disch := first | omega | (simp only [AM.DB, List.length_set, List.length_map]; first | done | omega)) only [AM.RB, Nat.reduceAdd, Nat.reduceMul, Nat.reduceEqDiff, reduceCtorEq, b45_PC7, g12, g2, decide_eq_true c1, decide_eq_false c2]) | refine AM.drawW_fine hp (by kernel_rfl) (by kernel_rfl) (by kernel_rfl) ?_ | refine AM.opW_tied (by kernel_rfl) ?_ | refine AM.opW_untied (by kernel_rfl) ?_))
    exact hq _ fr02
  have c1' : a.1.length = b.1.length := by omega
  have c2' : a.2.length = b.2.length := by omega
  (repeat' (first | (simp (maxSteps := 1000000) (disch := first | omega | (simp only [AM.DB, List.length_set, List.length_map]; first | done | omega)) only [AM.RB, Nat.reduceAdd, Nat.reduceMul, Nat.reduceEqDiff, reduceCtorEq, b45_PC7, g12, g2, decide_eq_true c1, decide_eq_true c2]) | refine AM.drawW_fine hp (by kernel_rfl) (by kernel_rfl) (by kernel_rfl) ?_ | refine AM.opW_tied (by kernel_rfl) ?_ | refine AM.opW_untied (by kernel_rfl) ?_))
  refine AM.loop_w hp 59 (fun i : Nat => [(2, pv h.next), (3, pv (h.next + 1)), (5, .int .i64 i)]) (fun i h' => h' = h2 ∧ i ≤ a.1.length ∧ a.1.take i = b.1.take i) (fun i => a.1.length - i) (by kernel_rfl) 0 ?_ ?_ ?_
  · simp (maxSteps := 1000000) (disch := first | omega | (simp only [AM.DB, List.length_set, List.length_map]; first | done | omega)) only [AM.RB, Nat.reduceAdd, Nat.reduceMul, Nat.reduceEqDiff, reduceCtorEq, b45_PC7]
    first | rfl | skip
  · exact ⟨rfl, Nat.zero_le _, rfl⟩
  rintro i h3 ρ ⟨rfl, hi, htk⟩
  simp (maxSteps := 1000000) (disch := first | omega | (simp only [AM.DB, List.length_set, List.length_map]; first | done | omega)) only [AM.RB, Nat.reduceAdd, Nat.reduceMul, Nat.reduceEqDiff, reduceCtorEq, b45_PC7, g12]
  refine AM.condV_split (fun hlt => ?_) (fun hlt => ?_)
  · have hil : i < a.1.length := by omega
    have him : i < b.1.length := by omega
    by_cases e : a.1.getD i 0 = b.1.getD i 0
    · (repeat' (first | (simp (maxSteps := 1000000) (disch := first | omega | (simp only [AM.DB, List.length_set, List.length_map]; first | done | omega)) only [AM.RB, Nat.reduceAdd, Nat.reduceMul, Nat.reduceEqDiff, reduceCtorEq, b45_PC7, g12, g2, q1.ia el_22, q3.ia el_22, Rd.ldi q1 lk_3, Rd.ldi q3 lk_3, Int.toNat_natCast, decide_eq_true e, AM.wrap_i64]) | refine AM.drawW_fine hp (by kernel_rfl) (by kernel_rfl) (by kernel_rfl) ?_ | refine AM.opW_tied (by kernel_rfl) ?_ | refine AM.opW_untied (by kernel_rfl) ?_))
      exact ⟨i + 1, by omega, congrArg _ (by omega), by omega, take_next hil him htk e⟩
    · rw [decide_eq_false (show ¬ a.1 = b.1 from fun q => e (by rw [q]))] at hq
      (repeat' (first | (simp (maxSteps := 1000000) (disch := first | omega | (simp only [AM.DB, List.length_set, List.length_map]; first | done | omega)) only [AM.RB, Nat.reduceAdd, Nat.reduceMul, Nat.reduceEqDiff, reduceCtorEq, b45_PC7, g12, g2, q1.ia el_22, q3.ia el_22, Rd.ldi q1 lk_3, Rd.ldi q3 lk_3, Int.toNat_natCast, decide_eq_false e]) | refine AM.drawW_fine hp (by kernel_rfl) (by kernel_rfl) (by kernel_rfl) ?_ | refine AM.opW_tied (by kernel_rfl) ?_ | refine AM.opW_untied (by kernel_rfl) ?_))
      exact hq _ fr02
  obtain rfl : i = a.1.length := by omega
  rw [decide_eq_true (take_all c1' htk), Bool.true_and] at hq
  (repeat' (first | (simp (maxSteps := 1000000) (disch := first | omega | (simp only [AM.DB, List.length_set, List.length_map]; first | done | omega)) only [AM.RB, Nat.reduceAdd, Nat.reduceMul, Nat.reduceEqDiff, reduceCtorEq, b45_PC7]) | refine AM.drawW_fine hp (by kernel_rfl) (by kernel_rfl) (by kernel_rfl) ?_ | refine AM.opW_tied (by kernel_rfl) ?_ | refine AM.opW_untied (by kernel_rfl) ?_))
  refine AM.loop_w hp 59 (fun i : Nat => [(2, pv h.next), (3, pv (h.next + 1)), (6, .int .i64 i)]) (fun i h' => h' = h3 ∧ i ≤ a.2.length ∧ a.2.take i = b.2.take i) (fun i => a.2.length - i) (by kernel_rfl) 0 ?_ ?_ ?_
  · simp (maxSteps := 1000000) (disch := first | omega | (simp only [AM.DB, List.length_set, List.length_map]; first | done | omega)) only [AM.RB, Nat.reduceAdd, Nat.reduceMul, Nat.reduceEqDiff, reduceCtorEq, b45_PC7]
    first | rfl | skip
  · exact ⟨rfl, Nat.zero_le _, rfl⟩
  rintro i h4 ρ ⟨rfl, hi, htk⟩
  simp (maxSteps := 1000000) (disch := first | omega | (simp only [AM.DB, List.length_set, List.length_map]; first | done | omega)) only [AM.RB, Nat.reduceAdd, Nat.reduceMul, Nat.reduceEqDiff, reduceCtorEq, b45_PC7, g12]
  refine AM.condV_split (fun hlt => ?_) (fun hlt => ?_)
  · have hil : i < a.2.length := by omega
    have him : i < b.2.length := by omega
    by_cases e : a.2.getD i 0 = b.2.getD i 0
    · (repeat' (first | (simp (maxSteps := 1000000) (disch := first | omega | (simp only [AM.DB, List.length_set, List.length_map]; first | done | omega)) only [AM.RB, Nat.reduceAdd, Nat.reduceMul, Nat.reduceEqDiff, reduceCtorEq, b45_PC7, g12, g2, q2.ia el_22, q4.ia el_22, Rd.ldi q2 lk_3, Rd.ldi q4 lk_3, Int.toNat_natCast, decide_eq_true e, AM.wrap_i64]) | refine AM.drawW_fine hp (by kernel_rfl) (by kernel_rfl) (by kernel_rfl) ?_ | refine AM.opW_tied (by kernel_rfl) ?_ | refine AM.opW_untied (by kernel_rfl) ?_))
      exact ⟨i + 1, by omega, congrArg _ (by omega), by omega, take_next hil him htk e⟩
    · rw [decide_eq_false (show ¬ a.2 = b.2 from fun q => e (by rw [q]))] at hq
      (repeat' (first | (simp (maxSteps := 1000000) (disch := first | omega | (simp only [AM.DB, List.length_set, List.length_map]; first | done | omega)) only [AM.RB, Nat.reduceAdd, Nat.reduceMul, Nat.reduceEqDiff, reduceCtorEq, b45_PC7, g12, g2, q2.ia el_22, q4.ia el_22, Rd.ldi q2 lk_3, Rd.ldi q4 lk_3, Int.toNat_natCast, decide_eq_false e]) | refine AM.drawW_fine hp (by kernel_rfl) (by kernel_rfl) (by kernel_rfl) ?_ | refine AM.opW_tied (by kernel_rfl) ?_ | refine AM.opW_untied (by kernel_rfl) ?_))
      exact hq _ fr02
  obtain rfl : i = a.2.length := by omega
  rw [decide_eq_true (take_all c2' htk)] at hq
  (repeat' (first | (simp (maxSteps := 1000000) (disch := first | omega | (simp only [AM.DB, List.length_set, List.length_map]; first | done | omega)) only [AM.RB, Nat.reduceAdd, Nat.reduceMul, Nat.reduceEqDiff, reduceCtorEq, b45_PC7]) | refine AM.drawW_fine hp (by kernel_rfl) (by kernel_rfl) (by kernel_rfl) ?_ | refine AM.opW_tied (by kernel_rfl) ?_ | refine AM.opW_untied (by kernel_rfl) ?_))
  exact hq _ fr02

end Go.Proofs.YtbaohngkapmhlaaDoor

namespace Go.Proofs.YtbaohngkapmhlaaDoor
open Go.AM

/-! ### All steps: as the document has them -/
theorem allP_filter (K : List UInt8) : ∀ n, allP K n = ((List.range n).filter fun (c : Nat) => freeP K (c : Int)).map (fun (c : Nat) => (c : Int))
  | 0 => rfl
  | n + 1 => by
    rw [allP, allP_filter K n, List.range_succ, List.filter_append, List.map_append]
    congr 1
    cases h : freeP K (n : Int) <;> simp [h]
theorem may_free {L : List (List UInt8)} {s : St} {k r c : Int} (hk : k ≠ 0) (h : may L s (k, r, c) = true) : freeP L.flatten c = true := by
  unfold may at h
  rw [if_neg hk, Bool.and_eq_true, Bool.and_eq_true] at h
  exact h.1.2
def refR (L : List (List UInt8)) (s : St) (k : Int) (r : Nat) (n : Nat) : List Sp := ((List.range n).map fun (c : Nat) => (k, (r : Int), (c : Int))).filter (may L s)
theorem refR_eq {L : List (List UInt8)} {s : St} {k : Int} {r : Nat} (hk : k ≠ 0) : refR L s k r L.flatten.length = stepsR L s k r := by
  unfold refR stepsR
  rw [allP_filter, List.map_map]
  generalize List.range L.flatten.length = l
  induction l with
  | nil => rfl
  | cons c l ih =>
    rw [List.map_cons, List.filter_cons, List.filter_cons]
    by_cases hf : freeP L.flatten (c : Int) = true
    · rw [if_pos hf, List.map_cons, List.filter_cons, ih]; rfl
    · rw [if_neg hf, if_neg (fun q => hf (may_free hk q)), ih]
theorem refR_succ (L : List (List UInt8)) (s : St) (k : Int) (r n : Nat) : refR L s k r (n + 1) = refR L s k r n ++ if may L s (k, (r : Int), (n : Int)) = true then [(k, (r : Int), (n : Int))] else [] := by
  unfold refR
  rw [List.range_succ, List.map_append, List.filter_append]
  congr 1
  exact filter_one _ _
def stepsKn (L : List (List UInt8)) (s : St) (k : Int) (n : Nat) : List Sp := (List.range n).flatMap (stepsR L s k)
theorem stepsKn_succ (L : List (List UInt8)) (s : St) (k : Int) (n : Nat) : stepsKn L s k (n + 1) = stepsKn L s k n ++ stepsR L s k n := by
  unfold stepsKn
  rw [List.range_succ, List.flatMap_append]; simp
/-- The steps of the kinds below k + 1. -/
def stepsKs (L : List (List UInt8)) (s : St) : Nat → List Sp
  | 0 => []
  | k + 1 => stepsKs L s k ++ stepsK L s ((k + 1 : Nat) : Int)
theorem stepsKs_3 (L : List (List UInt8)) (s : St) : stepsKs L s 3 = stepsL L s := by
  unfold stepsL
  rw [stepsKs, stepsKs, stepsKs, stepsKs, List.nil_append]; rfl
theorem stepsR_len (L : List (List UInt8)) (s : St) (k : Int) (r : Nat) : (stepsR L s k r).length ≤ L.flatten.length := by
  unfold stepsR
  refine Nat.le_trans (List.length_filter_le _ _) ?_
  rw [List.length_map]; exact allP_len _ _
theorem stepsKn_len (L : List (List UInt8)) (s : St) (k : Int) : ∀ n, (stepsKn L s k n).length ≤ n * L.flatten.length
  | 0 => by rw [Nat.zero_mul]; exact Nat.le_refl _
  | n + 1 => by
    rw [stepsKn_succ, List.length_append, Nat.succ_mul]
    exact Nat.add_le_add (stepsKn_len L s k n) (stepsR_len L s k n)
theorem stepsKs_len (L : List (List UInt8)) (s : St) : ∀ k, (stepsKs L s k).length ≤ k * (s.1.length * L.flatten.length)
  | 0 => by rw [Nat.zero_mul]; exact Nat.le_refl _
  | k + 1 => by
    rw [stepsKs, List.length_append, Nat.succ_mul]
    exact Nat.add_le_add (stepsKs_len L s k) (stepsKn_len L s _ s.1.length)
theorem refR_len (L : List (List UInt8)) (s : St) (k : Int) (r n : Nat) : (refR L s k r n).length ≤ n := by
  unfold refR
  refine Nat.le_trans (List.length_filter_le _ _) ?_
  rw [List.length_map, List.length_range]; exact Nat.le_refl _
theorem stepsR_of {L : List (List UInt8)} {s : St} {k : Int} {r c : Nat} (hk : k ≠ 0) (hc : c < L.flatten.length) (hm : may L s (k, (r : Int), (c : Int)) = true) : (k, (r : Int), (c : Int)) ∈ stepsR L s k r := by
  rw [← refR_eq hk]
  unfold refR
  exact List.mem_filter.2 ⟨List.mem_map.2 ⟨c, List.mem_range.2 hc, rfl⟩, hm⟩
theorem stepsL_of {L : List (List UInt8)} {s : St} {x : Sp} (h : x.1 ≠ 0) (m : May L s x) : x ∈ stepsL L s := by
  have hm := (may_iff _ _ _).2 m
  have key : ∀ (k : Int) (r c : Nat), k ≠ 0 → r < s.1.length → c < L.flatten.length → may L s (k, (r : Int), (c : Int)) = true → (k, (r : Int), (c : Int)) ∈ stepsK L s k := fun k r c hk hr hc hm =>
    List.mem_flatMap.2 ⟨r, List.mem_range.2 hr, stepsR_of hk hc hm⟩
  unfold stepsL
  cases m with
  | none => exact absurd rfl h
  | grant r c hr hf hc hh => exact List.mem_append.2 (.inl (List.mem_append.2 (.inl (key 1 r c (by decide) hr hc hm))))
  | release r c hr hf hc hh hn => exact List.mem_append.2 (.inl (List.mem_append.2 (.inr (key 2 r c (by decide) hr hc hm))))
  | move r c hr hf hc hh he => exact List.mem_append.2 (.inr (key 3 r c (by decide) hr hc hm))
/-- The step between, as the document looks for it. -/
theorem betw_same {L : List (List UInt8)} {a : St} (q : Chk L.flatten a) : betw L a a = ((0, 0, 0), 0) := by
  have := betw_turn q .none
  rwa [turnS_0] at this
theorem betw_find {L : List (List UInt8)} {a b : St} {x : Sp} (q : Chk L.flatten a) (h : x ∈ stepsL L a) (e : turnS a x = b) : betw L a b = (x, 0) := by
  subst e
  exact betw_turn q (stepsL_mem h).2
theorem betw_none {L : List (List UInt8)} {a b : St} (hne : a ≠ b) (h : ∀ x ∈ stepsL L a, turnS a x ≠ b) : betw L a b = ((0, 0, 0), 250) := by
  rcases betw_or L a b with e | ⟨x, e⟩
  · exact e
  · obtain ⟨_, _, m, et⟩ := betw_back e
    by_cases h0 : x.1 = 0
    · cases m with
      | none => exact absurd et (by rw [turnS_0]; exact hne)
      | _ => simp at h0
    · exact absurd et (h x (stepsL_of h0 m))
theorem betw_chk {L : List (List UInt8)} {a b : St} (h : chk L.flatten a = false ∨ chk L.flatten b = false) : betw L a b = ((0, 0, 0), 250) := by
  unfold betw
  rw [if_neg]
  rintro ⟨q1, q2, _⟩
  rcases h with h | h
  · rw [q1] at h; cases h
  · rw [q2] at h; cases h

end Go.Proofs.YtbaohngkapmhlaaDoor

namespace Go.Proofs.YtbaohngkapmhlaaDoor
open Go.AM
set_option maxRecDepth 8000
theorem b49_PC8 : type_of% (And.intro (@AM.alK_some) (And.intro (@al_59) (And.intro (@AM.bdV_some) (And.intro (@bd_59) (And.intro (@AM.bin_eql) (And.intro (@AM.bin_geq) (And.intro (@AM.bin_lss) (And.intro (@AM.bin_neq) (And.intro (@AM.boxK_agg) (And.intro (@AM.boxK_bool) (And.intro (@AM.boxK_func) (And.intro (@AM.boxK_int) (And.intro (@AM.boxK_map) (And.intro (@AM.boxK_pointer) (And.intro (@AM.boxK_slice) (And.intro (@AM.boxK_string) (And.intro (@AM.fa_ptr) (And.intro (@fd_59_0) (And.intro (@fd_59_1) (And.intro (@fd_65_0) (And.intro (@fd_65_1) (And.intro (@fd_65_2) (And.intro (@AM.fillL_cons) (And.intro (@AM.fillL_nil) (And.intro (@AM.fillS_agg) (And.intro (@AM.fillS_bool) (And.intro (@AM.fillS_func) (And.intro (@AM.fillS_int) (And.intro (@AM.fillS_map) (And.intro (@AM.fillS_pointer) (And.intro (@AM.fillS_slice) (And.intro (@AM.fillS_string) (And.intro (@AM.iaO_ok) (And.intro (AM.ia_slice el_22) (And.intro (@AM.ldO_agg) (And.intro (@AM.ldO_one) (And.intro (@AM.ld_ptr) (And.intro (AM.len_slice ul_22) (And.intro (@lk_22) (And.intro (@lk_3) (And.intro (@lk_59) (And.intro (@AM.op_alloc) (And.intro (@AM.op_append) (And.intro (@AM.op_binOp) (And.intro (@AM.op_box) (And.intro (@AM.op_build) (And.intro (@AM.op_call) (And.intro (@AM.op_fieldAddr) (And.intro (@AM.op_indexAddr) (And.intro (@AM.op_len) (And.intro (@AM.op_load) (And.intro (@AM.op_store) (And.intro (@AM.op_unOp) (And.intro (@AM.resL_two) (And.intro (@AM.res_cell) (And.intro (@AM.stO_agg) (And.intro (@AM.stO_bool) (And.intro (@AM.stO_int) (And.intro (@AM.stO_map) (And.intro (@AM.stO_pointer) (And.intro (@AM.stO_slice) (And.intro (@AM.stO_string) (And.intro (@AM.st_ptr) (And.intro (@sz_22) (And.intro (@sz_3) (And.intro (@sz_59) (And.intro (@AM.un_neg) (@AM.un_not)))))))))))))))))))))))))))))))))))))))))))))))))))))))))))))))))))) := And.intro (@AM.alK_some) (And.intro (@al_59) (And.intro (@AM.bdV_some) (And.intro (@bd_59) (And.intro (@AM.bin_eql) (And.intro (@AM.bin_geq) (And.intro (@AM.bin_lss) (And.intro (@AM.bin_neq) (And.intro (@AM.boxK_agg) (And.intro (@AM.boxK_bool) (And.intro (@AM.boxK_func) (And.intro (@AM.boxK_int) (And.intro (@AM.boxK_map) (And.intro (@AM.boxK_pointer) (And.intro (@AM.boxK_slice) (And.intro (@AM.boxK_string) (And.intro (@AM.fa_ptr) (And.intro (@fd_59_0) (And.intro (@fd_59_1) (And.intro (@fd_65_0) (And.intro (@fd_65_1) (And.intro (@fd_65_2) (And.intro (@AM.fillL_cons) (And.intro (@AM.fillL_nil) (And.intro (@AM.fillS_agg) (And.intro (@AM.fillS_bool) (And.intro (@AM.fillS_func) (And.intro (@AM.fillS_int) (And.intro (@AM.fillS_map) (And.intro (@AM.fillS_pointer) (And.intro (@AM.fillS_slice) (And.intro (@AM.fillS_string) (And.intro (@AM.iaO_ok) (And.intro (AM.ia_slice el_22) (And.intro (@AM.ldO_agg) (And.intro (@AM.ldO_one) (And.intro (@AM.ld_ptr) (And.intro (AM.len_slice ul_22) (And.intro (@lk_22) (And.intro (@lk_3) (And.intro (@lk_59) (And.intro (@AM.op_alloc) (And.intro (@AM.op_append) (And.intro (@AM.op_binOp) (And.intro (@AM.op_box) (And.intro (@AM.op_build) (And.intro (@AM.op_call) (And.intro (@AM.op_fieldAddr) (And.intro (@AM.op_indexAddr) (And.intro (@AM.op_len) (And.intro (@AM.op_load) (And.intro (@AM.op_store) (And.intro (@AM.op_unOp) (And.intro (@AM.resL_two) (And.intro (@AM.res_cell) (And.intro (@AM.stO_agg) (And.intro (@AM.stO_bool) (And.intro (@AM.stO_int) (And.intro (@AM.stO_map) (And.intro (@AM.stO_pointer) (And.intro (@AM.stO_slice) (And.intro (@AM.stO_string) (And.intro (@AM.st_ptr) (And.intro (@sz_22) (And.intro (@sz_3) (And.intro (@sz_59) (And.intro (@AM.un_neg) (@AM.un_not)))))))))))))))))))))))))))))))))))))))))))))))))))))))))))))))))))


/-- A state of the run's own: two slices apart. -/
def StO (n : Nat) (h : AHeap) (v : Value) (s : St) : Prop := ∃ a b, v = .agg #[a, b] ∧ Ow h 3 1 a s.1.length (s.1.map (.int .i64)) ∧ Ow h 3 1 b s.2.length (s.2.map (.int .i64)) ∧ (∀ id, idOf a id ∨ idOf b id → n ≤ id) ∧ ∀ id, idOf a id → ¬ idOf b id
theorem StO.rd {n : Nat} {h : AHeap} {v : Value} {s : St} (x : StO n h v s) : StR h v s := by
  obtain ⟨a, b, e, oa, ob, _⟩ := x
  exact ⟨a, b, e, oa.rd, ob.rd⟩
theorem StO.fr0 {n : Nat} {h h' : AHeap} {v : Value} {s : St} (x : StO n h v s) (fr : Fr none' h h') : StO n h' v s := by
  obtain ⟨a, b, e, oa, ob, q⟩ := x
  exact ⟨a, b, e, oa.fr0 fr, ob.fr0 fr, q⟩
theorem StO.fr {n : Nat} {h h' : AHeap} {v : Value} {s : St} {T : Nat → Prop} (x : StO n h v s) (fr : Fr T h h') (hT : ∀ id, n ≤ id → ¬ T id) : StO n h' v s := by
  obtain ⟨a, b, e, oa, ob, hid, q⟩ := x
  exact ⟨a, b, e, oa.fr fr (fun id k => hT id (hid id (.inl k))), ob.fr fr (fun id k => hT id (hid id (.inr k))), hid, q⟩
theorem StO.weak {n n' : Nat} {h : AHeap} {v : Value} {s : St} (x : StO n h v s) (hn : n' ≤ n) : StO n' h v s := by
  obtain ⟨a, b, e, oa, ob, hid, q⟩ := x
  exact ⟨a, b, e, oa, ob, fun id k => Nat.le_trans hn (hid id k), q⟩
theorem map_set' (l : List Int) (i : Nat) (v : Int) : (l.map (Value.int .i64)).set i (.int .i64 v) = (l.set i v).map (.int .i64) := by rw [List.map_set]
set_option maxHeartbeats 8000000 in
theorem refDo_w {h : AHeap} {p : Nat} {lv : Value} {L : List (List UInt8)} {l : List UInt8} {v : Value} {s : St} (r : Rp h p lv L) (G : Good l L) (hs : StR h v s) (hl : h.low ≤ h.next) (hn1 : s.1.length ≤ 4000000) (hn2 : s.2.length ≤ 4000000) (x : Sp) {Q : VQ}
    (hq : ∀ a1 m1 c1 a2 m2 c2 h', Fr none' h h' → ((chk L.flatten s && may L s x) = true → StO h.next h' (.agg #[.slice a1 m1 c1, .slice a2 m2 c2]) (turnS s x)) → Q (.tuple #[.agg #[.slice a1 m1 c1, .slice a2 m2 c2], .bool (chk L.flatten s && may L s x)]) h') : W 49 [pv p, v, spV x] h Q := by
  obtain ⟨k, t, c⟩ := x
  obtain ⟨a, b, rfl, ra, rb⟩ := hs
  obtain ⟨aa, ac, rfl⟩ := ra.form
  obtain ⟨ba, bc, rfl⟩ := rb.form
  have hbd : L.length ≤ 4000000 ∧ (L.getD 0 []).length ≤ 4000000 := by have := G.fit.r32; have := G.fit.c32; omega
  refine AM.enter hp (fn := Tryd.f49) (rs := [.cell 6 59, .tmp 7]) (nt := 143) (by kernel_rfl) Tryd.func49 rfl rfl rfl (by kernel_rfl) ?_
  simp (maxSteps := 1000000) (disch := first | omega | (simp only [AM.DB, List.length_set, List.length_map]; first | done | omega)) only [AM.RB, Nat.reduceAdd, Nat.reduceMul, Nat.reduceEqDiff, reduceCtorEq, b49_PC8]
  generalize hE_ : AHeap.alloc h _ = h1; obtain ⟨g1, fr1, n1, l1⟩ := AM.new_get hE_; clear hE_
  generalize hE_ : AHeap.alloc h1 _ = h2; obtain ⟨g2, fr2, n2, l2⟩ := AM.new_get hE_; clear hE_
  rw [n1] at g2
  generalize hE_ : AHeap.alloc h2 _ = h3; obtain ⟨g3, fr3, n3, l3⟩ := AM.new_get hE_; clear hE_
  rw [n2, n1] at g3
  have g13 := (g1.fr0 fr2).fr0 fr3
  have g23 := g2.fr0 fr3
  have fr03 := (fr1.trans fr2).trans fr3
  have nx3 := fr03.next
  have lw3 := fr03.low
  (repeat' (first | (simp (maxSteps := 1000000) (disch := first | omega | (simp only [AM.DB, List.length_set, List.length_map]; first | done | omega)) only [AM.RB, Nat.reduceAdd, Nat.reduceMul, Nat.reduceEqDiff, reduceCtorEq, b49_PC8, g13]) | refine AM.drawW_loose (id := 8) hp (by kernel_rfl) (by kernel_rfl) ?_ | refine AM.drawW_loose (id := 15) hp (by kernel_rfl) (by kernel_rfl) ?_ | refine AM.drawW_loose (id := 18) hp (by kernel_rfl) (by kernel_rfl) ?_ | refine AM.drawW_fine (id := 20) hp (by kernel_rfl) (by kernel_rfl) (by kernel_rfl) ?_ | refine AM.drawW_fine (id := 22) hp (by kernel_rfl) (by kernel_rfl) (by kernel_rfl) ?_ | refine AM.opW_tied (by kernel_rfl) ?_ | refine AM.opW_untied (by kernel_rfl) ?_ | refine AM.build_w ?_))
  refine refCheck_w (r.fr0 fr03) G ⟨_, _, rfl, ra.fr0 fr03, rb.fr0 fr03⟩ (by omega) fun h4 fr4 => ?_
  have fr04 := fr03.trans fr4
  have g14 := g13.fr0 fr4
  have g24 := g23.fr0 fr4
  have g34 := g3.fr0 fr4
  have nx4 := fr4.next
  have lw4 := fr4.low
  cases hc : chk L.flatten s
  · rw [hc, Bool.false_and] at hq
    (repeat' (first | (simp (maxSteps := 1000000) (disch := first | omega | (simp only [AM.DB, List.length_set, List.length_map]; first | done | omega)) only [AM.RB, Nat.reduceAdd, Nat.reduceMul, Nat.reduceEqDiff, reduceCtorEq, b49_PC8, g34]) | refine AM.drawW_loose (id := 8) hp (by kernel_rfl) (by kernel_rfl) ?_ | refine AM.drawW_loose (id := 15) hp (by kernel_rfl) (by kernel_rfl) ?_ | refine AM.drawW_loose (id := 18) hp (by kernel_rfl) (by kernel_rfl) ?_ | refine AM.drawW_fine (id := 20) hp (by kernel_rfl) (by kernel_rfl) (by kernel_rfl) ?_ | refine AM.drawW_fine (id := 22) hp (by kernel_rfl) (by kernel_rfl) (by kernel_rfl) ?_ | refine AM.opW_tied (by kernel_rfl) ?_ | refine AM.opW_untied (by kernel_rfl) ?_ | refine AM.build_w ?_))
    generalize hE_ : AHeap.put h4 _ _ = h5; obtain ⟨g5, fr5, n5, l5⟩ := AM.put_get hE_ (by omega); clear hE_
    (repeat' (first | (simp (maxSteps := 1000000) (disch := first | omega | (simp only [AM.DB, List.length_set, List.length_map]; first | done | omega)) only [AM.RB, Nat.reduceAdd, Nat.reduceMul, Nat.reduceEqDiff, reduceCtorEq, b49_PC8, g5]) | refine AM.drawW_loose (id := 8) hp (by kernel_rfl) (by kernel_rfl) ?_ | refine AM.drawW_loose (id := 15) hp (by kernel_rfl) (by kernel_rfl) ?_ | refine AM.drawW_loose (id := 18) hp (by kernel_rfl) (by kernel_rfl) ?_ | refine AM.drawW_fine (id := 20) hp (by kernel_rfl) (by kernel_rfl) (by kernel_rfl) ?_ | refine AM.drawW_fine (id := 22) hp (by kernel_rfl) (by kernel_rfl) (by kernel_rfl) ?_ | refine AM.opW_tied (by kernel_rfl) ?_ | refine AM.opW_untied (by kernel_rfl) ?_ | refine AM.build_w ?_))
    exact hq _ _ _ _ _ _ _ (Fr.fresh fr04 fr5 (fun id e => by have e : id = h.next + 1 + 1 := e; omega)) (fun e => by cases e)
  rw [hc, Bool.true_and] at hq
  have ch := (chk_iff _ _).1 hc
  have ra4 := ra.fr0 fr04
  have rb4 := rb.fr0 fr04
  (repeat' (first | (simp (maxSteps := 1000000) (disch := first | omega | (simp only [AM.DB, List.length_set, List.length_map]; first | done | omega)) only [AM.RB, Nat.reduceAdd, Nat.reduceMul, Nat.reduceEqDiff, reduceCtorEq, b49_PC8, g14]) | refine AM.drawW_loose (id := 8) hp (by kernel_rfl) (by kernel_rfl) ?_ | refine AM.drawW_loose (id := 15) hp (by kernel_rfl) (by kernel_rfl) ?_ | refine AM.drawW_loose (id := 18) hp (by kernel_rfl) (by kernel_rfl) ?_ | refine AM.drawW_fine (id := 20) hp (by kernel_rfl) (by kernel_rfl) (by kernel_rfl) ?_ | refine AM.drawW_fine (id := 22) hp (by kernel_rfl) (by kernel_rfl) (by kernel_rfl) ?_ | refine AM.opW_tied (by kernel_rfl) ?_ | refine AM.opW_untied (by kernel_rfl) ?_ | refine AM.build_w ?_))
  generalize hE_ : AHeap.put (AHeap.alloc h4 _) _ _ = h5; obtain ⟨g5, fr5, n5, l5⟩ := AM.box_get hE_ (by omega); clear hE_
  have ra5 := ra4.fr0 fr5
  have hx_1 := g14.fr0 fr5
  (repeat' (first | (simp (maxSteps := 1000000) (disch := first | omega | (simp only [AM.DB, List.length_set, List.length_map]; first | done | omega)) only [AM.RB, Nat.reduceAdd, Nat.reduceMul, Nat.reduceEqDiff, reduceCtorEq, b49_PC8, g5, hx_1]) | refine AM.drawW_loose (id := 8) hp (by kernel_rfl) (by kernel_rfl) ?_ | refine AM.drawW_loose (id := 15) hp (by kernel_rfl) (by kernel_rfl) ?_ | refine AM.drawW_loose (id := 18) hp (by kernel_rfl) (by kernel_rfl) ?_ | refine AM.drawW_fine (id := 20) hp (by kernel_rfl) (by kernel_rfl) (by kernel_rfl) ?_ | refine AM.drawW_fine (id := 22) hp (by kernel_rfl) (by kernel_rfl) (by kernel_rfl) ?_ | refine AM.opW_tied (by kernel_rfl) ?_ | refine AM.opW_untied (by kernel_rfl) ?_ | refine AM.build_w ?_))
  refine AM.appends_w ap_22 ap_22 (AM.Ow.nil _ _ _) ra5 (AM.ints_one _ _) (by omega) (AM.fits (by omega) (by omega)) (AM.fits' (by omega)) fun v6 h6 o6 fr6' hid6 => ?_
  rw [Nat.zero_add, List.nil_append] at o6
  have fr6 : Fr none' h5 h6 := fr6'.mono fun _ _ q => q
  have nx6 := fr6.next
  have lw6 := fr6.low
  obtain ⟨va, vc, rfl⟩ := o6.form
  have fr46 := fr5.trans fr6
  have hx_2 := g5.fr0 fr6
  have hx_3 := g14.fr0 fr46
  (repeat' (first | (simp (maxSteps := 1000000) (disch := first | omega | (simp only [AM.DB, List.length_set, List.length_map]; first | done | omega)) only [AM.RB, Nat.reduceAdd, Nat.reduceMul, Nat.reduceEqDiff, reduceCtorEq, b49_PC8, hx_2, hx_3]) | refine AM.drawW_loose (id := 8) hp (by kernel_rfl) (by kernel_rfl) ?_ | refine AM.drawW_loose (id := 15) hp (by kernel_rfl) (by kernel_rfl) ?_ | refine AM.drawW_loose (id := 18) hp (by kernel_rfl) (by kernel_rfl) ?_ | refine AM.drawW_fine (id := 20) hp (by kernel_rfl) (by kernel_rfl) (by kernel_rfl) ?_ | refine AM.drawW_fine (id := 22) hp (by kernel_rfl) (by kernel_rfl) (by kernel_rfl) ?_ | refine AM.opW_tied (by kernel_rfl) ?_ | refine AM.opW_untied (by kernel_rfl) ?_ | refine AM.build_w ?_))
  generalize hE_ : AHeap.put h6 _ _ = h7; obtain ⟨g7, fr7, n7, l7⟩ := AM.put_get hE_ (by omega); clear hE_
  have fr67 : Fr (fun id => id = h4.next) h4 h7 := ((fr5.trans fr6).mono fun _ _ q => q.elim).trans fr7
  have fr07 : Fr none' h h7 := Fr.fresh fr04 fr67 (fun id e => by have e : id = h4.next := e; omega)
  have fr47 : Fr none' h4 h7 := Fr.fresh (fr5.trans fr6) fr7 (fun id e => by have e : id = h4.next := e; omega)
  have o7 := o6.fr fr7 (fun id q e => by have e : id = h4.next := e; have := hid6 id q; rcases this with q | q; exact q.elim; omega)
  have rb7 := rb4.fr0 fr47
  have g17 := g14.fr0 fr47
  (repeat' (first | (simp (maxSteps := 1000000) (disch := first | omega | (simp only [AM.DB, List.length_set, List.length_map]; first | done | omega)) only [AM.RB, Nat.reduceAdd, Nat.reduceMul, Nat.reduceEqDiff, reduceCtorEq, b49_PC8, g7, g17]) | refine AM.drawW_loose (id := 8) hp (by kernel_rfl) (by kernel_rfl) ?_ | refine AM.drawW_loose (id := 15) hp (by kernel_rfl) (by kernel_rfl) ?_ | refine AM.drawW_loose (id := 18) hp (by kernel_rfl) (by kernel_rfl) ?_ | refine AM.drawW_fine (id := 20) hp (by kernel_rfl) (by kernel_rfl) (by kernel_rfl) ?_ | refine AM.drawW_fine (id := 22) hp (by kernel_rfl) (by kernel_rfl) (by kernel_rfl) ?_ | refine AM.opW_tied (by kernel_rfl) ?_ | refine AM.opW_untied (by kernel_rfl) ?_ | refine AM.build_w ?_))
  refine AM.appends_w ap_22 ap_22 (AM.Ow.nil _ _ _) rb7 (AM.ints_one _ _) (by omega) (AM.fits (by omega) (by omega)) (AM.fits' (by omega)) fun w8 h8 o8 fr8' hid8 => ?_
  rw [Nat.zero_add, List.nil_append] at o8
  have fr8 : Fr none' h7 h8 := fr8'.mono fun _ _ q => q
  have nx8 := fr8.next
  have lw8 := fr8.low
  obtain ⟨wa, wc, rfl⟩ := o8.form
  have fr48 := fr47.trans fr8
  have hx_4 := g7.fr0 fr8
  have hx_5 := g24.fr0 fr48
  (repeat' (first | (simp (maxSteps := 1000000) (disch := first | omega | (simp only [AM.DB, List.length_set, List.length_map]; first | done | omega)) only [AM.RB, Nat.reduceAdd, Nat.reduceMul, Nat.reduceEqDiff, reduceCtorEq, b49_PC8, hx_4, hx_5]) | refine AM.drawW_loose (id := 8) hp (by kernel_rfl) (by kernel_rfl) ?_ | refine AM.drawW_loose (id := 15) hp (by kernel_rfl) (by kernel_rfl) ?_ | refine AM.drawW_loose (id := 18) hp (by kernel_rfl) (by kernel_rfl) ?_ | refine AM.drawW_fine (id := 20) hp (by kernel_rfl) (by kernel_rfl) (by kernel_rfl) ?_ | refine AM.drawW_fine (id := 22) hp (by kernel_rfl) (by kernel_rfl) (by kernel_rfl) ?_ | refine AM.opW_tied (by kernel_rfl) ?_ | refine AM.opW_untied (by kernel_rfl) ?_ | refine AM.build_w ?_))
  generalize hE_ : AHeap.put h8 _ _ = h9; obtain ⟨g9, fr9, n9, l9⟩ := AM.put_get hE_ (by omega); clear hE_
  have hv9 : ∀ id, idOf (.slice va s.1.length vc) id → h4.next + 1 ≤ id ∧ id < h7.next := fun id q => by
    have h1 := hid6 id q
    have h2 := o6.lt q
    rcases h1 with h1 | h1
    · exact h1.elim
    · omega
  have hw9 : ∀ id, idOf (.slice wa s.2.length wc) id → h7.next ≤ id := fun id q => by
    rcases hid8 id q with h1 | h1
    · exact h1.elim
    · exact h1
  have o1 := (o7.fr0 fr8).fr fr9 (fun id q e => by have e : id = h4.next := e; have := hv9 id q; omega)
  have o2 := o8.fr fr9 (fun id q e => by have e : id = h4.next := e; have := hw9 id q; omega)
  have fr49 : Fr none' h4 h9 := Fr.fresh (fr47.trans fr8) fr9 (fun id e => by have e : id = h4.next := e; omega)
  have fr09 := fr04.trans fr49
  have nx9 := fr49.next
  have lw9 := fr49.low
  have r9 := r.fr0 fr09
  have ra9 := ra.fr0 fr09
  have rb9 := rb.fr0 fr09
  have g19 := g14.fr0 fr49
  have g29 := g24.fr0 fr49
  have g39 := g34.fr0 fr49
  clear fr1 fr2 fr3 fr4 fr5 fr6 fr6' fr7 fr8 fr8' fr9 fr67 fr07 fr47 fr03 g1 g2 g3 g13 g23 g14 g24 g34 g17 g5 g7 o6 o7 o8 ra5 ra4 rb4 rb7 hid6 hid8
  have lt4 : h4.next < h9.next := AM.get_some_lt g9
  have bad : ∀ {Q : VQ} {h' : AHeap}, may L s (k, t, c) = false → (∀ a1 m1 c1 a2 m2 c2 h', Fr none' h h' → (may L s (k, t, c) = true → StO h.next h' (.agg #[.slice a1 m1 c1, .slice a2 m2 c2]) (turnS s (k, t, c))) → Q (.tuple #[.agg #[.slice a1 m1 c1, .slice a2 m2 c2], .bool (may L s (k, t, c))]) h') → Fr none' h h' → ∀ a1 m1 c1 a2 m2 c2, Q (.tuple #[.agg #[.slice a1 m1 c1, .slice a2 m2 c2], .bool false]) h' := fun e hq fr a1 m1 c1 a2 m2 c2 => by
    rw [e] at hq
    exact hq _ _ _ _ _ _ _ fr (fun e => by cases e)
  by_cases k0 : k = 0
  · subst k0
    have e : may L s (0, t, c) = (decide (t = 0) && decide (c = 0)) := by unfold may; rw [if_pos rfl]
    rw [e] at hq
    have et : turnS s (0, t, c) = s := by unfold turnS; rw [if_neg (show ¬ (0 : Int) = 1 by decide), if_neg (show ¬ (0 : Int) = 2 by decide), if_neg (show ¬ (0 : Int) = 3 by decide)]
    rw [et] at hq
    have fin : ∀ h', Fr (fun id => id = h.next + 1 + 1) h9 h' → Fr none' h h' ∧ StO h.next h' (.agg #[.slice va s.1.length vc, .slice wa s.2.length wc]) s := fun h' fr => by
      refine ⟨Fr.fresh fr09 fr (fun id e => by have e : id = h.next + 1 + 1 := e; omega), _, _, rfl, o1.fr fr (fun id q e => by have e : id = h.next + 1 + 1 := e; have := hv9 id q; omega), o2.fr fr (fun id q e => by have e : id = h.next + 1 + 1 := e; have := hw9 id q; omega), fun id q => ?_, fun id q1 q2 => ?_⟩
      · rcases q with q | q
        · have := hv9 id q; omega
        · have := hw9 id q; omega
      · have := hv9 id q1; have := hw9 id q2; omega
    cases t0 : decide (t = 0) <;> cases c0 : decide (c = 0) <;> rw [t0, c0] at hq
    all_goals (
      (repeat' (first | (simp (maxSteps := 1000000) (disch := first | omega | (simp only [AM.DB, List.length_set, List.length_map]; first | done | omega)) only [AM.RB, Nat.reduceAdd, Nat.reduceMul, Nat.reduceEqDiff, reduceCtorEq, b49_PC8, g9, g19, g29, g39, t0, c0]) | refine AM.drawW_loose (id := 8) hp (by kernel_rfl) (by kernel_rfl) ?_ | refine AM.drawW_loose (id := 15) hp (by kernel_rfl) (by kernel_rfl) ?_ | refine AM.drawW_loose (id := 18) hp (by kernel_rfl) (by kernel_rfl) ?_ | refine AM.drawW_fine (id := 20) hp (by kernel_rfl) (by kernel_rfl) (by kernel_rfl) ?_ | refine AM.drawW_fine (id := 22) hp (by kernel_rfl) (by kernel_rfl) (by kernel_rfl) ?_ | refine AM.opW_tied (by kernel_rfl) ?_ | refine AM.opW_untied (by kernel_rfl) ?_ | refine AM.build_w ?_))
      generalize hE_ : AHeap.put h9 _ _ = h10; obtain ⟨g10, fr10, n10, l10⟩ := AM.put_get hE_ (by omega); clear hE_
      have g2a := fr10.get g29 (show ¬ h.next + 1 = h.next + 1 + 1 by omega)
      refine ⟨AM.looseOk_by [(6, [0, 10])] (by kernel_rfl) ?_, ?_⟩
      · simp (maxSteps := 1000000) (disch := first | omega | (simp only [AM.DB, List.length_set, List.length_map]; first | done | omega)) only [AM.RB, Nat.reduceAdd, Nat.reduceMul, Nat.reduceEqDiff, reduceCtorEq, b49_PC8]
        all_goals ((repeat' apply And.intro) <;> (first | (refine AM.stable_len _ _ _ _ _ _ (fun _ => ?_); (simp (maxSteps := 1000000) (disch := first | omega | (simp only [AM.DB, List.length_set, List.length_map]; first | done | omega)) only [AM.RB, Nat.reduceAdd, Nat.reduceMul, Nat.reduceEqDiff, reduceCtorEq, b49_PC8, g29, g2a])) | (refine AM.stable_load _ _ _ _ _ _ ?_; (first | (simp (maxSteps := 1000000) (disch := first | omega | (simp only [AM.DB, List.length_set, List.length_map]; first | done | omega)) only [AM.RB, Nat.reduceAdd, Nat.reduceMul, Nat.reduceEqDiff, reduceCtorEq, b49_PC8, g29, g2a]) | skip); (first | (refine AM.stabL_int (by omega) ?_; (simp (maxSteps := 1000000) (disch := first | omega | (simp only [AM.DB, List.length_set, List.length_map]; first | done | omega)) only [AM.RB, Nat.reduceAdd, Nat.reduceMul, Nat.reduceEqDiff, reduceCtorEq, b49_PC8, g29, g2a])) | (refine AM.stabL_ptr (by omega) (by omega) ?_; (simp (maxSteps := 1000000) (disch := first | omega | (simp only [AM.DB, List.length_set, List.length_map]; first | done | omega)) only [AM.RB, Nat.reduceAdd, Nat.reduceMul, Nat.reduceEqDiff, reduceCtorEq, b49_PC8, g29, g2a])) | (refine AM.stabL_string (by omega) ?_; (simp (maxSteps := 1000000) (disch := first | omega | (simp only [AM.DB, List.length_set, List.length_map]; first | done | omega)) only [AM.RB, Nat.reduceAdd, Nat.reduceMul, Nat.reduceEqDiff, reduceCtorEq, b49_PC8, g29, g2a])) | (refine AM.stabL_bool (by omega) ?_; (simp (maxSteps := 1000000) (disch := first | omega | (simp only [AM.DB, List.length_set, List.length_map]; first | done | omega)) only [AM.RB, Nat.reduceAdd, Nat.reduceMul, Nat.reduceEqDiff, reduceCtorEq, b49_PC8, g29, g2a]))))))
      (repeat' (first | (simp (maxSteps := 1000000) (disch := first | omega | (simp only [AM.DB, List.length_set, List.length_map]; first | done | omega)) only [AM.RB, Nat.reduceAdd, Nat.reduceMul, Nat.reduceEqDiff, reduceCtorEq, b49_PC8, g10]) | refine AM.drawW_loose (id := 8) hp (by kernel_rfl) (by kernel_rfl) ?_ | refine AM.drawW_loose (id := 15) hp (by kernel_rfl) (by kernel_rfl) ?_ | refine AM.drawW_loose (id := 18) hp (by kernel_rfl) (by kernel_rfl) ?_ | refine AM.drawW_fine (id := 20) hp (by kernel_rfl) (by kernel_rfl) (by kernel_rfl) ?_ | refine AM.drawW_fine (id := 22) hp (by kernel_rfl) (by kernel_rfl) (by kernel_rfl) ?_ | refine AM.opW_tied (by kernel_rfl) ?_ | refine AM.opW_untied (by kernel_rfl) ?_ | refine AM.build_w ?_))
      exact hq _ _ _ _ _ _ _ (fin _ fr10).1 (fun _ => (fin _ fr10).2))
  have dk0 : decide (k = 0) = false := decide_eq_false k0
  (repeat' (first | (simp (maxSteps := 1000000) (disch := first | omega | (simp only [AM.DB, List.length_set, List.length_map]; first | done | omega)) only [AM.RB, Nat.reduceAdd, Nat.reduceMul, Nat.reduceEqDiff, reduceCtorEq, b49_PC8, dk0, g29]) | refine AM.drawW_loose (id := 8) hp (by kernel_rfl) (by kernel_rfl) ?_ | refine AM.drawW_loose (id := 15) hp (by kernel_rfl) (by kernel_rfl) ?_ | refine AM.drawW_loose (id := 18) hp (by kernel_rfl) (by kernel_rfl) ?_ | refine AM.drawW_fine (id := 20) hp (by kernel_rfl) (by kernel_rfl) (by kernel_rfl) ?_ | refine AM.drawW_fine (id := 22) hp (by kernel_rfl) (by kernel_rfl) (by kernel_rfl) ?_ | refine AM.opW_tied (by kernel_rfl) ?_ | refine AM.opW_untied (by kernel_rfl) ?_ | refine AM.build_w ?_))
  refine refFree_w r9 G.rows hbd G.all c ?_
  rw [G.free]
  have badE : ∀ h', may L s (k, t, c) = false → Fr (fun id => id = h.next + 1 + 1) h9 h' → Q (.tuple #[.agg #[.slice none 0 0, .slice none 0 0], .bool false]) h' := fun h' e fr => bad e hq (Fr.fresh fr09 fr (fun id e => by have e : id = h.next + 1 + 1 := e; omega)) _ _ _ _ _ _
  by_cases t0 : t < 0
  · have e : may L s (k, t, c) = false := by unfold may; rw [if_neg k0, decide_eq_false (show ¬ 0 ≤ t by omega)]; rfl
    (repeat' (first | (simp (maxSteps := 1000000) (disch := first | omega | (simp only [AM.DB, List.length_set, List.length_map]; first | done | omega)) only [AM.RB, Nat.reduceAdd, Nat.reduceMul, Nat.reduceEqDiff, reduceCtorEq, b49_PC8, g29, g39, decide_eq_true t0]) | refine AM.drawW_loose (id := 8) hp (by kernel_rfl) (by kernel_rfl) ?_ | refine AM.drawW_loose (id := 15) hp (by kernel_rfl) (by kernel_rfl) ?_ | refine AM.drawW_loose (id := 18) hp (by kernel_rfl) (by kernel_rfl) ?_ | refine AM.drawW_fine (id := 20) hp (by kernel_rfl) (by kernel_rfl) (by kernel_rfl) ?_ | refine AM.drawW_fine (id := 22) hp (by kernel_rfl) (by kernel_rfl) (by kernel_rfl) ?_ | refine AM.opW_tied (by kernel_rfl) ?_ | refine AM.opW_untied (by kernel_rfl) ?_ | refine AM.build_w ?_))
    generalize hE_ : AHeap.put h9 _ _ = h10; obtain ⟨g10, fr10, n10, l10⟩ := AM.put_get hE_ (by omega); clear hE_
    (repeat' (first | (simp (maxSteps := 1000000) (disch := first | omega | (simp only [AM.DB, List.length_set, List.length_map]; first | done | omega)) only [AM.RB, Nat.reduceAdd, Nat.reduceMul, Nat.reduceEqDiff, reduceCtorEq, b49_PC8, g10]) | refine AM.drawW_loose (id := 8) hp (by kernel_rfl) (by kernel_rfl) ?_ | refine AM.drawW_loose (id := 15) hp (by kernel_rfl) (by kernel_rfl) ?_ | refine AM.drawW_loose (id := 18) hp (by kernel_rfl) (by kernel_rfl) ?_ | refine AM.drawW_fine (id := 20) hp (by kernel_rfl) (by kernel_rfl) (by kernel_rfl) ?_ | refine AM.drawW_fine (id := 22) hp (by kernel_rfl) (by kernel_rfl) (by kernel_rfl) ?_ | refine AM.opW_tied (by kernel_rfl) ?_ | refine AM.opW_untied (by kernel_rfl) ?_ | refine AM.build_w ?_))
    exact badE _ e fr10
  by_cases t1 : (s.1.length : Int) ≤ t
  · have e : may L s (k, t, c) = false := by unfold may; rw [if_neg k0, decide_eq_false (show ¬ t < s.1.length by omega), Bool.and_false]; rfl
    (repeat' (first | (simp (maxSteps := 1000000) (disch := first | omega | (simp only [AM.DB, List.length_set, List.length_map]; first | done | omega)) only [AM.RB, Nat.reduceAdd, Nat.reduceMul, Nat.reduceEqDiff, reduceCtorEq, b49_PC8, g19, g29, g39, decide_eq_false t0, decide_eq_true t1]) | refine AM.drawW_loose (id := 8) hp (by kernel_rfl) (by kernel_rfl) ?_ | refine AM.drawW_loose (id := 15) hp (by kernel_rfl) (by kernel_rfl) ?_ | refine AM.drawW_loose (id := 18) hp (by kernel_rfl) (by kernel_rfl) ?_ | refine AM.drawW_fine (id := 20) hp (by kernel_rfl) (by kernel_rfl) (by kernel_rfl) ?_ | refine AM.drawW_fine (id := 22) hp (by kernel_rfl) (by kernel_rfl) (by kernel_rfl) ?_ | refine AM.opW_tied (by kernel_rfl) ?_ | refine AM.opW_untied (by kernel_rfl) ?_ | refine AM.build_w ?_))
    generalize hE_ : AHeap.put h9 _ _ = h10; obtain ⟨g10, fr10, n10, l10⟩ := AM.put_get hE_ (by omega); clear hE_
    (repeat' (first | (simp (maxSteps := 1000000) (disch := first | omega | (simp only [AM.DB, List.length_set, List.length_map]; first | done | omega)) only [AM.RB, Nat.reduceAdd, Nat.reduceMul, Nat.reduceEqDiff, reduceCtorEq, b49_PC8, g10]) | refine AM.drawW_loose (id := 8) hp (by kernel_rfl) (by kernel_rfl) ?_ | refine AM.drawW_loose (id := 15) hp (by kernel_rfl) (by kernel_rfl) ?_ | refine AM.drawW_loose (id := 18) hp (by kernel_rfl) (by kernel_rfl) ?_ | refine AM.drawW_fine (id := 20) hp (by kernel_rfl) (by kernel_rfl) (by kernel_rfl) ?_ | refine AM.drawW_fine (id := 22) hp (by kernel_rfl) (by kernel_rfl) (by kernel_rfl) ?_ | refine AM.opW_tied (by kernel_rfl) ?_ | refine AM.opW_untied (by kernel_rfl) ?_ | refine AM.build_w ?_))
    exact badE _ e fr10
  cases fc : freeP L.flatten c
  · have e : may L s (k, t, c) = false := by unfold may; rw [if_neg k0, fc, Bool.and_false]; rfl
    (repeat' (first | (simp (maxSteps := 1000000) (disch := first | omega | (simp only [AM.DB, List.length_set, List.length_map]; first | done | omega)) only [AM.RB, Nat.reduceAdd, Nat.reduceMul, Nat.reduceEqDiff, reduceCtorEq, b49_PC8, g19, g29, g39, decide_eq_false t0, decide_eq_false t1]) | refine AM.drawW_loose (id := 8) hp (by kernel_rfl) (by kernel_rfl) ?_ | refine AM.drawW_loose (id := 15) hp (by kernel_rfl) (by kernel_rfl) ?_ | refine AM.drawW_loose (id := 18) hp (by kernel_rfl) (by kernel_rfl) ?_ | refine AM.drawW_fine (id := 20) hp (by kernel_rfl) (by kernel_rfl) (by kernel_rfl) ?_ | refine AM.drawW_fine (id := 22) hp (by kernel_rfl) (by kernel_rfl) (by kernel_rfl) ?_ | refine AM.opW_tied (by kernel_rfl) ?_ | refine AM.opW_untied (by kernel_rfl) ?_ | refine AM.build_w ?_))
    generalize hE_ : AHeap.put h9 _ _ = h10; obtain ⟨g10, fr10, n10, l10⟩ := AM.put_get hE_ (by omega); clear hE_
    (repeat' (first | (simp (maxSteps := 1000000) (disch := first | omega | (simp only [AM.DB, List.length_set, List.length_map]; first | done | omega)) only [AM.RB, Nat.reduceAdd, Nat.reduceMul, Nat.reduceEqDiff, reduceCtorEq, b49_PC8, g10]) | refine AM.drawW_loose (id := 8) hp (by kernel_rfl) (by kernel_rfl) ?_ | refine AM.drawW_loose (id := 15) hp (by kernel_rfl) (by kernel_rfl) ?_ | refine AM.drawW_loose (id := 18) hp (by kernel_rfl) (by kernel_rfl) ?_ | refine AM.drawW_fine (id := 20) hp (by kernel_rfl) (by kernel_rfl) (by kernel_rfl) ?_ | refine AM.drawW_fine (id := 22) hp (by kernel_rfl) (by kernel_rfl) (by kernel_rfl) ?_ | refine AM.opW_tied (by kernel_rfl) ?_ | refine AM.opW_untied (by kernel_rfl) ?_ | refine AM.build_w ?_))
    exact badE _ e fr10
  obtain ⟨c1, c2⟩ := freeP_in fc
  obtain ⟨c, rfl⟩ := Int.eq_ofNat_of_zero_le c1
  obtain ⟨t, rfl⟩ := Int.eq_ofNat_of_zero_le (show 0 ≤ t by omega)
  have hln := ch.ln
  have hcl : c < s.2.length := by omega
  have htl : t < s.1.length := by omega
  obtain ⟨at_, hat⟩ : ∃ y, s.1.getD t 0 = y := ⟨_, rfl⟩
  obtain ⟨ho, hho⟩ : ∃ y, s.2.getD c 0 = y := ⟨_, rfl⟩
  have e : may L s (k, t, c) = (if k = 1 then decide (ho = -1) else if k = 2 then decide (ho = t) && !decide (at_ = c) else if k = 3 then decide (ho = t) && edgeL L at_ c else false) := by
    have dr0 : decide (0 ≤ (t : Int)) = true := decide_eq_true (by omega)
    have dr1 : decide ((t : Int) < (s.1.length : Int)) = true := decide_eq_true (by omega)
    unfold may
    simp only [Int.toNat_natCast]
    rw [if_neg k0, fc, dr0, dr1]
    simp only [hat, hho, Bool.and_self, Bool.true_and]
  rw [e] at hq
  have fin : ∀ h' u, Fr (fun id => idOf (.slice va s.1.length vc) id ∨ idOf (.slice wa s.2.length wc) id ∨ id = h.next + 1 + 1) h9 h' → Ow h' 3 1 (.slice va s.1.length vc) s.1.length (u.1.map (.int .i64)) → Ow h' 3 1 (.slice wa s.2.length wc) s.2.length (u.2.map (.int .i64)) → u.1.length = s.1.length → u.2.length = s.2.length → Fr none' h h' ∧ StO h.next h' (.agg #[.slice va s.1.length vc, .slice wa s.2.length wc]) u := fun h' u fr q1 q2 e1 e2 => by
    refine ⟨Fr.fresh fr09 fr (fun id e => by
      rcases e with e | e | e
      · have := hv9 id e; omega
      · have := hw9 id e; omega
      · omega), _, _, rfl, by rw [e1]; exact q1, by rw [e2]; exact q2, fun id q => ?_, fun id q1 q2 => ?_⟩
    · rcases q with q | q
      · have := hv9 id q; omega
      · have := hw9 id q; omega
    · have := hv9 id q1; have := hw9 id q2; omega
  (repeat' (first | (simp (maxSteps := 1000000) (disch := first | omega | (simp only [AM.DB, List.length_set, List.length_map]; first | done | omega)) only [AM.RB, Nat.reduceAdd, Nat.reduceMul, Nat.reduceEqDiff, reduceCtorEq, b49_PC8, g19, g29, decide_eq_false t0, decide_eq_false t1]) | refine AM.drawW_loose (id := 8) hp (by kernel_rfl) (by kernel_rfl) ?_ | refine AM.drawW_loose (id := 15) hp (by kernel_rfl) (by kernel_rfl) ?_ | refine AM.drawW_loose (id := 18) hp (by kernel_rfl) (by kernel_rfl) ?_ | refine AM.drawW_fine (id := 20) hp (by kernel_rfl) (by kernel_rfl) (by kernel_rfl) ?_ | refine AM.drawW_fine (id := 22) hp (by kernel_rfl) (by kernel_rfl) (by kernel_rfl) ?_ | refine AM.opW_tied (by kernel_rfl) ?_ | refine AM.opW_untied (by kernel_rfl) ?_ | refine AM.build_w ?_))
  by_cases k1 : k = 1
  · subst k1
    rw [if_pos rfl] at hq
    have eu : turnS s (1, (t : Int), (c : Int)) = (s.1, s.2.set c t) := rfl
    rw [eu] at hq
    (repeat' (first | (simp (maxSteps := 1000000) (disch := first | omega | (simp only [AM.DB, List.length_set, List.length_map]; first | done | omega)) only [AM.RB, Nat.reduceAdd, Nat.reduceMul, Nat.reduceEqDiff, reduceCtorEq, b49_PC8, g9, g19, g29, o2.ia el_22, Int.toNat_natCast]) | refine AM.drawW_loose (id := 8) hp (by kernel_rfl) (by kernel_rfl) ?_ | refine AM.drawW_loose (id := 15) hp (by kernel_rfl) (by kernel_rfl) ?_ | refine AM.drawW_loose (id := 18) hp (by kernel_rfl) (by kernel_rfl) ?_ | refine AM.drawW_fine (id := 20) hp (by kernel_rfl) (by kernel_rfl) (by kernel_rfl) ?_ | refine AM.drawW_fine (id := 22) hp (by kernel_rfl) (by kernel_rfl) (by kernel_rfl) ?_ | refine AM.opW_tied (by kernel_rfl) ?_ | refine AM.opW_untied (by kernel_rfl) ?_ | refine AM.build_w ?_))
    refine o2.st sz_3 (j := c) (by omega) rfl rfl fun h10 o10 fr10 n10 => ?_
    rw [map_set'] at o10
    have hst : ∀ id, idOf (.slice wa s.2.length wc) id → h4.next + 1 ≤ id := fun id q => by have := hw9 id q; omega
    have lw10 := fr10.low
    have g9a := fr10.get g9 (fun q => by have := hst _ q; omega)
    have g1a := fr10.get g19 (fun q => by have := hst _ q; omega)
    have g2a := fr10.get g29 (fun q => by have := hst _ q; omega)
    have g3a := fr10.get g39 (fun q => by have := hst _ q; omega)
    have raa := ra9.fr fr10 (fun id q1 q2 => by have := ra.lt q1; have := hst _ q2; omega)
    have rba := rb9.fr fr10 (fun id q1 q2 => by have := rb.lt q1; have := hst _ q2; omega)
    (repeat' (first | (simp (maxSteps := 1000000) (disch := first | omega | (simp only [AM.DB, List.length_set, List.length_map]; first | done | omega)) only [AM.RB, Nat.reduceAdd, Nat.reduceMul, Nat.reduceEqDiff, reduceCtorEq, b49_PC8, g9a, g1a, g2a, g3a, rba.ia el_22, Rd.ldi rba lk_3, Int.toNat_natCast, hho]) | refine AM.drawW_loose (id := 8) hp (by kernel_rfl) (by kernel_rfl) ?_ | refine AM.drawW_loose (id := 15) hp (by kernel_rfl) (by kernel_rfl) ?_ | refine AM.drawW_loose (id := 18) hp (by kernel_rfl) (by kernel_rfl) ?_ | refine AM.drawW_fine (id := 20) hp (by kernel_rfl) (by kernel_rfl) (by kernel_rfl) ?_ | refine AM.drawW_fine (id := 22) hp (by kernel_rfl) (by kernel_rfl) (by kernel_rfl) ?_ | refine AM.opW_tied (by kernel_rfl) ?_ | refine AM.opW_untied (by kernel_rfl) ?_ | refine AM.build_w ?_))
    generalize hE_ : AHeap.put h10 _ _ = h11; obtain ⟨g11, fr11, n11, l11⟩ := AM.put_get hE_ (by omega); clear hE_
    have g1b := fr11.get g1a (show ¬ h.next = h.next + 1 + 1 by omega)
    have g2b := fr11.get g2a (show ¬ h.next + 1 = h.next + 1 + 1 by omega)
    have rab := raa.fr fr11 (fun id q1 q2 => by have := ra.lt q1; have q2 : id = h.next + 1 + 1 := q2; omega)
    have rbb := rba.fr fr11 (fun id q1 q2 => by have := rb.lt q1; have q2 : id = h.next + 1 + 1 := q2; omega)
    refine ⟨AM.looseOk_by [(2, [0, 9]), (4, [0, 9]), (6, [0, 9])] (by kernel_rfl) ?_, ?_⟩
    · simp (maxSteps := 1000000) (disch := first | omega | (simp only [AM.DB, List.length_set, List.length_map]; first | done | omega)) only [AM.RB, Nat.reduceAdd, Nat.reduceMul, Nat.reduceEqDiff, reduceCtorEq, b49_PC8]
      all_goals ((repeat' apply And.intro) <;> (first | (refine AM.stable_len _ _ _ _ _ _ (fun _ => ?_); (simp (maxSteps := 1000000) (disch := first | omega | (simp only [AM.DB, List.length_set, List.length_map]; first | done | omega)) only [AM.RB, Nat.reduceAdd, Nat.reduceMul, Nat.reduceEqDiff, reduceCtorEq, b49_PC8, g1a, g2a, g1b, g2b, rba.ia el_22, Rd.ldi rba lk_3, rbb.ia el_22, Rd.ldi rbb lk_3, Int.toNat_natCast, hho])) | (refine AM.stable_load _ _ _ _ _ _ ?_; (first | (simp (maxSteps := 1000000) (disch := first | omega | (simp only [AM.DB, List.length_set, List.length_map]; first | done | omega)) only [AM.RB, Nat.reduceAdd, Nat.reduceMul, Nat.reduceEqDiff, reduceCtorEq, b49_PC8, g1a, g2a, g1b, g2b, rba.ia el_22, Rd.ldi rba lk_3, rbb.ia el_22, Rd.ldi rbb lk_3, Int.toNat_natCast, hho]) | skip); (first | (refine AM.stabL_int (by omega) ?_; (simp (maxSteps := 1000000) (disch := first | omega | (simp only [AM.DB, List.length_set, List.length_map]; first | done | omega)) only [AM.RB, Nat.reduceAdd, Nat.reduceMul, Nat.reduceEqDiff, reduceCtorEq, b49_PC8, g1a, g2a, g1b, g2b, rba.ia el_22, Rd.ldi rba lk_3, rbb.ia el_22, Rd.ldi rbb lk_3, Int.toNat_natCast, hho])) | (refine AM.stabL_ptr (by omega) (by omega) ?_; (simp (maxSteps := 1000000) (disch := first | omega | (simp only [AM.DB, List.length_set, List.length_map]; first | done | omega)) only [AM.RB, Nat.reduceAdd, Nat.reduceMul, Nat.reduceEqDiff, reduceCtorEq, b49_PC8, g1a, g2a, g1b, g2b, rba.ia el_22, Rd.ldi rba lk_3, rbb.ia el_22, Rd.ldi rbb lk_3, Int.toNat_natCast, hho])) | (refine AM.stabL_string (by omega) ?_; (simp (maxSteps := 1000000) (disch := first | omega | (simp only [AM.DB, List.length_set, List.length_map]; first | done | omega)) only [AM.RB, Nat.reduceAdd, Nat.reduceMul, Nat.reduceEqDiff, reduceCtorEq, b49_PC8, g1a, g2a, g1b, g2b, rba.ia el_22, Rd.ldi rba lk_3, rbb.ia el_22, Rd.ldi rbb lk_3, Int.toNat_natCast, hho])) | (refine AM.stabL_bool (by omega) ?_; (simp (maxSteps := 1000000) (disch := first | omega | (simp only [AM.DB, List.length_set, List.length_map]; first | done | omega)) only [AM.RB, Nat.reduceAdd, Nat.reduceMul, Nat.reduceEqDiff, reduceCtorEq, b49_PC8, g1a, g2a, g1b, g2b, rba.ia el_22, Rd.ldi rba lk_3, rbb.ia el_22, Rd.ldi rbb lk_3, Int.toNat_natCast, hho])) | (refine AM.stabL_rd rba (by omega) (by omega) ?_; (simp (maxSteps := 1000000) (disch := first | omega | (simp only [AM.DB, List.length_set, List.length_map]; first | done | omega)) only [AM.RB, Nat.reduceAdd, Nat.reduceMul, Nat.reduceEqDiff, reduceCtorEq, b49_PC8, g1a, g2a, g1b, g2b, rba.ia el_22, Rd.ldi rba lk_3, rbb.ia el_22, Rd.ldi rbb lk_3, Int.toNat_natCast, hho])) | (refine AM.stabL_rd rbb (by omega) (by omega) ?_; (simp (maxSteps := 1000000) (disch := first | omega | (simp only [AM.DB, List.length_set, List.length_map]; first | done | omega)) only [AM.RB, Nat.reduceAdd, Nat.reduceMul, Nat.reduceEqDiff, reduceCtorEq, b49_PC8, g1a, g2a, g1b, g2b, rba.ia el_22, Rd.ldi rba lk_3, rbb.ia el_22, Rd.ldi rbb lk_3, Int.toNat_natCast, hho])) | (refine AM.stabL_elS rba (by omega) (by omega) ?_; (simp (maxSteps := 1000000) (disch := first | omega | (simp only [AM.DB, List.length_set, List.length_map]; first | done | omega)) only [AM.RB, Nat.reduceAdd, Nat.reduceMul, Nat.reduceEqDiff, reduceCtorEq, b49_PC8, g1a, g2a, g1b, g2b, rba.ia el_22, Rd.ldi rba lk_3, rbb.ia el_22, Rd.ldi rbb lk_3, Int.toNat_natCast, hho])) | (refine AM.stabL_elI rba (by omega) (by omega) ?_; (simp (maxSteps := 1000000) (disch := first | omega | (simp only [AM.DB, List.length_set, List.length_map]; first | done | omega)) only [AM.RB, Nat.reduceAdd, Nat.reduceMul, Nat.reduceEqDiff, reduceCtorEq, b49_PC8, g1a, g2a, g1b, g2b, rba.ia el_22, Rd.ldi rba lk_3, rbb.ia el_22, Rd.ldi rbb lk_3, Int.toNat_natCast, hho])) | (refine AM.stabL_elS rbb (by omega) (by omega) ?_; (simp (maxSteps := 1000000) (disch := first | omega | (simp only [AM.DB, List.length_set, List.length_map]; first | done | omega)) only [AM.RB, Nat.reduceAdd, Nat.reduceMul, Nat.reduceEqDiff, reduceCtorEq, b49_PC8, g1a, g2a, g1b, g2b, rba.ia el_22, Rd.ldi rba lk_3, rbb.ia el_22, Rd.ldi rbb lk_3, Int.toNat_natCast, hho])) | (refine AM.stabL_elI rbb (by omega) (by omega) ?_; (simp (maxSteps := 1000000) (disch := first | omega | (simp only [AM.DB, List.length_set, List.length_map]; first | done | omega)) only [AM.RB, Nat.reduceAdd, Nat.reduceMul, Nat.reduceEqDiff, reduceCtorEq, b49_PC8, g1a, g2a, g1b, g2b, rba.ia el_22, Rd.ldi rba lk_3, rbb.ia el_22, Rd.ldi rbb lk_3, Int.toNat_natCast, hho]))))))
    (repeat' (first | (simp (maxSteps := 1000000) (disch := first | omega | (simp only [AM.DB, List.length_set, List.length_map]; first | done | omega)) only [AM.RB, Nat.reduceAdd, Nat.reduceMul, Nat.reduceEqDiff, reduceCtorEq, b49_PC8, g11]) | refine AM.drawW_loose (id := 8) hp (by kernel_rfl) (by kernel_rfl) ?_ | refine AM.drawW_loose (id := 15) hp (by kernel_rfl) (by kernel_rfl) ?_ | refine AM.drawW_loose (id := 18) hp (by kernel_rfl) (by kernel_rfl) ?_ | refine AM.drawW_fine (id := 20) hp (by kernel_rfl) (by kernel_rfl) (by kernel_rfl) ?_ | refine AM.drawW_fine (id := 22) hp (by kernel_rfl) (by kernel_rfl) (by kernel_rfl) ?_ | refine AM.opW_tied (by kernel_rfl) ?_ | refine AM.opW_untied (by kernel_rfl) ?_ | refine AM.build_w ?_))
    have ff := fin _ (s.1, s.2.set c t) ((fr10.mono fun _ _ q => .inr (.inl q)).trans (fr11.mono fun _ _ q => .inr (.inr q))) ((o1.fr fr10 (fun id q1 q2 => by have := hv9 id q1; have := hw9 id q2; omega)).fr fr11 (fun id q1 e => by have := hv9 id q1; have e : id = h.next + 1 + 1 := e; omega)) (o10.fr fr11 (fun id q1 e => by have := hw9 id q1; have e : id = h.next + 1 + 1 := e; omega)) rfl (by simp)
    exact hq _ _ _ _ _ _ _ ff.1 (fun _ => ff.2)
  by_cases k2 : k = 2
  · subst k2
    rw [if_neg (by decide), if_pos rfl] at hq
    have eu : turnS s (2, (t : Int), (c : Int)) = (s.1, s.2.set c (-1)) := rfl
    have d21 : decide ((2 : Int) = 1) = false := rfl
    have d22 : decide ((2 : Int) = 2) = true := rfl
    rw [eu] at hq
    cases e1 : decide (ho = (t : Int)) <;> cases e2 : decide (at_ = (c : Int)) <;> rw [e1, e2] at hq
    all_goals (
      (repeat' (first | (simp (maxSteps := 1000000) (disch := first | omega | (simp only [AM.DB, List.length_set, List.length_map]; first | done | omega)) only [AM.RB, Nat.reduceAdd, Nat.reduceMul, Nat.reduceEqDiff, reduceCtorEq, b49_PC8, d21, d22, g9, g19, g29, o2.ia el_22, Int.toNat_natCast]) | refine AM.drawW_loose (id := 8) hp (by kernel_rfl) (by kernel_rfl) ?_ | refine AM.drawW_loose (id := 15) hp (by kernel_rfl) (by kernel_rfl) ?_ | refine AM.drawW_loose (id := 18) hp (by kernel_rfl) (by kernel_rfl) ?_ | refine AM.drawW_fine (id := 20) hp (by kernel_rfl) (by kernel_rfl) (by kernel_rfl) ?_ | refine AM.drawW_fine (id := 22) hp (by kernel_rfl) (by kernel_rfl) (by kernel_rfl) ?_ | refine AM.opW_tied (by kernel_rfl) ?_ | refine AM.opW_untied (by kernel_rfl) ?_ | refine AM.build_w ?_))
      refine o2.st sz_3 (j := c) (by omega) rfl rfl fun h10 o10 fr10 n10 => ?_
      rw [map_set'] at o10
      have hst : ∀ id, idOf (.slice wa s.2.length wc) id → h4.next + 1 ≤ id := fun id q => by have := hw9 id q; omega
      have lw10 := fr10.low
      have g9a := fr10.get g9 (fun q => by have := hst _ q; omega)
      have g1a := fr10.get g19 (fun q => by have := hst _ q; omega)
      have g2a := fr10.get g29 (fun q => by have := hst _ q; omega)
      have g3a := fr10.get g39 (fun q => by have := hst _ q; omega)
      have raa := ra9.fr fr10 (fun id q1 q2 => by have := ra.lt q1; have := hst _ q2; omega)
      have rba := rb9.fr fr10 (fun id q1 q2 => by have := rb.lt q1; have := hst _ q2; omega)
      (repeat' (first | (simp (maxSteps := 1000000) (disch := first | omega | (simp only [AM.DB, List.length_set, List.length_map]; first | done | omega)) only [AM.RB, Nat.reduceAdd, Nat.reduceMul, Nat.reduceEqDiff, reduceCtorEq, b49_PC8, g9a, g1a, g2a, g3a, rba.ia el_22, Rd.ldi rba lk_3, raa.ia el_22, Rd.ldi raa lk_3, Int.toNat_natCast, hho, hat, e1, e2]) | refine AM.drawW_loose (id := 8) hp (by kernel_rfl) (by kernel_rfl) ?_ | refine AM.drawW_loose (id := 15) hp (by kernel_rfl) (by kernel_rfl) ?_ | refine AM.drawW_loose (id := 18) hp (by kernel_rfl) (by kernel_rfl) ?_ | refine AM.drawW_fine (id := 20) hp (by kernel_rfl) (by kernel_rfl) (by kernel_rfl) ?_ | refine AM.drawW_fine (id := 22) hp (by kernel_rfl) (by kernel_rfl) (by kernel_rfl) ?_ | refine AM.opW_tied (by kernel_rfl) ?_ | refine AM.opW_untied (by kernel_rfl) ?_ | refine AM.build_w ?_))
      generalize hE_ : AHeap.put h10 _ _ = h11; obtain ⟨g11, fr11, n11, l11⟩ := AM.put_get hE_ (by omega); clear hE_
      have g1b := fr11.get g1a (show ¬ h.next = h.next + 1 + 1 by omega)
      have g2b := fr11.get g2a (show ¬ h.next + 1 = h.next + 1 + 1 by omega)
      have rab := raa.fr fr11 (fun id q1 q2 => by have := ra.lt q1; have q2 : id = h.next + 1 + 1 := q2; omega)
      have rbb := rba.fr fr11 (fun id q1 q2 => by have := rb.lt q1; have q2 : id = h.next + 1 + 1 := q2; omega)
      refine ⟨AM.looseOk_by [(12, [0, 22]), (14, [0, 22]), (16, [0, 22]), (18, [0, 22])] (by kernel_rfl) ?_, ?_⟩
      · simp (maxSteps := 1000000) (disch := first | omega | (simp only [AM.DB, List.length_set, List.length_map]; first | done | omega)) only [AM.RB, Nat.reduceAdd, Nat.reduceMul, Nat.reduceEqDiff, reduceCtorEq, b49_PC8]
        all_goals ((repeat' apply And.intro) <;> (first | (refine AM.stable_len _ _ _ _ _ _ (fun _ => ?_); (simp (maxSteps := 1000000) (disch := first | omega | (simp only [AM.DB, List.length_set, List.length_map]; first | done | omega)) only [AM.RB, Nat.reduceAdd, Nat.reduceMul, Nat.reduceEqDiff, reduceCtorEq, b49_PC8, g1a, g2a, g1b, g2b, raa.ia el_22, Rd.ldi raa lk_3, rab.ia el_22, Rd.ldi rab lk_3, Int.toNat_natCast, hat])) | (refine AM.stable_load _ _ _ _ _ _ ?_; (first | (simp (maxSteps := 1000000) (disch := first | omega | (simp only [AM.DB, List.length_set, List.length_map]; first | done | omega)) only [AM.RB, Nat.reduceAdd, Nat.reduceMul, Nat.reduceEqDiff, reduceCtorEq, b49_PC8, g1a, g2a, g1b, g2b, raa.ia el_22, Rd.ldi raa lk_3, rab.ia el_22, Rd.ldi rab lk_3, Int.toNat_natCast, hat]) | skip); (first | (refine AM.stabL_int (by omega) ?_; (simp (maxSteps := 1000000) (disch := first | omega | (simp only [AM.DB, List.length_set, List.length_map]; first | done | omega)) only [AM.RB, Nat.reduceAdd, Nat.reduceMul, Nat.reduceEqDiff, reduceCtorEq, b49_PC8, g1a, g2a, g1b, g2b, raa.ia el_22, Rd.ldi raa lk_3, rab.ia el_22, Rd.ldi rab lk_3, Int.toNat_natCast, hat])) | (refine AM.stabL_ptr (by omega) (by omega) ?_; (simp (maxSteps := 1000000) (disch := first | omega | (simp only [AM.DB, List.length_set, List.length_map]; first | done | omega)) only [AM.RB, Nat.reduceAdd, Nat.reduceMul, Nat.reduceEqDiff, reduceCtorEq, b49_PC8, g1a, g2a, g1b, g2b, raa.ia el_22, Rd.ldi raa lk_3, rab.ia el_22, Rd.ldi rab lk_3, Int.toNat_natCast, hat])) | (refine AM.stabL_string (by omega) ?_; (simp (maxSteps := 1000000) (disch := first | omega | (simp only [AM.DB, List.length_set, List.length_map]; first | done | omega)) only [AM.RB, Nat.reduceAdd, Nat.reduceMul, Nat.reduceEqDiff, reduceCtorEq, b49_PC8, g1a, g2a, g1b, g2b, raa.ia el_22, Rd.ldi raa lk_3, rab.ia el_22, Rd.ldi rab lk_3, Int.toNat_natCast, hat])) | (refine AM.stabL_bool (by omega) ?_; (simp (maxSteps := 1000000) (disch := first | omega | (simp only [AM.DB, List.length_set, List.length_map]; first | done | omega)) only [AM.RB, Nat.reduceAdd, Nat.reduceMul, Nat.reduceEqDiff, reduceCtorEq, b49_PC8, g1a, g2a, g1b, g2b, raa.ia el_22, Rd.ldi raa lk_3, rab.ia el_22, Rd.ldi rab lk_3, Int.toNat_natCast, hat])) | (refine AM.stabL_rd raa (by omega) (by omega) ?_; (simp (maxSteps := 1000000) (disch := first | omega | (simp only [AM.DB, List.length_set, List.length_map]; first | done | omega)) only [AM.RB, Nat.reduceAdd, Nat.reduceMul, Nat.reduceEqDiff, reduceCtorEq, b49_PC8, g1a, g2a, g1b, g2b, raa.ia el_22, Rd.ldi raa lk_3, rab.ia el_22, Rd.ldi rab lk_3, Int.toNat_natCast, hat])) | (refine AM.stabL_rd rab (by omega) (by omega) ?_; (simp (maxSteps := 1000000) (disch := first | omega | (simp only [AM.DB, List.length_set, List.length_map]; first | done | omega)) only [AM.RB, Nat.reduceAdd, Nat.reduceMul, Nat.reduceEqDiff, reduceCtorEq, b49_PC8, g1a, g2a, g1b, g2b, raa.ia el_22, Rd.ldi raa lk_3, rab.ia el_22, Rd.ldi rab lk_3, Int.toNat_natCast, hat])) | (refine AM.stabL_elS raa (by omega) (by omega) ?_; (simp (maxSteps := 1000000) (disch := first | omega | (simp only [AM.DB, List.length_set, List.length_map]; first | done | omega)) only [AM.RB, Nat.reduceAdd, Nat.reduceMul, Nat.reduceEqDiff, reduceCtorEq, b49_PC8, g1a, g2a, g1b, g2b, raa.ia el_22, Rd.ldi raa lk_3, rab.ia el_22, Rd.ldi rab lk_3, Int.toNat_natCast, hat])) | (refine AM.stabL_elI raa (by omega) (by omega) ?_; (simp (maxSteps := 1000000) (disch := first | omega | (simp only [AM.DB, List.length_set, List.length_map]; first | done | omega)) only [AM.RB, Nat.reduceAdd, Nat.reduceMul, Nat.reduceEqDiff, reduceCtorEq, b49_PC8, g1a, g2a, g1b, g2b, raa.ia el_22, Rd.ldi raa lk_3, rab.ia el_22, Rd.ldi rab lk_3, Int.toNat_natCast, hat])) | (refine AM.stabL_elS rab (by omega) (by omega) ?_; (simp (maxSteps := 1000000) (disch := first | omega | (simp only [AM.DB, List.length_set, List.length_map]; first | done | omega)) only [AM.RB, Nat.reduceAdd, Nat.reduceMul, Nat.reduceEqDiff, reduceCtorEq, b49_PC8, g1a, g2a, g1b, g2b, raa.ia el_22, Rd.ldi raa lk_3, rab.ia el_22, Rd.ldi rab lk_3, Int.toNat_natCast, hat])) | (refine AM.stabL_elI rab (by omega) (by omega) ?_; (simp (maxSteps := 1000000) (disch := first | omega | (simp only [AM.DB, List.length_set, List.length_map]; first | done | omega)) only [AM.RB, Nat.reduceAdd, Nat.reduceMul, Nat.reduceEqDiff, reduceCtorEq, b49_PC8, g1a, g2a, g1b, g2b, raa.ia el_22, Rd.ldi raa lk_3, rab.ia el_22, Rd.ldi rab lk_3, Int.toNat_natCast, hat]))))))
      (repeat' (first | (simp (maxSteps := 1000000) (disch := first | omega | (simp only [AM.DB, List.length_set, List.length_map]; first | done | omega)) only [AM.RB, Nat.reduceAdd, Nat.reduceMul, Nat.reduceEqDiff, reduceCtorEq, b49_PC8, g11]) | refine AM.drawW_loose (id := 8) hp (by kernel_rfl) (by kernel_rfl) ?_ | refine AM.drawW_loose (id := 15) hp (by kernel_rfl) (by kernel_rfl) ?_ | refine AM.drawW_loose (id := 18) hp (by kernel_rfl) (by kernel_rfl) ?_ | refine AM.drawW_fine (id := 20) hp (by kernel_rfl) (by kernel_rfl) (by kernel_rfl) ?_ | refine AM.drawW_fine (id := 22) hp (by kernel_rfl) (by kernel_rfl) (by kernel_rfl) ?_ | refine AM.opW_tied (by kernel_rfl) ?_ | refine AM.opW_untied (by kernel_rfl) ?_ | refine AM.build_w ?_))
      have ff := fin _ (s.1, s.2.set c (-1)) ((fr10.mono fun _ _ q => .inr (.inl q)).trans (fr11.mono fun _ _ q => .inr (.inr q))) ((o1.fr fr10 (fun id q1 q2 => by have := hv9 id q1; have := hw9 id q2; omega)).fr fr11 (fun id q1 e => by have := hv9 id q1; have e : id = h.next + 1 + 1 := e; omega)) (o10.fr fr11 (fun id q1 e => by have := hw9 id q1; have e : id = h.next + 1 + 1 := e; omega)) rfl (by simp)
      exact hq _ _ _ _ _ _ _ ff.1 (fun _ => ff.2))
  by_cases k3 : k = 3
  · subst k3
    rw [if_neg (by decide), if_neg (by decide), if_pos rfl] at hq
    have eu : turnS s (3, (t : Int), (c : Int)) = (s.1.set t c, s.2) := rfl
    have d31 : decide ((3 : Int) = 1) = false := rfl
    have d32 : decide ((3 : Int) = 2) = false := rfl
    have d33 : decide ((3 : Int) = 3) = true := rfl
    rw [eu] at hq
    (repeat' (first | (simp (maxSteps := 1000000) (disch := first | omega | (simp only [AM.DB, List.length_set, List.length_map]; first | done | omega)) only [AM.RB, Nat.reduceAdd, Nat.reduceMul, Nat.reduceEqDiff, reduceCtorEq, b49_PC8, d31, d32, d33, g19, g29, ra9.ia el_22, Rd.ldi ra9 lk_3, Int.toNat_natCast, hat]) | refine AM.drawW_loose (id := 8) hp (by kernel_rfl) (by kernel_rfl) ?_ | refine AM.drawW_loose (id := 15) hp (by kernel_rfl) (by kernel_rfl) ?_ | refine AM.drawW_loose (id := 18) hp (by kernel_rfl) (by kernel_rfl) ?_ | refine AM.drawW_fine (id := 20) hp (by kernel_rfl) (by kernel_rfl) (by kernel_rfl) ?_ | refine AM.drawW_fine (id := 22) hp (by kernel_rfl) (by kernel_rfl) (by kernel_rfl) ?_ | refine AM.opW_tied (by kernel_rfl) ?_ | refine AM.opW_untied (by kernel_rfl) ?_ | refine AM.build_w ?_))
    refine refEdge_w r9 G _ _ ?_
    cases e2 : edgeL L at_ (c : Int) <;> cases e1 : decide (ho = (t : Int)) <;> rw [e1, e2] at hq
    all_goals (
      (repeat' (first | (simp (maxSteps := 1000000) (disch := first | omega | (simp only [AM.DB, List.length_set, List.length_map]; first | done | omega)) only [AM.RB, Nat.reduceAdd, Nat.reduceMul, Nat.reduceEqDiff, reduceCtorEq, b49_PC8, g9, g19, g29, o1.ia el_22, Int.toNat_natCast]) | refine AM.drawW_loose (id := 8) hp (by kernel_rfl) (by kernel_rfl) ?_ | refine AM.drawW_loose (id := 15) hp (by kernel_rfl) (by kernel_rfl) ?_ | refine AM.drawW_loose (id := 18) hp (by kernel_rfl) (by kernel_rfl) ?_ | refine AM.drawW_fine (id := 20) hp (by kernel_rfl) (by kernel_rfl) (by kernel_rfl) ?_ | refine AM.drawW_fine (id := 22) hp (by kernel_rfl) (by kernel_rfl) (by kernel_rfl) ?_ | refine AM.opW_tied (by kernel_rfl) ?_ | refine AM.opW_untied (by kernel_rfl) ?_ | refine AM.build_w ?_))
      refine o1.st sz_3 (j := t) (by omega) rfl rfl fun h10 o10 fr10 n10 => ?_
      rw [map_set'] at o10
      have hst : ∀ id, idOf (.slice va s.1.length vc) id → h4.next + 1 ≤ id := fun id q => by have := hv9 id q; omega
      have lw10 := fr10.low
      have g9a := fr10.get g9 (fun q => by have := hst _ q; omega)
      have g1a := fr10.get g19 (fun q => by have := hst _ q; omega)
      have g2a := fr10.get g29 (fun q => by have := hst _ q; omega)
      have g3a := fr10.get g39 (fun q => by have := hst _ q; omega)
      have raa := ra9.fr fr10 (fun id q1 q2 => by have := ra.lt q1; have := hst _ q2; omega)
      have rba := rb9.fr fr10 (fun id q1 q2 => by have := rb.lt q1; have := hst _ q2; omega)
      (repeat' (first | (simp (maxSteps := 1000000) (disch := first | omega | (simp only [AM.DB, List.length_set, List.length_map]; first | done | omega)) only [AM.RB, Nat.reduceAdd, Nat.reduceMul, Nat.reduceEqDiff, reduceCtorEq, b49_PC8, g9a, g1a, g2a, g3a, rba.ia el_22, Rd.ldi rba lk_3, Int.toNat_natCast, hho, e1]) | refine AM.drawW_loose (id := 8) hp (by kernel_rfl) (by kernel_rfl) ?_ | refine AM.drawW_loose (id := 15) hp (by kernel_rfl) (by kernel_rfl) ?_ | refine AM.drawW_loose (id := 18) hp (by kernel_rfl) (by kernel_rfl) ?_ | refine AM.drawW_fine (id := 20) hp (by kernel_rfl) (by kernel_rfl) (by kernel_rfl) ?_ | refine AM.drawW_fine (id := 22) hp (by kernel_rfl) (by kernel_rfl) (by kernel_rfl) ?_ | refine AM.opW_tied (by kernel_rfl) ?_ | refine AM.opW_untied (by kernel_rfl) ?_ | refine AM.build_w ?_))
      generalize hE_ : AHeap.put h10 _ _ = h11; obtain ⟨g11, fr11, n11, l11⟩ := AM.put_get hE_ (by omega); clear hE_
      have g1b := fr11.get g1a (show ¬ h.next = h.next + 1 + 1 by omega)
      have g2b := fr11.get g2a (show ¬ h.next + 1 = h.next + 1 + 1 by omega)
      have rab := raa.fr fr11 (fun id q1 q2 => by have := ra.lt q1; have q2 : id = h.next + 1 + 1 := q2; omega)
      have rbb := rba.fr fr11 (fun id q1 q2 => by have := rb.lt q1; have q2 : id = h.next + 1 + 1 := q2; omega)
      (repeat' (first | (simp (maxSteps := 1000000) (disch := first | omega | (simp only [AM.DB, List.length_set, List.length_map]; first | done | omega)) only [AM.RB, Nat.reduceAdd, Nat.reduceMul, Nat.reduceEqDiff, reduceCtorEq, b49_PC8, g11]) | refine AM.drawW_loose (id := 8) hp (by kernel_rfl) (by kernel_rfl) ?_ | refine AM.drawW_loose (id := 15) hp (by kernel_rfl) (by kernel_rfl) ?_ | refine AM.drawW_loose (id := 18) hp (by kernel_rfl) (by kernel_rfl) ?_ | refine AM.drawW_fine (id := 20) hp (by kernel_rfl) (by kernel_rfl) (by kernel_rfl) ?_ | refine AM.drawW_fine (id := 22) hp (by kernel_rfl) (by kernel_rfl) (by kernel_rfl) ?_ | refine AM.opW_tied (by kernel_rfl) ?_ | refine AM.opW_untied (by kernel_rfl) ?_ | refine AM.build_w ?_))
      have ff := fin _ (s.1.set t c, s.2) ((fr10.mono fun _ _ q => .inl q).trans (fr11.mono fun _ _ q => .inr (.inr q))) (o10.fr fr11 (fun id q1 e => by have := hv9 id q1; have e : id = h.next + 1 + 1 := e; omega)) ((o2.fr fr10 (fun id q1 q2 => by have := hw9 id q1; have := hv9 id q2; omega)).fr fr11 (fun id q1 e => by have := hw9 id q1; have e : id = h.next + 1 + 1 := e; omega)) (by simp) rfl
      exact hq _ _ _ _ _ _ _ ff.1 (fun _ => ff.2))
  · rw [if_neg k1, if_neg k2, if_neg k3] at e hq
    (repeat' (first | (simp (maxSteps := 1000000) (disch := first | omega | (simp only [AM.DB, List.length_set, List.length_map]; first | done | omega)) only [AM.RB, Nat.reduceAdd, Nat.reduceMul, Nat.reduceEqDiff, reduceCtorEq, b49_PC8, g39, decide_eq_false k1, decide_eq_false k2, decide_eq_false k3]) | refine AM.drawW_loose (id := 8) hp (by kernel_rfl) (by kernel_rfl) ?_ | refine AM.drawW_loose (id := 15) hp (by kernel_rfl) (by kernel_rfl) ?_ | refine AM.drawW_loose (id := 18) hp (by kernel_rfl) (by kernel_rfl) ?_ | refine AM.drawW_fine (id := 20) hp (by kernel_rfl) (by kernel_rfl) (by kernel_rfl) ?_ | refine AM.drawW_fine (id := 22) hp (by kernel_rfl) (by kernel_rfl) (by kernel_rfl) ?_ | refine AM.opW_tied (by kernel_rfl) ?_ | refine AM.opW_untied (by kernel_rfl) ?_ | refine AM.build_w ?_))
    generalize hE_ : AHeap.put h9 _ _ = h10; obtain ⟨g10, fr10, n10, l10⟩ := AM.put_get hE_ (by omega); clear hE_
    (repeat' (first | (simp (maxSteps := 1000000) (disch := first | omega | (simp only [AM.DB, List.length_set, List.length_map]; first | done | omega)) only [AM.RB, Nat.reduceAdd, Nat.reduceMul, Nat.reduceEqDiff, reduceCtorEq, b49_PC8, g10]) | refine AM.drawW_loose (id := 8) hp (by kernel_rfl) (by kernel_rfl) ?_ | refine AM.drawW_loose (id := 15) hp (by kernel_rfl) (by kernel_rfl) ?_ | refine AM.drawW_loose (id := 18) hp (by kernel_rfl) (by kernel_rfl) ?_ | refine AM.drawW_fine (id := 20) hp (by kernel_rfl) (by kernel_rfl) (by kernel_rfl) ?_ | refine AM.drawW_fine (id := 22) hp (by kernel_rfl) (by kernel_rfl) (by kernel_rfl) ?_ | refine AM.opW_tied (by kernel_rfl) ?_ | refine AM.opW_untied (by kernel_rfl) ?_ | refine AM.build_w ?_))
    exact hq _ _ _ _ _ _ _ (Fr.fresh fr09 fr10 (fun id e => by have e : id = h.next + 1 + 1 := e; omega)) (fun e => by cases e)

end Go.Proofs.YtbaohngkapmhlaaDoor

namespace Go.Proofs.YtbaohngkapmhlaaDoor
open Go.AM
set_option maxRecDepth 8000
theorem b104_PC5 : type_of% (And.intro (@AM.bdV_some) (And.intro (@bd_65) (And.intro (@AM.bin_add) (And.intro (@AM.bin_leq) (And.intro (@AM.bin_lss) (And.intro (@AM.fillL_cons) (And.intro (@AM.fillL_nil) (And.intro (@AM.fillS_agg) (And.intro (@AM.fillS_bool) (And.intro (@AM.fillS_func) (And.intro (@AM.fillS_int) (And.intro (@AM.fillS_map) (And.intro (@AM.fillS_pointer) (And.intro (@AM.fillS_slice) (And.intro (@AM.fillS_string) (And.intro (@AM.iaO_ok) (And.intro (AM.ia_slice el_22) (And.intro (@AM.ldO_agg) (And.intro (@AM.ldO_one) (And.intro (@AM.ld_ptr) (And.intro (AM.len_slice ul_22) (And.intro (@lk_26) (And.intro (@lk_3) (And.intro (@AM.op_binOp) (And.intro (@AM.op_build) (And.intro (@AM.op_call) (And.intro (@AM.op_indexAddr) (And.intro (@AM.op_len) (And.intro (@AM.op_load) (And.intro (@AM.op_unOp) (And.intro (@AM.un_neg) (@AM.un_not)))))))))))))))))))))))))))))))) := And.intro (@AM.bdV_some) (And.intro (@bd_65) (And.intro (@AM.bin_add) (And.intro (@AM.bin_leq) (And.intro (@AM.bin_lss) (And.intro (@AM.fillL_cons) (And.intro (@AM.fillL_nil) (And.intro (@AM.fillS_agg) (And.intro (@AM.fillS_bool) (And.intro (@AM.fillS_func) (And.intro (@AM.fillS_int) (And.intro (@AM.fillS_map) (And.intro (@AM.fillS_pointer) (And.intro (@AM.fillS_slice) (And.intro (@AM.fillS_string) (And.intro (@AM.iaO_ok) (And.intro (AM.ia_slice el_22) (And.intro (@AM.ldO_agg) (And.intro (@AM.ldO_one) (And.intro (@AM.ld_ptr) (And.intro (AM.len_slice ul_22) (And.intro (@lk_26) (And.intro (@lk_3) (And.intro (@AM.op_binOp) (And.intro (@AM.op_build) (And.intro (@AM.op_call) (And.intro (@AM.op_indexAddr) (And.intro (@AM.op_len) (And.intro (@AM.op_load) (And.intro (@AM.op_unOp) (And.intro (@AM.un_neg) (@AM.un_not)))))))))))))))))))))))))))))))


/-! ### All steps, one behind the other -/
def preC (C : List Int) (k r : Nat) : List Sp := C.map fun c => (((k + 1 : Nat) : Int), (r : Int), c)
def preR (C : List Int) (k : Nat) : Nat → List Sp
  | 0 => []
  | r + 1 => preR C k r ++ preC C k r
def preK (C : List Int) (n : Nat) : Nat → List Sp
  | 0 => []
  | k + 1 => preK C n k ++ preR C k n
theorem preR_pre (C : List Int) (k : Nat) : ∀ (r n : Nat), r ≤ n → ∃ t, preR C k n = preR C k r ++ t
  | r, 0, h => ⟨[], by rw [show r = 0 by omega]; rfl⟩
  | r, n + 1, h => by
    by_cases e : r = n + 1
    · exact ⟨[], by rw [e, List.append_nil]⟩
    · obtain ⟨t, ht⟩ := preR_pre C k r n (by omega)
      exact ⟨_, by rw [preR, ht, List.append_assoc]⟩
theorem preK_pre (C : List Int) (n : Nat) : ∀ (k m : Nat), k ≤ m → ∃ t, preK C n m = preK C n k ++ t
  | k, 0, h => ⟨[], by rw [show k = 0 by omega]; rfl⟩
  | k, m + 1, h => by
    by_cases e : k = m + 1
    · exact ⟨[], by rw [e, List.append_nil]⟩
    · obtain ⟨t, ht⟩ := preK_pre C n k m (by omega)
      exact ⟨_, by rw [preK, ht, List.append_assoc]⟩
theorem step_at (C : List Int) (n : Nat) {k r j : Nat} (hk : k < 3) (hr : r < n) (hj : j < C.length) : (preK C n 3)[(preK C n k).length + (preR C k r).length + j]? = some (((k + 1 : Nat) : Int), (r : Int), C.getD j 0) := by
  obtain ⟨t, ht⟩ := preK_pre C n (k + 1) 3 (by omega)
  obtain ⟨u, hu⟩ := preR_pre C k (r + 1) n (by omega)
  rw [ht, preK, hu, preR]
  have e : preK C n k ++ (preR C k r ++ preC C k r ++ u) ++ t = preK C n k ++ (preR C k r ++ (preC C k r ++ (u ++ t))) := by simp [List.append_assoc]
  rw [e, Nat.add_assoc, List.getElem?_append_right (by omega), Nat.add_sub_cancel_left, List.getElem?_append_right (by omega), Nat.add_sub_cancel_left, List.getElem?_append_left (by unfold preC; rw [List.length_map]; exact hj)]
  unfold preC
  rw [List.getElem?_map, List.getElem?_eq_getElem hj]
  simp [List.getD, hj]
def allI (w1 w2 p n : Nat) (L : List (List UInt8)) (h1 : AHeap) : Prop := h1.get w1 = some (.cells [.int .i64 (n : Int)] 3 false) ∧ h1.get w2 = some (.cells [pv p] 26 false) ∧ ∃ kv tl, Mp h1 p kv L.length (L.getD 0 []).length L.flatten tl
set_option maxHeartbeats 4000000 in
theorem all1_w {w1 w2 p n : Nat} {L : List (List UInt8)} (f : Fit L) (hn : n ≤ 4000000) {h : AHeap} :
    IterOkI Tryd.prog prims (.func (.func 104) #[] #[pv w1, pv w2]) (allI w1 w2 p n L) ((preK (allP L.flatten L.flatten.length) n 3).map fun x => [spV x]) h := by
  intro y J E h0 hnx hlow0 hlw hJ hE hI hy hJ0
  have hK := f.k1024
  generalize hC : allP L.flatten L.flatten.length = C at *
  have hCl : C.length ≤ 1024 := by rw [← hC]; exact Nat.le_trans (allP_len _ _) hK
  refine AM.enter hp (fn := Tryd.f104) (rs := []) (nt := 32) (by kernel_rfl) Tryd.func104 rfl rfl rfl (by kernel_rfl) ?_
  simp (maxSteps := 1000000) (disch := first | omega | (simp only [AM.DB, List.length_set, List.length_map]; first | done | omega)) only [AM.RB, Nat.reduceAdd, Nat.reduceMul, Nat.reduceEqDiff, reduceCtorEq, b104_PC5]
  refine AM.loop_w hp 32 (fun k : Nat => [(0, y), (1, pv w1), (2, pv w2), (4, .int .i64 ((k + 1 : Nat) : Int))])
    (fun k h' => k ≤ 3 ∧ h0.next ≤ h'.next ∧ h'.low = h0.low ∧ ∃ A, (∀ id, A id → h0.next ≤ id ∧ id < h'.next) ∧ J (preK C n k).length A h') (fun k => 3 - k) (by kernel_rfl) 0 ?_ ?_ ?_
  · simp (maxSteps := 1000000) (disch := first | omega | (simp only [AM.DB, List.length_set, List.length_map]; first | done | omega)) only [AM.RB, Nat.reduceAdd, Nat.reduceMul, Nat.reduceEqDiff, reduceCtorEq, b104_PC5]
    first | rfl | skip
  · exact ⟨Nat.zero_le _, Nat.le_refl _, rfl, none', fun id q => q.elim, hJ0⟩
  rintro k h1 ρ ⟨hk, nx1, lw1, A1, hA1, hJ1⟩
  obtain ⟨gw1, gw2, kv1, tl1, mm1⟩ := hI _ _ _ hJ1
  simp (maxSteps := 1000000) (disch := first | omega | (simp only [AM.DB, List.length_set, List.length_map]; first | done | omega)) only [AM.RB, Nat.reduceAdd, Nat.reduceMul, Nat.reduceEqDiff, reduceCtorEq, b104_PC5]
  refine AM.condV_split (fun hlt => ?_) (fun hlt => ?_)
  · have hk3 : k < 3 := by omega
    (repeat' (first | (simp (maxSteps := 1000000) (disch := first | omega | (simp only [AM.DB, List.length_set, List.length_map]; first | done | omega)) only [AM.RB, Nat.reduceAdd, Nat.reduceMul, Nat.reduceEqDiff, reduceCtorEq, b104_PC5, gw1]) | refine AM.build_w ?_))
    refine AM.loop_w hp 32 (fun r : Nat => [(0, y), (1, pv w1), (2, pv w2), (4, .int .i64 ((k + 1 : Nat) : Int)), (12, .int .i64 n), (13, .int .i64 r)])
      (fun r h' => r ≤ n ∧ h0.next ≤ h'.next ∧ h'.low = h0.low ∧ ∃ A, (∀ id, A id → h0.next ≤ id ∧ id < h'.next) ∧ J ((preK C n k).length + (preR C k r).length) A h') (fun r => n - r) (by kernel_rfl) 0 ?_ ?_ ?_
    · simp (maxSteps := 1000000) (disch := first | omega | (simp only [AM.DB, List.length_set, List.length_map]; first | done | omega)) only [AM.RB, Nat.reduceAdd, Nat.reduceMul, Nat.reduceEqDiff, reduceCtorEq, b104_PC5]
      first | rfl | skip
    · exact ⟨Nat.zero_le _, nx1, lw1, A1, hA1, hJ1⟩
    rintro r h2 ρ ⟨hr, nx2, lw2, A2, hA2, hJ2⟩
    obtain ⟨gw12, gw22, kv2, tl2, mm2⟩ := hI _ _ _ hJ2
    simp (maxSteps := 1000000) (disch := first | omega | (simp only [AM.DB, List.length_set, List.length_map]; first | done | omega)) only [AM.RB, Nat.reduceAdd, Nat.reduceMul, Nat.reduceEqDiff, reduceCtorEq, b104_PC5]
    refine AM.condV_split (fun hltr => ?_) (fun hltr => ?_)
    · have hrn : r < n := by omega
      (repeat' (first | (simp (maxSteps := 1000000) (disch := first | omega | (simp only [AM.DB, List.length_set, List.length_map]; first | done | omega)) only [AM.RB, Nat.reduceAdd, Nat.reduceMul, Nat.reduceEqDiff, reduceCtorEq, b104_PC5, gw22]) | refine AM.build_w ?_))
      refine all_w mm2 f.rows (by omega) (by omega) _ fun v h3 o3 fr3 hid3 => ?_
      rw [hC] at o3
      obtain ⟨va, vc, rfl⟩ := o3.form
      have nx3 := fr3.next
      have lw3 := fr3.low
      have hJ3 := hJ _ A2 (fun id => A2 id ∨ idOf (.slice va C.length vc) id) _ _ hJ2 (fr3.mono fun _ _ q => q.elim) (fun _ q => .inl q) (fun id q => q.imp (fun q => q) (fun q => hid3 id q))
      (repeat' (first | (simp (maxSteps := 1000000) (disch := first | omega | (simp only [AM.DB, List.length_set, List.length_map]; first | done | omega)) only [AM.RB, Nat.reduceAdd, Nat.reduceMul, Nat.reduceEqDiff, reduceCtorEq, b104_PC5]) | refine AM.build_w ?_))
      refine AM.loop_w hp 32 (fun j : Nat => [(0, y), (1, pv w1), (2, pv w2), (4, .int .i64 ((k + 1 : Nat) : Int)), (5, .int .i64 r), (12, .int .i64 n), (13, .int .i64 r), (17, .slice va C.length vc), (18, .int .i64 C.length), (19, .int .i64 j)])
        (fun j h' => j ≤ C.length ∧ h0.next ≤ h'.next ∧ h'.low = h0.low ∧ Ow h' 3 1 (.slice va C.length vc) C.length (C.map (.int .i64)) ∧ ∃ A, (∀ id, A id → h0.next ≤ id ∧ id < h'.next) ∧ (∀ id, idOf (.slice va C.length vc) id → A id) ∧ J ((preK C n k).length + (preR C k r).length + j) A h') (fun j => C.length - j) (by kernel_rfl) 0 ?_ ?_ ?_
      · simp (maxSteps := 1000000) (disch := first | omega | (simp only [AM.DB, List.length_set, List.length_map]; first | done | omega)) only [AM.RB, Nat.reduceAdd, Nat.reduceMul, Nat.reduceEqDiff, reduceCtorEq, b104_PC5]
        first | rfl | skip
      · exact ⟨Nat.zero_le _, by omega, by omega, o3, _, fun id q => by
          rcases q with q | q
          · have := hA2 id q; omega
          · have := hid3 id q; have := o3.lt q; omega, fun id q => .inr q, hJ3⟩
      rintro j h4 ρ ⟨hj, nx4, lw4, o4, A4, hA4, hvA, hJ4⟩
      have r4 := o4.rd
      simp (maxSteps := 1000000) (disch := first | omega | (simp only [AM.DB, List.length_set, List.length_map]; first | done | omega)) only [AM.RB, Nat.reduceAdd, Nat.reduceMul, Nat.reduceEqDiff, reduceCtorEq, b104_PC5]
      refine AM.condV_split (fun hltj => ?_) (fun hltj => ?_)
      · have hjl : j < C.length := by omega
        obtain ⟨c, hc⟩ : ∃ c, C.getD j 0 = c := ⟨_, rfl⟩
        have hat := step_at C n hk3 hrn hjl
        rw [hc] at hat
        (repeat' (first | (simp (maxSteps := 1000000) (disch := first | omega | (simp only [AM.DB, List.length_set, List.length_map]; first | done | omega)) only [AM.RB, Nat.reduceAdd, Nat.reduceMul, Nat.reduceEqDiff, reduceCtorEq, b104_PC5, r4.ia el_22, Rd.ldi r4 lk_3, Int.toNat_natCast, hc]) | refine AM.build_w ?_))
        refine AM.CallW.mono (hy _ [spV (((k + 1 : Nat) : Int), (r : Int), c)] A4 h4 (by rw [List.getElem?_map, hat]; rfl) hJ4 hA4 (by omega) (by omega)) ?_
        rintro v h5 ⟨b, rfl, n5, l5, s5, q5⟩
        have o5 := o4.same (fun id q => s5 id (o4.lt q) (hvA id q)) l5
        cases b with
        | true =>
          (repeat' (first | (simp (maxSteps := 1000000) (disch := first | omega | (simp only [AM.DB, List.length_set, List.length_map]; first | done | omega)) only [AM.RB, Nat.reduceAdd, Nat.reduceMul, Nat.reduceEqDiff, reduceCtorEq, b104_PC5, AM.wrap_i64]) | refine AM.build_w ?_))
          exact ⟨j + 1, by omega, congrArg _ (by omega), by omega, by omega, by omega, o5, A4, fun id q => ⟨(hA4 id q).1, by have := (hA4 id q).2; omega⟩, hvA, by simpa [Nat.add_assoc] using q5⟩
        | false =>
          (repeat' (first | (simp (maxSteps := 1000000) (disch := first | omega | (simp only [AM.DB, List.length_set, List.length_map]; first | done | omega)) only [AM.RB, Nat.reduceAdd, Nat.reduceMul, Nat.reduceEqDiff, reduceCtorEq, b104_PC5]) | refine AM.build_w ?_))
          exact ⟨A4, fun id q => ⟨(hA4 id q).1, by have := (hA4 id q).2; omega⟩, by omega, by omega, .inr (by simpa using q5)⟩
      · have ej : j = C.length := by omega
        have e : (preK C n k).length + (preR C k (r + 1)).length = (preK C n k).length + (preR C k r).length + j := by
          rw [preR, List.length_append]
          unfold preC
          rw [List.length_map]; omega
        (repeat' (first | (simp (maxSteps := 1000000) (disch := first | omega | (simp only [AM.DB, List.length_set, List.length_map]; first | done | omega)) only [AM.RB, Nat.reduceAdd, Nat.reduceMul, Nat.reduceEqDiff, reduceCtorEq, b104_PC5, AM.wrap_i64]) | refine AM.build_w ?_))
        exact ⟨r + 1, by omega, congrArg _ (by omega), by omega, nx4, lw4, A4, hA4, by rw [e]; exact hJ4⟩
    · have er : r = n := by omega
      have e : (preK C n (k + 1)).length = (preK C n k).length + (preR C k r).length := by rw [preK, List.length_append, er]
      (repeat' (first | (simp (maxSteps := 1000000) (disch := first | omega | (simp only [AM.DB, List.length_set, List.length_map]; first | done | omega)) only [AM.RB, Nat.reduceAdd, Nat.reduceMul, Nat.reduceEqDiff, reduceCtorEq, b104_PC5, AM.wrap_i64]) | refine AM.build_w ?_))
      exact ⟨k + 1, by omega, congrArg _ (by omega), by omega, nx2, lw2, A2, hA2, by rw [e]; exact hJ2⟩
  · have ek : k = 3 := by omega
    (repeat' (first | (simp (maxSteps := 1000000) (disch := first | omega | (simp only [AM.DB, List.length_set, List.length_map]; first | done | omega)) only [AM.RB, Nat.reduceAdd, Nat.reduceMul, Nat.reduceEqDiff, reduceCtorEq, b104_PC5]) | refine AM.build_w ?_))
    exact ⟨A1, hA1, nx1, lw1, .inl (by rw [List.length_map, ← ek]; exact hJ1)⟩

end Go.Proofs.YtbaohngkapmhlaaDoor
