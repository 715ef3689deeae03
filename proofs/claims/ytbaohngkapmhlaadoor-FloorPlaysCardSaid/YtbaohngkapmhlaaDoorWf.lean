/- Walks of this claim's functions, and plain laws. -/
import Derived.Test.YtbaohngkapmhlaaDoorWe
set_option linter.unusedSimpArgs false
set_option linter.unusedVariables false
namespace Go.Proofs.YtbaohngkapmhlaaDoor
open Go.AM
set_option maxRecDepth 8000
theorem b5_FP4 : type_of% (And.intro (@Option.isNone_none.{0}) (And.intro (@Option.isNone_some.{0}) (And.intro (@AM.bin_add) (And.intro (@AM.bin_eql) (And.intro (@AM.bin_gtr) (And.intro (@AM.bin_lss) (And.intro (@AM.bin_neq) (And.intro (AM.bin_pnil ul_25) (And.intro (@AM.ex_tuple) (And.intro (@AM.fa_ptr) (And.intro (@fd_57_1) (And.intro (@fd_57_2) (And.intro (@AM.iaA_ok) (And.intro (@AM.iaO_ok) (And.intro (AM.ia_array ar_39) (And.intro (AM.ia_slice el_22) (And.intro (AM.ia_slice el_38) (And.intro (@AM.ldO_agg) (And.intro (@AM.ldO_one) (And.intro (@AM.ld_ptr) (And.intro (AM.len_slice ul_22) (And.intro (AM.len_slice ul_38) (And.intro (@lk_22) (And.intro (@lk_3) (And.intro (@AM.op_binOp) (And.intro (@AM.op_call) (And.intro (@AM.op_extract) (And.intro (@AM.op_fieldAddr) (And.intro (@AM.op_indexAddr) (And.intro (@AM.op_len) (And.intro (@AM.op_load) (And.intro (@AM.op_nilCheck) (And.intro (@AM.op_store) (And.intro (@AM.op_unOp) (And.intro (@AM.stO_agg) (And.intro (@AM.stO_bool) (And.intro (@AM.stO_int) (And.intro (@AM.stO_map) (And.intro (@AM.stO_pointer) (And.intro (@AM.stO_slice) (And.intro (@AM.stO_string) (And.intro (@AM.st_ptr) (And.intro (@AM.str_eql) (And.intro (AM.str_len ul_9) (And.intro (@AM.str_neq) (And.intro (@sz_3) (And.intro (@AM.un_neg) (@AM.un_not)))))))))))))))))))))))))))))))))))))))))))))))) := And.intro (@Option.isNone_none.{0}) (And.intro (@Option.isNone_some.{0}) (And.intro (@AM.bin_add) (And.intro (@AM.bin_eql) (And.intro (@AM.bin_gtr) (And.intro (@AM.bin_lss) (And.intro (@AM.bin_neq) (And.intro (AM.bin_pnil ul_25) (And.intro (@AM.ex_tuple) (And.intro (@AM.fa_ptr) (And.intro (@fd_57_1) (And.intro (@fd_57_2) (And.intro (@AM.iaA_ok) (And.intro (@AM.iaO_ok) (And.intro (AM.ia_array ar_39) (And.intro (AM.ia_slice el_22) (And.intro (AM.ia_slice el_38) (And.intro (@AM.ldO_agg) (And.intro (@AM.ldO_one) (And.intro (@AM.ld_ptr) (And.intro (AM.len_slice ul_22) (And.intro (AM.len_slice ul_38) (And.intro (@lk_22) (And.intro (@lk_3) (And.intro (@AM.op_binOp) (And.intro (@AM.op_call) (And.intro (@AM.op_extract) (And.intro (@AM.op_fieldAddr) (And.intro (@AM.op_indexAddr) (And.intro (@AM.op_len) (And.intro (@AM.op_load) (And.intro (@AM.op_nilCheck) (And.intro (@AM.op_store) (And.intro (@AM.op_unOp) (And.intro (@AM.stO_agg) (And.intro (@AM.stO_bool) (And.intro (@AM.stO_int) (And.intro (@AM.stO_map) (And.intro (@AM.stO_pointer) (And.intro (@AM.stO_slice) (And.intro (@AM.stO_string) (And.intro (@AM.st_ptr) (And.intro (@AM.str_eql) (And.intro (AM.str_len ul_9) (And.intro (@AM.str_neq) (And.intro (@sz_3) (And.intro (@AM.un_neg) (@AM.un_not)))))))))))))))))))))))))))))))))))))))))))))))


set_option maxHeartbeats 16000000 in
theorem plays22_w (l : List UInt8) {v lv : Value} {P : List Int} {M : List (Int × Int)} {h : AHeap} (hP : Rd h 3 1 v P.length (P.map (.int .i64))) (hM : Rd h 39 2 lv M.length (M.flatMap encP)) (hw0 : h.get GW = some (.cells waysC 166 false)) (hl0 : h.low = h.next) : W 5 [strV l, v, lv] h fun v _ => v = .bool true := by
  have hgl : GW < h.low := by have := AM.get_some_lt hw0; omega
  obtain ⟨pa, pc, rfl⟩ := hP.form
  obtain ⟨ma, mc, rfl⟩ := hM.form
  have d100 : decide ((10 : Int) = 0) = false := rfl
  have d220 : decide ((220 : Int) = 0) = false := rfl
  have d221 : decide ((220 : Int) = 220) = true := rfl
  have d00 : decide ((0 : Int) = 0) = true := rfl
  refine AM.enter hp (fn := Tryd.f5) (rs := [.tmp 6]) (nt := 203) (by kernel_rfl) Tryd.func5 rfl rfl rfl (by kernel_rfl) ?_
  by_cases c1 : (200 : Int) < l.length
  · (repeat' (first | (simp (maxSteps := 1000000) (disch := first | omega | (simp only [AM.DB, List.length_set, List.length_map]; first | done | omega)) only [AM.RB, Nat.reduceAdd, Nat.reduceMul, Nat.reduceEqDiff, reduceCtorEq, b5_FP4, decide_eq_true c1]) | refine AM.drawW_fine (id := 18) hp (by kernel_rfl) (by kernel_rfl) (by kernel_rfl) ?_ | refine AM.drawW_loose (id := 24) hp (by kernel_rfl) (by kernel_rfl) ?_ | refine AM.opW_tied (by kernel_rfl) ?_ | refine AM.opW_untied (by kernel_rfl) ?_))
  by_cases c2 : (70 : Int) < P.length
  · (repeat' (first | (simp (maxSteps := 1000000) (disch := first | omega | (simp only [AM.DB, List.length_set, List.length_map]; first | done | omega)) only [AM.RB, Nat.reduceAdd, Nat.reduceMul, Nat.reduceEqDiff, reduceCtorEq, b5_FP4, decide_eq_false c1, decide_eq_true c2]) | refine AM.drawW_fine (id := 18) hp (by kernel_rfl) (by kernel_rfl) (by kernel_rfl) ?_ | refine AM.drawW_loose (id := 24) hp (by kernel_rfl) (by kernel_rfl) ?_ | refine AM.opW_tied (by kernel_rfl) ?_ | refine AM.opW_untied (by kernel_rfl) ?_))
  by_cases c3 : (100 : Int) < M.length
  · (repeat' (first | (simp (maxSteps := 1000000) (disch := first | omega | (simp only [AM.DB, List.length_set, List.length_map]; first | done | omega)) only [AM.RB, Nat.reduceAdd, Nat.reduceMul, Nat.reduceEqDiff, reduceCtorEq, b5_FP4, decide_eq_false c1, decide_eq_false c2, decide_eq_true c3]) | refine AM.drawW_fine (id := 18) hp (by kernel_rfl) (by kernel_rfl) (by kernel_rfl) ?_ | refine AM.drawW_loose (id := 24) hp (by kernel_rfl) (by kernel_rfl) ?_ | refine AM.opW_tied (by kernel_rfl) ?_ | refine AM.opW_untied (by kernel_rfl) ?_))
  (repeat' (first | (simp (maxSteps := 1000000) (disch := first | omega | (simp only [AM.DB, List.length_set, List.length_map]; first | done | omega)) only [AM.RB, Nat.reduceAdd, Nat.reduceMul, Nat.reduceEqDiff, reduceCtorEq, b5_FP4, decide_eq_false c1, decide_eq_false c2, decide_eq_false c3]) | refine AM.drawW_fine (id := 18) hp (by kernel_rfl) (by kernel_rfl) (by kernel_rfl) ?_ | refine AM.drawW_loose (id := 24) hp (by kernel_rfl) (by kernel_rfl) ?_ | refine AM.opW_tied (by kernel_rfl) ?_ | refine AM.opW_untied (by kernel_rfl) ?_))
  refine parseV_w l (by omega) (by omega) (fun a' b' hv h1 fr1 => ?_) (fun L hv p kv h1 m1 fr1 hp1 hid1 => ?_)
  · (repeat' (first | (simp (maxSteps := 1000000) (disch := first | omega | (simp only [AM.DB, List.length_set, List.length_map]; first | done | omega)) only [AM.RB, Nat.reduceAdd, Nat.reduceMul, Nat.reduceEqDiff, reduceCtorEq, b5_FP4]) | refine AM.drawW_fine (id := 18) hp (by kernel_rfl) (by kernel_rfl) (by kernel_rfl) ?_ | refine AM.drawW_loose (id := 24) hp (by kernel_rfl) (by kernel_rfl) ?_ | refine AM.opW_tied (by kernel_rfl) ?_ | refine AM.opW_untied (by kernel_rfl) ?_))
    have nx1 := fr1.next
    have lw1 := fr1.low
    refine refV_w l (by omega) (by omega) (fun a2 b2 hv2 h2 fr2 => ?_) (fun L hv2 n rv h2 r2 fr2 hn2 hidn2 => by rw [hv] at hv2; cases hv2)
    (repeat' (first | (simp (maxSteps := 1000000) (disch := first | omega | (simp only [AM.DB, List.length_set, List.length_map]; first | done | omega)) only [AM.RB, Nat.reduceAdd, Nat.reduceMul, Nat.reduceEqDiff, reduceCtorEq, b5_FP4, d100]) | refine AM.drawW_fine (id := 18) hp (by kernel_rfl) (by kernel_rfl) (by kernel_rfl) ?_ | refine AM.drawW_loose (id := 24) hp (by kernel_rfl) (by kernel_rfl) ?_ | refine AM.opW_tied (by kernel_rfl) ?_ | refine AM.opW_untied (by kernel_rfl) ?_))
  have G := verd_good hv
  have f := G.fit
  have hbd : L.length ≤ 4000000 ∧ (L.getD 0 []).length ≤ 4000000 := by have := f.r32; have := f.c32; omega
  have flen := f.len
  have nx1 := fr1.next
  have lw1 := fr1.low
  (repeat' (first | (simp (maxSteps := 1000000) (disch := first | omega | (simp only [AM.DB, List.length_set, List.length_map]; first | done | omega)) only [AM.RB, Nat.reduceAdd, Nat.reduceMul, Nat.reduceEqDiff, reduceCtorEq, b5_FP4]) | refine AM.drawW_fine (id := 18) hp (by kernel_rfl) (by kernel_rfl) (by kernel_rfl) ?_ | refine AM.drawW_loose (id := 24) hp (by kernel_rfl) (by kernel_rfl) ?_ | refine AM.opW_tied (by kernel_rfl) ?_ | refine AM.opW_untied (by kernel_rfl) ?_))
  refine refV_w l (by omega) (by omega) (fun a2 b2 hv2 h2 fr2 => by rw [hv] at hv2; cases hv2) (fun L2 hv2 n rv h2 r2 fr2 hn2 hidn2 => ?_)
  rw [hv] at hv2
  cases hv2
  have nx2 := fr2.next
  have lw2 := fr2.low
  have fr02 := fr1.trans fr2
  (repeat' (first | (simp (maxSteps := 1000000) (disch := first | omega | (simp only [AM.DB, List.length_set, List.length_map]; first | done | omega)) only [AM.RB, Nat.reduceAdd, Nat.reduceMul, Nat.reduceEqDiff, reduceCtorEq, b5_FP4, d00]) | refine AM.drawW_fine (id := 18) hp (by kernel_rfl) (by kernel_rfl) (by kernel_rfl) ?_ | refine AM.drawW_loose (id := 24) hp (by kernel_rfl) (by kernel_rfl) ?_ | refine AM.opW_tied (by kernel_rfl) ?_ | refine AM.opW_untied (by kernel_rfl) ?_))
  refine cells_w (m1.fr0 fr2) f.rows hbd _ ?_
  by_cases c4 : (100 : Int) < ((L.length * (L.getD 0 []).length : Nat) : Int)
  · (repeat' (first | (simp (maxSteps := 1000000) (disch := first | omega | (simp only [AM.DB, List.length_set, List.length_map]; first | done | omega)) only [AM.RB, Nat.reduceAdd, Nat.reduceMul, Nat.reduceEqDiff, reduceCtorEq, b5_FP4, decide_eq_true c4]) | refine AM.drawW_fine (id := 18) hp (by kernel_rfl) (by kernel_rfl) (by kernel_rfl) ?_ | refine AM.drawW_loose (id := 24) hp (by kernel_rfl) (by kernel_rfl) ?_ | refine AM.opW_tied (by kernel_rfl) ?_ | refine AM.opW_untied (by kernel_rfl) ?_))
  (repeat' (first | (simp (maxSteps := 1000000) (disch := first | omega | (simp only [AM.DB, List.length_set, List.length_map]; first | done | omega)) only [AM.RB, Nat.reduceAdd, Nat.reduceMul, Nat.reduceEqDiff, reduceCtorEq, b5_FP4, decide_eq_false c4]) | refine AM.drawW_fine (id := 18) hp (by kernel_rfl) (by kernel_rfl) (by kernel_rfl) ?_ | refine AM.drawW_loose (id := 24) hp (by kernel_rfl) (by kernel_rfl) ?_ | refine AM.opW_tied (by kernel_rfl) ?_ | refine AM.opW_untied (by kernel_rfl) ?_))
  have lt1 := AM.get_some_lt m1.1
  have ltn := AM.get_some_lt r2.1
  have k1 : Mk h1 p L (fun id => id < h.next) := Mk.start m1 hp1 hid1 (by omega) (fun id q => q)
  have k2 := k1.freshF fr2
  refine new_w k2 f (hP.fr0 fr02) (by omega) (by omega) (fun h3 fr3 hno => ?_) (fun q h3 n1' n64 ok x3 fr3 hq3 => ?_)
  · have nx3 := fr3.next
    have lw3 := fr3.low
    (repeat' (first | (simp (maxSteps := 1000000) (disch := first | omega | (simp only [AM.DB, List.length_set, List.length_map]; first | done | omega)) only [AM.RB, Nat.reduceAdd, Nat.reduceMul, Nat.reduceEqDiff, reduceCtorEq, b5_FP4]) | refine AM.drawW_fine (id := 18) hp (by kernel_rfl) (by kernel_rfl) (by kernel_rfl) ?_ | refine AM.drawW_loose (id := 24) hp (by kernel_rfl) (by kernel_rfl) ?_ | refine AM.opW_tied (by kernel_rfl) ?_ | refine AM.opW_untied (by kernel_rfl) ?_))
    refine rnew_w (r2.fr0 fr3) G (hP.fr0 (fr02.trans fr3)) (by omega) (by omega) (fun h4 fr4 _ => ?_) (fun y h4 a b c _ _ _ => absurd ⟨a, b, c⟩ hno)
    (repeat' (first | (simp (maxSteps := 1000000) (disch := first | omega | (simp only [AM.DB, List.length_set, List.length_map]; first | done | omega)) only [AM.RB, Nat.reduceAdd, Nat.reduceMul, Nat.reduceEqDiff, reduceCtorEq, b5_FP4, d220, d221]) | refine AM.drawW_fine (id := 18) hp (by kernel_rfl) (by kernel_rfl) (by kernel_rfl) ?_ | refine AM.drawW_loose (id := 24) hp (by kernel_rfl) (by kernel_rfl) ?_ | refine AM.opW_tied (by kernel_rfl) ?_ | refine AM.opW_untied (by kernel_rfl) ?_))
  have nx3 := fr3.next
  have lw3 := fr3.low
  have fr03 := fr02.trans fr3
  (repeat' (first | (simp (maxSteps := 1000000) (disch := first | omega | (simp only [AM.DB, List.length_set, List.length_map]; first | done | omega)) only [AM.RB, Nat.reduceAdd, Nat.reduceMul, Nat.reduceEqDiff, reduceCtorEq, b5_FP4]) | refine AM.drawW_fine (id := 18) hp (by kernel_rfl) (by kernel_rfl) (by kernel_rfl) ?_ | refine AM.drawW_loose (id := 24) hp (by kernel_rfl) (by kernel_rfl) ?_ | refine AM.opW_tied (by kernel_rfl) ?_ | refine AM.opW_untied (by kernel_rfl) ?_))
  refine rnew_w (r2.fr0 fr3) G (hP.fr0 fr03) (by omega) (by omega) (fun h4 fr4 hno => absurd ⟨n1', n64, ok⟩ hno) (fun y h4 _ _ _ y4 fr4 hy4 => ?_)
  have nx4 := fr4.next
  have lw4 := fr4.low
  have fr04 := fr03.trans fr4
  have x4 := x3.fresh fr4
  (repeat' (first | (simp (maxSteps := 1000000) (disch := first | omega | (simp only [AM.DB, List.length_set, List.length_map]; first | done | omega)) only [AM.RB, Nat.reduceAdd, Nat.reduceMul, Nat.reduceEqDiff, reduceCtorEq, b5_FP4, d00]) | refine AM.drawW_fine (id := 18) hp (by kernel_rfl) (by kernel_rfl) (by kernel_rfl) ?_ | refine AM.drawW_loose (id := 24) hp (by kernel_rfl) (by kernel_rfl) ?_ | refine AM.opW_tied (by kernel_rfl) ?_ | refine AM.opW_untied (by kernel_rfl) ?_))
  refine fcopy_w x4 (by omega) (by omega) fun q2 ca cc h5 gq2 oc5 hidc hq2 fr5 => ?_
  have nx5 := fr5.next
  have lw5 := fr5.low
  have fr05 := fr04.trans fr5
  have x5 := x4.fresh fr5
  have y5 := y4.frB fr5 (fun id t => t.elim)
  have lq2 := AM.get_some_lt gq2
  (repeat' (first | (simp (maxSteps := 1000000) (disch := first | omega | (simp only [AM.DB, List.length_set, List.length_map]; first | done | omega)) only [AM.RB, Nat.reduceAdd, Nat.reduceMul, Nat.reduceEqDiff, reduceCtorEq, b5_FP4]) | refine AM.drawW_fine (id := 18) hp (by kernel_rfl) (by kernel_rfl) (by kernel_rfl) ?_ | refine AM.drawW_loose (id := 24) hp (by kernel_rfl) (by kernel_rfl) ?_ | refine AM.opW_tied (by kernel_rfl) ?_ | refine AM.opW_untied (by kernel_rfl) ?_))
  refine ftext_w x5 G ok (by omega) (by omega) fun h6 fr6 => ?_
  have nx6 := fr6.next
  have lw6 := fr6.low
  have fr06 := fr05.trans fr6
  have fr26 := ((fr3.trans fr4).trans fr5).trans fr6
  obtain ⟨B0, hB0⟩ : ∃ B0 : Nat → Prop, (fun id => ((id < h.next ∨ (h1.next ≤ id ∧ id < h2.next)) ∨ (h3.next ≤ id ∧ id < h4.next)) ∨ (h4.next ≤ id ∧ id < h5.next)) = B0 := ⟨_, rfl⟩
  have hB0i : ∀ id, B0 id ↔ (((id < h.next ∨ (h1.next ≤ id ∧ id < h2.next)) ∨ (h3.next ≤ id ∧ id < h4.next)) ∨ (h4.next ≤ id ∧ id < h5.next)) := fun id => by rw [← hB0]
  have x6 : Fl h6 q p L P 0 B0 := (x5.fr0 fr6).sub fun id t => by have := (hB0i id).1 t; exact this
  have y6 : RfB h6 y n L P 0 B0 := (y5.mono fun id t => (hB0i id).2 (by
    rcases t with (t | t) | t
    · exact .inl (.inl (.inr ⟨hidn2 id t, by have := r2.2.1.lt t; omega⟩))
    · exact .inl (.inl (.inr (by omega)))
    · exact .inl (.inr t))).frB fr6 (fun id t => t.elim)
  have g26 := gq2.fr0 fr6
  have o26 := oc5.fr0 fr6
  have bq2 : B0 q2 := (hB0i _).2 (.inr ⟨hq2, lq2⟩)
  have bc2 : ∀ id, idOf (.slice ca P.length cc) id → B0 id := fun id t => (hB0i _).2 (.inr ⟨(hidc id t).1, oc5.lt t⟩)
  have bh : ∀ id, id < h.next → B0 id := fun id t => (hB0i _).2 (.inl (.inl (.inl t)))
  (repeat' (first | (simp (maxSteps := 1000000) (disch := first | omega | (simp only [AM.DB, List.length_set, List.length_map]; first | done | omega)) only [AM.RB, Nat.reduceAdd, Nat.reduceMul, Nat.reduceEqDiff, reduceCtorEq, b5_FP4]) | refine AM.drawW_fine (id := 18) hp (by kernel_rfl) (by kernel_rfl) (by kernel_rfl) ?_ | refine AM.drawW_loose (id := 24) hp (by kernel_rfl) (by kernel_rfl) ?_ | refine AM.opW_tied (by kernel_rfl) ?_ | refine AM.opW_untied (by kernel_rfl) ?_))
  refine AM.loop_w hp 203 (fun i : Nat => [(1, .slice pa P.length pc), (2, .slice ma M.length mc), (15, pv q), (17, pv y), (19, pv q2), (20, strV (textF L P P.length)), (95, .int .i64 M.length), (96, .int .i64 i)])
    (fun i h' => i ≤ M.length ∧ Fr (fun id => ¬ B0 id ∨ id = y) h6 h' ∧ ∃ Pc B mv, Pc.length = P.length ∧ mv ≤ i ∧ Fok L.flatten Pc ∧ (∀ id, B0 id → B id) ∧ Fl h' q p L Pc mv B ∧ RfB h' y n L Pc mv B) (fun i => M.length - i) (by kernel_rfl) 0 ?_ ?_ ?_
  · simp (maxSteps := 1000000) (disch := first | omega | (simp only [AM.DB, List.length_set, List.length_map]; first | done | omega)) only [AM.RB, Nat.reduceAdd, Nat.reduceMul, Nat.reduceEqDiff, reduceCtorEq, b5_FP4]
    first | rfl | skip
  · exact ⟨Nat.zero_le _, Fr.refl _ _, P, B0, 0, rfl, Nat.le_refl _, ok, fun id t => t, x6, y6⟩
  rintro i hA ρ ⟨hi, fA, Pc, B, mv, hPl, hmv, okA, hBB, xA, yA⟩
  have nxA := fA.next
  have lwA := fA.low
  have yh : h3.next ≤ y := hy4
  have hwA := fA.get (hw0.fr0 fr06) (fun t => t.elim (fun t => t (bh _ (by omega))) (by omega))
  have mA := (hM.fr0 fr06).fr fA (fun id a t => by have := hM.lt a; exact t.elim (fun t => t (bh _ this)) (by omega))
  have lty4 : y < h4.next := by obtain ⟨_, _, _, g, _⟩ := id y4; exact AM.get_some_lt g
  have byB : B y := by obtain ⟨_, _, _, _, _, _, _, _, _, _, _, e5⟩ := id yA; exact e5
  have pB : ¬ B p := by obtain ⟨_, _, _, _, _, _, _, m⟩ := id xA; exact fun b => m.no (.inl b)
  have plt : p < hA.next := by obtain ⟨_, _, _, _, _, _, _, m⟩ := id xA; exact m.lt
  have gwp : ¬ GW = p := by omega
  have bW : B GW := hBB _ (bh _ (by omega))
  simp (maxSteps := 1000000) (disch := first | omega | (simp only [AM.DB, List.length_set, List.length_map]; first | done | omega)) only [AM.RB, Nat.reduceAdd, Nat.reduceMul, Nat.reduceEqDiff, reduceCtorEq, b5_FP4]
  refine AM.condV_split (fun hlt => ?_) (fun hlt => ?_)
  · have hil : i < M.length := by omega
    obtain ⟨x, hx⟩ : ∃ x, M.getD i (0, 0) = x := ⟨_, rfl⟩
    obtain ⟨r, c⟩ := x
    have ld0 : aLoad Tryd.prog hA 3 (elF (.slice ma M.length mc) 2 i 0) = some (.int .i64 r) := by
      have := Rd.ldsF (g := encP) encP_len mA lk_3 rfl (0, 0) i 0 hil (by omega)
      rw [hx] at this; exact this
    have ld1 : aLoad Tryd.prog hA 3 (elF (.slice ma M.length mc) 2 i 1) = some (.int .i64 c) := by
      have := Rd.ldsF (g := encP) encP_len mA lk_3 rfl (0, 0) i 1 hil (by omega)
      rw [hx] at this; exact this
    have ad0 : aIndexAddr Tryd.prog 39 (elP (.slice ma M.length mc) 2 i) (.int .i64 0) = some (elF (.slice ma M.length mc) 2 i 0) := mA.aa ar_39 .i64 0 i hil (by decide) (by decide)
    have ad1 : aIndexAddr Tryd.prog 39 (elP (.slice ma M.length mc) 2 i) (.int .i64 1) = some (elF (.slice ma M.length mc) 2 i 1) := mA.aa ar_39 .i64 1 i hil (by decide) (by decide)
    (repeat' (first | (simp (maxSteps := 1000000) (disch := first | omega | (simp only [AM.DB, List.length_set, List.length_map]; first | done | omega)) only [AM.RB, Nat.reduceAdd, Nat.reduceMul, Nat.reduceEqDiff, reduceCtorEq, b5_FP4, mA.ia el_38, Int.toNat_natCast, ad0, ad1, ld0, ld1]) | refine AM.drawW_fine (id := 18) hp (by kernel_rfl) (by kernel_rfl) (by kernel_rfl) ?_ | refine AM.drawW_loose (id := 24) hp (by kernel_rfl) (by kernel_rfl) ?_ | refine AM.opW_tied (by kernel_rfl) ?_ | refine AM.opW_untied (by kernel_rfl) ?_))
    refine open_w xA f hwA (by omega) (by omega) okA (by omega) r fun v1 hB oB xB frB hidB => ?_
    obtain ⟨va, vc, rfl⟩ := oB.form
    have nxB := frB.next
    have lwB := frB.low
    have yB := yA.frB frB (fun id t => t)
    have hwB := frB.get hwA (fun t => t bW)
    (repeat' (first | (simp (maxSteps := 1000000) (disch := first | omega | (simp only [AM.DB, List.length_set, List.length_map]; first | done | omega)) only [AM.RB, Nat.reduceAdd, Nat.reduceMul, Nat.reduceEqDiff, reduceCtorEq, b5_FP4]) | refine AM.drawW_fine (id := 18) hp (by kernel_rfl) (by kernel_rfl) (by kernel_rfl) ?_ | refine AM.drawW_loose (id := 24) hp (by kernel_rfl) (by kernel_rfl) ?_ | refine AM.opW_tied (by kernel_rfl) ?_ | refine AM.opW_untied (by kernel_rfl) ?_))
    refine fcheck_w xB f okA hwB (by omega) (by omega) (by omega) r c fun hC xC frC => ?_
    have nxC := frC.next
    have lwC := frC.low
    have yC := yB.frB frC (fun id e b => by have e : id = p := e; subst e; exact pB b)
    have hwC := frC.get hwB gwp
    have oC := oB.fr frC (fun id t e => by have := hidB id t; have e : id = p := e; omega)
    (repeat' (first | (simp (maxSteps := 1000000) (disch := first | omega | (simp only [AM.DB, List.length_set, List.length_map]; first | done | omega)) only [AM.RB, Nat.reduceAdd, Nat.reduceMul, Nat.reduceEqDiff, reduceCtorEq, b5_FP4]) | refine AM.drawW_fine (id := 18) hp (by kernel_rfl) (by kernel_rfl) (by kernel_rfl) ?_ | refine AM.drawW_loose (id := 24) hp (by kernel_rfl) (by kernel_rfl) ?_ | refine AM.opW_tied (by kernel_rfl) ?_ | refine AM.opW_untied (by kernel_rfl) ?_))
    refine ropen_w yC.rf G okA (by omega) (by omega) r fun v2 hD oD frD => ?_
    obtain ⟨wa, wc, rfl⟩ := oD.form
    have nxD := frD.next
    have lwD := frD.low
    have xD := xC.fr0 frD
    have yD := yC.frB frD (fun id t => t.elim)
    have hwD := hwC.fr0 frD
    have nl : (openF L Pc r).length ≤ 4000000000 := by rw [← openK_open f]; have := openK_len L Pc r L.flatten.length; have := f.k1024; omega
    (repeat' (first | (simp (maxSteps := 1000000) (disch := first | omega | (simp only [AM.DB, List.length_set, List.length_map]; first | done | omega)) only [AM.RB, Nat.reduceAdd, Nat.reduceMul, Nat.reduceEqDiff, reduceCtorEq, b5_FP4]) | refine AM.drawW_fine (id := 18) hp (by kernel_rfl) (by kernel_rfl) (by kernel_rfl) ?_ | refine AM.drawW_loose (id := 24) hp (by kernel_rfl) (by kernel_rfl) ?_ | refine AM.opW_tied (by kernel_rfl) ?_ | refine AM.opW_untied (by kernel_rfl) ?_))
    refine same22_w (oC.fr0 frD).rd oD.rd nl ?_
    rw [decide_eq_true rfl]
    (repeat' (first | (simp (maxSteps := 1000000) (disch := first | omega | (simp only [AM.DB, List.length_set, List.length_map]; first | done | omega)) only [AM.RB, Nat.reduceAdd, Nat.reduceMul, Nat.reduceEqDiff, reduceCtorEq, b5_FP4]) | refine AM.drawW_fine (id := 18) hp (by kernel_rfl) (by kernel_rfl) (by kernel_rfl) ?_ | refine AM.drawW_loose (id := 24) hp (by kernel_rfl) (by kernel_rfl) ?_ | refine AM.opW_tied (by kernel_rfl) ?_ | refine AM.opW_untied (by kernel_rfl) ?_))
    refine rcheck_w yD.rf G okA (by omega) r c ?_
    (repeat' (first | (simp (maxSteps := 1000000) (disch := first | omega | (simp only [AM.DB, List.length_set, List.length_map]; first | done | omega)) only [AM.RB, Nat.reduceAdd, Nat.reduceMul, Nat.reduceEqDiff, reduceCtorEq, b5_FP4, eqself]) | refine AM.drawW_fine (id := 18) hp (by kernel_rfl) (by kernel_rfl) (by kernel_rfl) ?_ | refine AM.drawW_loose (id := 24) hp (by kernel_rfl) (by kernel_rfl) ?_ | refine AM.opW_tied (by kernel_rfl) ?_ | refine AM.opW_untied (by kernel_rfl) ?_))
    refine move_w xD f okA hwD (by omega) (by omega) (by omega) (by omega) r c fun hE xE frE => ?_
    have nxE := frE.next
    have lwE := frE.low
    have yE := yD.frB frE (fun id t => t)
    have okE := okA.move (L := L) r c
    have hPE := movF_len L Pc r c
    obtain ⟨m', hm', hmle⟩ : ∃ m', (if chkF L Pc r c = 0 then mv + 1 else mv) = m' ∧ m' ≤ i + 1 := ⟨_, rfl, by split <;> omega⟩
    rw [hm'] at xE
    (repeat' (first | (simp (maxSteps := 1000000) (disch := first | omega | (simp only [AM.DB, List.length_set, List.length_map]; first | done | omega)) only [AM.RB, Nat.reduceAdd, Nat.reduceMul, Nat.reduceEqDiff, reduceCtorEq, b5_FP4]) | refine AM.drawW_fine (id := 18) hp (by kernel_rfl) (by kernel_rfl) (by kernel_rfl) ?_ | refine AM.drawW_loose (id := 24) hp (by kernel_rfl) (by kernel_rfl) ?_ | refine AM.opW_tied (by kernel_rfl) ?_ | refine AM.opW_untied (by kernel_rfl) ?_))
    refine rmove_w yE G okA (by omega) (by omega) (by omega) r c fun hF yF frF => ?_
    rw [hm'] at yF
    have nxF := frF.next
    have lwF := frF.low
    have xF := xE.moreT frF (fun id e => by have e : id = y := e; subst e; exact byB)
    (repeat' (first | (simp (maxSteps := 1000000) (disch := first | omega | (simp only [AM.DB, List.length_set, List.length_map]; first | done | omega)) only [AM.RB, Nat.reduceAdd, Nat.reduceMul, Nat.reduceEqDiff, reduceCtorEq, b5_FP4, eqself]) | refine AM.drawW_fine (id := 18) hp (by kernel_rfl) (by kernel_rfl) (by kernel_rfl) ?_ | refine AM.drawW_loose (id := 24) hp (by kernel_rfl) (by kernel_rfl) ?_ | refine AM.opW_tied (by kernel_rfl) ?_ | refine AM.opW_untied (by kernel_rfl) ?_))
    refine at_w xF (by omega) r ?_
    (repeat' (first | (simp (maxSteps := 1000000) (disch := first | omega | (simp only [AM.DB, List.length_set, List.length_map]; first | done | omega)) only [AM.RB, Nat.reduceAdd, Nat.reduceMul, Nat.reduceEqDiff, reduceCtorEq, b5_FP4]) | refine AM.drawW_fine (id := 18) hp (by kernel_rfl) (by kernel_rfl) (by kernel_rfl) ?_ | refine AM.drawW_loose (id := 24) hp (by kernel_rfl) (by kernel_rfl) ?_ | refine AM.opW_tied (by kernel_rfl) ?_ | refine AM.opW_untied (by kernel_rfl) ?_))
    refine rat_w yF.rf r ?_
    obtain ⟨qa, qc, gqF, oqF, _, _, _, _⟩ := id xF
    (repeat' (first | (simp (maxSteps := 1000000) (disch := first | omega | (simp only [AM.DB, List.length_set, List.length_map]; first | done | omega)) only [AM.RB, Nat.reduceAdd, Nat.reduceMul, Nat.reduceEqDiff, reduceCtorEq, b5_FP4, eqself]) | refine AM.drawW_fine (id := 18) hp (by kernel_rfl) (by kernel_rfl) (by kernel_rfl) ?_ | refine AM.drawW_loose (id := 24) hp (by kernel_rfl) (by kernel_rfl) ?_ | refine AM.opW_tied (by kernel_rfl) ?_ | refine AM.opW_untied (by kernel_rfl) ?_))
    refine who_w gqF oqF.rd (by omega) (by omega) c fun hG frG => ?_
    have nxG := frG.next
    have lwG := frG.low
    have xG := xF.fr0 frG
    have yG := yF.frB frG (fun id t => t.elim)
    (repeat' (first | (simp (maxSteps := 1000000) (disch := first | omega | (simp only [AM.DB, List.length_set, List.length_map]; first | done | omega)) only [AM.RB, Nat.reduceAdd, Nat.reduceMul, Nat.reduceEqDiff, reduceCtorEq, b5_FP4]) | refine AM.drawW_fine (id := 18) hp (by kernel_rfl) (by kernel_rfl) (by kernel_rfl) ?_ | refine AM.drawW_loose (id := 24) hp (by kernel_rfl) (by kernel_rfl) ?_ | refine AM.opW_tied (by kernel_rfl) ?_ | refine AM.opW_untied (by kernel_rfl) ?_))
    refine rwho_w yG.rf (by omega) c ?_
    obtain ⟨ya, yc, yrv, gyG, ryG, _⟩ := id yG
    (repeat' (first | (simp (maxSteps := 1000000) (disch := first | omega | (simp only [AM.DB, List.length_set, List.length_map]; first | done | omega)) only [AM.RB, Nat.reduceAdd, Nat.reduceMul, Nat.reduceEqDiff, reduceCtorEq, b5_FP4, eqself]) | refine AM.drawW_fine (id := 18) hp (by kernel_rfl) (by kernel_rfl) (by kernel_rfl) ?_ | refine AM.drawW_loose (id := 24) hp (by kernel_rfl) (by kernel_rfl) ?_ | refine AM.opW_tied (by kernel_rfl) ?_ | refine AM.opW_untied (by kernel_rfl) ?_))
    refine moves_w xG ?_
    have ltyG := AM.get_some_lt gyG
    (repeat' (first | (simp (maxSteps := 1000000) (disch := first | omega | (simp only [AM.DB, List.length_set, List.length_map]; first | done | omega)) only [AM.RB, Nat.reduceAdd, Nat.reduceMul, Nat.reduceEqDiff, reduceCtorEq, b5_FP4, gyG, eqself]) | refine AM.drawW_fine (id := 18) hp (by kernel_rfl) (by kernel_rfl) (by kernel_rfl) ?_ | refine AM.drawW_loose (id := 24) hp (by kernel_rfl) (by kernel_rfl) ?_ | refine AM.opW_tied (by kernel_rfl) ?_ | refine AM.opW_untied (by kernel_rfl) ?_))
    refine ⟨AM.looseOk_by [(30, [22, 27])] (by kernel_rfl) ?_, ?_⟩
    · simp (maxSteps := 1000000) (disch := first | omega | (simp only [AM.DB, List.length_set, List.length_map]; first | done | omega)) only [AM.RB, Nat.reduceAdd, Nat.reduceMul, Nat.reduceEqDiff, reduceCtorEq, b5_FP4]
      all_goals ((repeat' apply And.intro) <;> (first | (refine AM.stable_len _ _ _ _ _ _ (fun _ => ?_); (simp (maxSteps := 1000000) (disch := first | omega | (simp only [AM.DB, List.length_set, List.length_map]; first | done | omega)) only [AM.RB, Nat.reduceAdd, Nat.reduceMul, Nat.reduceEqDiff, reduceCtorEq, b5_FP4, gyG])) | (refine AM.stable_load _ _ _ _ _ _ ?_; (first | (simp (maxSteps := 1000000) (disch := first | omega | (simp only [AM.DB, List.length_set, List.length_map]; first | done | omega)) only [AM.RB, Nat.reduceAdd, Nat.reduceMul, Nat.reduceEqDiff, reduceCtorEq, b5_FP4, gyG]) | skip); (first | (refine AM.stabL_int (by omega) ?_; (simp (maxSteps := 1000000) (disch := first | omega | (simp only [AM.DB, List.length_set, List.length_map]; first | done | omega)) only [AM.RB, Nat.reduceAdd, Nat.reduceMul, Nat.reduceEqDiff, reduceCtorEq, b5_FP4, gyG])) | (refine AM.stabL_ptr (by omega) (by omega) ?_; (simp (maxSteps := 1000000) (disch := first | omega | (simp only [AM.DB, List.length_set, List.length_map]; first | done | omega)) only [AM.RB, Nat.reduceAdd, Nat.reduceMul, Nat.reduceEqDiff, reduceCtorEq, b5_FP4, gyG])) | (refine AM.stabL_string (by omega) ?_; (simp (maxSteps := 1000000) (disch := first | omega | (simp only [AM.DB, List.length_set, List.length_map]; first | done | omega)) only [AM.RB, Nat.reduceAdd, Nat.reduceMul, Nat.reduceEqDiff, reduceCtorEq, b5_FP4, gyG])) | (refine AM.stabL_bool (by omega) ?_; (simp (maxSteps := 1000000) (disch := first | omega | (simp only [AM.DB, List.length_set, List.length_map]; first | done | omega)) only [AM.RB, Nat.reduceAdd, Nat.reduceMul, Nat.reduceEqDiff, reduceCtorEq, b5_FP4, gyG]))))))
    (repeat' (first | (simp (maxSteps := 1000000) (disch := first | omega | (simp only [AM.DB, List.length_set, List.length_map]; first | done | omega)) only [AM.RB, Nat.reduceAdd, Nat.reduceMul, Nat.reduceEqDiff, reduceCtorEq, b5_FP4]) | refine AM.drawW_fine (id := 18) hp (by kernel_rfl) (by kernel_rfl) (by kernel_rfl) ?_ | refine AM.drawW_loose (id := 24) hp (by kernel_rfl) (by kernel_rfl) ?_ | refine AM.opW_tied (by kernel_rfl) ?_ | refine AM.opW_untied (by kernel_rfl) ?_))
    refine places_w xG (by omega) (by omega) fun w hH oH frH hidH => ?_
    obtain ⟨ha, hc, rfl⟩ := oH.form
    have nxH := frH.next
    have lwH := frH.low
    have xH := xG.fresh frH
    have yH := yG.frB frH (fun id t => t.elim)
    have gyH := gyG.fr0 frH
    have ryH := ryG.fr0 frH
    (repeat' (first | (simp (maxSteps := 1000000) (disch := first | omega | (simp only [AM.DB, List.length_set, List.length_map]; first | done | omega)) only [AM.RB, Nat.reduceAdd, Nat.reduceMul, Nat.reduceEqDiff, reduceCtorEq, b5_FP4, gyH]) | refine AM.drawW_fine (id := 18) hp (by kernel_rfl) (by kernel_rfl) (by kernel_rfl) ?_ | refine AM.drawW_loose (id := 24) hp (by kernel_rfl) (by kernel_rfl) ?_ | refine AM.opW_tied (by kernel_rfl) ?_ | refine AM.opW_untied (by kernel_rfl) ?_))
    refine same22_w oH.rd ryH (by omega) ?_
    rw [decide_eq_true rfl]
    (repeat' (first | (simp (maxSteps := 1000000) (disch := first | omega | (simp only [AM.DB, List.length_set, List.length_map]; first | done | omega)) only [AM.RB, Nat.reduceAdd, Nat.reduceMul, Nat.reduceEqDiff, reduceCtorEq, b5_FP4]) | refine AM.drawW_fine (id := 18) hp (by kernel_rfl) (by kernel_rfl) (by kernel_rfl) ?_ | refine AM.drawW_loose (id := 24) hp (by kernel_rfl) (by kernel_rfl) ?_ | refine AM.opW_tied (by kernel_rfl) ?_ | refine AM.opW_untied (by kernel_rfl) ?_))
    refine ftext_w xH G okE (by omega) (by omega) fun hI frI => ?_
    have nxI := frI.next
    have lwI := frI.low
    have yI := yH.frB frI (fun id t => t.elim)
    (repeat' (first | (simp (maxSteps := 1000000) (disch := first | omega | (simp only [AM.DB, List.length_set, List.length_map]; first | done | omega)) only [AM.RB, Nat.reduceAdd, Nat.reduceMul, Nat.reduceEqDiff, reduceCtorEq, b5_FP4]) | refine AM.drawW_fine (id := 18) hp (by kernel_rfl) (by kernel_rfl) (by kernel_rfl) ?_ | refine AM.drawW_loose (id := 24) hp (by kernel_rfl) (by kernel_rfl) ?_ | refine AM.opW_tied (by kernel_rfl) ?_ | refine AM.opW_untied (by kernel_rfl) ?_))
    refine rtext_w yI.rf G okE (by omega) fun hJ frJ => ?_
    have nxJ := frJ.next
    have lwJ := frJ.low
    have yJ := yI.frB frJ (fun id t => t.elim)
    have frHJ := frI.trans frJ
    have xJ := xH.fr0 frHJ
    have oJ := oH.fr0 frHJ
    have dt : decide (textF L (movF L Pc r c) (movF L Pc r c).length = textF L (movF L Pc r c) (movF L Pc r c).length) = true := decide_eq_true rfl
    (repeat' (first | (simp (maxSteps := 1000000) (disch := first | omega | (simp only [AM.DB, List.length_set, List.length_map]; first | done | omega)) only [AM.RB, Nat.reduceAdd, Nat.reduceMul, Nat.reduceEqDiff, reduceCtorEq, b5_FP4, dt]) | refine AM.drawW_fine (id := 18) hp (by kernel_rfl) (by kernel_rfl) (by kernel_rfl) ?_ | refine AM.drawW_loose (id := 24) hp (by kernel_rfl) (by kernel_rfl) ?_ | refine AM.opW_tied (by kernel_rfl) ?_ | refine AM.opW_untied (by kernel_rfl) ?_))
    refine AM.loop_w hp 203 (fun k : Nat => [(1, .slice pa P.length pc), (2, .slice ma M.length mc), (15, pv q), (17, pv y), (19, pv q2), (20, strV (textF L P P.length)), (27, .slice ha (movF L Pc r c).length hc), (95, .int .i64 M.length), (96, .int .i64 i), (184, .int .i64 (movF L Pc r c).length), (185, .int .i64 k)])
      (fun k h' => k ≤ (movF L Pc r c).length ∧ Fr (idOf (.slice ha (movF L Pc r c).length hc)) hJ h' ∧ ∃ cs, Ow h' 3 1 (.slice ha (movF L Pc r c).length hc) (movF L Pc r c).length cs) (fun k => (movF L Pc r c).length - k) (by kernel_rfl) 0 ?_ ?_ ?_
    · simp (maxSteps := 1000000) (disch := first | omega | (simp only [AM.DB, List.length_set, List.length_map]; first | done | omega)) only [AM.RB, Nat.reduceAdd, Nat.reduceMul, Nat.reduceEqDiff, reduceCtorEq, b5_FP4]
      first | rfl | skip
    · exact ⟨Nat.zero_le _, Fr.refl _ _, _, oJ⟩
    rintro k hK ρ ⟨hk, frK, cs, oK⟩
    have nxK := frK.next
    have lwK := frK.low
    simp (maxSteps := 1000000) (disch := first | omega | (simp only [AM.DB, List.length_set, List.length_map]; first | done | omega)) only [AM.RB, Nat.reduceAdd, Nat.reduceMul, Nat.reduceEqDiff, reduceCtorEq, b5_FP4]
    refine AM.condV_split (fun hltk => ?_) (fun hltk => ?_)
    · (repeat' (first | (simp (maxSteps := 1000000) (disch := first | omega | (simp only [AM.DB, List.length_set, List.length_map]; first | done | omega)) only [AM.RB, Nat.reduceAdd, Nat.reduceMul, Nat.reduceEqDiff, reduceCtorEq, b5_FP4, oK.ia el_22, Int.toNat_natCast]) | refine AM.drawW_fine (id := 18) hp (by kernel_rfl) (by kernel_rfl) (by kernel_rfl) ?_ | refine AM.drawW_loose (id := 24) hp (by kernel_rfl) (by kernel_rfl) ?_ | refine AM.opW_tied (by kernel_rfl) ?_ | refine AM.opW_untied (by kernel_rfl) ?_))
      refine oK.st sz_3 (j := k) (by omega) rfl rfl fun hL oL frL nL => ?_
      (repeat' (first | (simp (maxSteps := 1000000) (disch := first | omega | (simp only [AM.DB, List.length_set, List.length_map]; first | done | omega)) only [AM.RB, Nat.reduceAdd, Nat.reduceMul, Nat.reduceEqDiff, reduceCtorEq, b5_FP4, AM.wrap_i64]) | refine AM.drawW_fine (id := 18) hp (by kernel_rfl) (by kernel_rfl) (by kernel_rfl) ?_ | refine AM.drawW_loose (id := 24) hp (by kernel_rfl) (by kernel_rfl) ?_ | refine AM.opW_tied (by kernel_rfl) ?_ | refine AM.opW_untied (by kernel_rfl) ?_))
      exact ⟨k + 1, by omega, congrArg _ (by omega), by omega, frK.trans frL, _, oL⟩
    · have wid : ∀ id, idOf (.slice ha (movF L Pc r c).length hc) id → hG.next ≤ id ∧ id < hH.next := fun id t => ⟨hidH id t, oH.lt t⟩
      have xK := xJ.frB frK (fun id t => .inr (wid id t))
      have bF : ∀ id, (B id ∨ (hE.next ≤ id ∧ id < hF.next)) → id < hF.next := fun id t => xF.lt t
      have yK := (yJ.frB frK (fun id t b => by have := wid id t; have := bF id b; omega)).mono (C := fun id => (B id ∨ (hE.next ≤ id ∧ id < hF.next)) ∨ (hG.next ≤ id ∧ id < hH.next)) (fun id t => .inl t)
      have bA : ∀ id, B id → id < hA.next := fun id t => xA.lt t
      have tB : ∀ {h1' h2' : AHeap}, Fr (fun id => ¬ B id) h1' h2' → Fr (fun id => ¬ B0 id ∨ id = y) h1' h2' := fun fr => fr.mono fun id _ a => .inl fun b => a (hBB id b)
      have t0 : ∀ {h1' h2' : AHeap}, Fr none' h1' h2' → Fr (fun id => ¬ B0 id ∨ id = y) h1' h2' := fun fr => fr.mono fun _ _ t => t.elim
      have f1 := fA.trans (tB frB)
      have f2 := f1.trans (frC.mono (T := fun id => ¬ B0 id ∨ id = y) fun id _ e => .inl fun b => by have e : id = p := e; subst e; exact pB (hBB _ b))
      have f3 := (f2.trans (t0 frD)).trans (tB frE)
      have f4 := f3.trans (frF.mono (T := fun id => ¬ B0 id ∨ id = y) fun id _ e => .inr e)
      have f5 := ((f4.trans (t0 frG)).trans (t0 frH)).trans (t0 frHJ)
      have f6 := f5.trans (frK.mono (T := fun id => ¬ B0 id ∨ id = y) fun id _ t => .inl fun b => by have := wid id t; have := bA id (hBB id b); omega)
      (repeat' (first | (simp (maxSteps := 1000000) (disch := first | omega | (simp only [AM.DB, List.length_set, List.length_map]; first | done | omega)) only [AM.RB, Nat.reduceAdd, Nat.reduceMul, Nat.reduceEqDiff, reduceCtorEq, b5_FP4, AM.wrap_i64]) | refine AM.drawW_fine (id := 18) hp (by kernel_rfl) (by kernel_rfl) (by kernel_rfl) ?_ | refine AM.drawW_loose (id := 24) hp (by kernel_rfl) (by kernel_rfl) ?_ | refine AM.opW_tied (by kernel_rfl) ?_ | refine AM.opW_untied (by kernel_rfl) ?_))
      exact ⟨i + 1, by omega, congrArg _ (by omega), by omega, f6, movF L Pc r c, _, m', by omega, by omega, okE, fun id b => .inl (.inl (hBB id b)), xK, yK⟩
  · have gq2A := fA.get g26 (fun t => t.elim (fun t => t bq2) (fun e => by omega))
    have o2A := o26.fr fA (fun id a t => t.elim (fun t => t (bc2 id a)) (fun e => by have := (hidc id a).1; omega))
    have hPA := (hP.fr0 fr06).fr fA (fun id a t => by have := hP.lt a; exact t.elim (fun t => t (bh _ this)) (by omega))
    obtain ⟨_, _, _, _, _, _, _, mxA⟩ := id xA
    have x2 : Fl hA q2 p L P 0 (fun _ => False) := ⟨ca, cc, gq2A, o2A, fun t => (hidc _ t).2 rfl, by omega, fun id t => t.elim, mxA.subF fun id t => by
      rcases t with t | t | t
      · exact t.elim
      · exact .inl (hBB _ (by rw [t]; exact bq2))
      · exact .inl (hBB _ (bc2 id t))⟩
    have dt : decide (textF L P P.length = textF L P P.length) = true := decide_eq_true rfl
    (repeat' (first | (simp (maxSteps := 1000000) (disch := first | omega | (simp only [AM.DB, List.length_set, List.length_map]; first | done | omega)) only [AM.RB, Nat.reduceAdd, Nat.reduceMul, Nat.reduceEqDiff, reduceCtorEq, b5_FP4]) | refine AM.drawW_fine (id := 18) hp (by kernel_rfl) (by kernel_rfl) (by kernel_rfl) ?_ | refine AM.drawW_loose (id := 24) hp (by kernel_rfl) (by kernel_rfl) ?_ | refine AM.opW_tied (by kernel_rfl) ?_ | refine AM.opW_untied (by kernel_rfl) ?_))
    refine ftext_w x2 G ok (by omega) (by omega) fun hB frB => ?_
    have nxB := frB.next
    have lwB := frB.low
    (repeat' (first | (simp (maxSteps := 1000000) (disch := first | omega | (simp only [AM.DB, List.length_set, List.length_map]; first | done | omega)) only [AM.RB, Nat.reduceAdd, Nat.reduceMul, Nat.reduceEqDiff, reduceCtorEq, b5_FP4, dt]) | refine AM.drawW_fine (id := 18) hp (by kernel_rfl) (by kernel_rfl) (by kernel_rfl) ?_ | refine AM.drawW_loose (id := 24) hp (by kernel_rfl) (by kernel_rfl) ?_ | refine AM.opW_tied (by kernel_rfl) ?_ | refine AM.opW_untied (by kernel_rfl) ?_))
    refine places_w (x2.fr0 frB) (by omega) (by omega) fun w hC oC frC hidC => ?_
    obtain ⟨wa, wc, rfl⟩ := oC.form
    (repeat' (first | (simp (maxSteps := 1000000) (disch := first | omega | (simp only [AM.DB, List.length_set, List.length_map]; first | done | omega)) only [AM.RB, Nat.reduceAdd, Nat.reduceMul, Nat.reduceEqDiff, reduceCtorEq, b5_FP4]) | refine AM.drawW_fine (id := 18) hp (by kernel_rfl) (by kernel_rfl) (by kernel_rfl) ?_ | refine AM.drawW_loose (id := 24) hp (by kernel_rfl) (by kernel_rfl) ?_ | refine AM.opW_tied (by kernel_rfl) ?_ | refine AM.opW_untied (by kernel_rfl) ?_))
    refine same22_w oC.rd ((hPA.fr0 frB).fr0 frC) (by omega) ?_
    rw [decide_eq_true rfl]
    (repeat' (first | (simp (maxSteps := 1000000) (disch := first | omega | (simp only [AM.DB, List.length_set, List.length_map]; first | done | omega)) only [AM.RB, Nat.reduceAdd, Nat.reduceMul, Nat.reduceEqDiff, reduceCtorEq, b5_FP4]) | refine AM.drawW_fine (id := 18) hp (by kernel_rfl) (by kernel_rfl) (by kernel_rfl) ?_ | refine AM.drawW_loose (id := 24) hp (by kernel_rfl) (by kernel_rfl) ?_ | refine AM.opW_tied (by kernel_rfl) ?_ | refine AM.opW_untied (by kernel_rfl) ?_))

end Go.Proofs.YtbaohngkapmhlaaDoor
