/- Walks of this claim's functions, and plain laws. -/
import Derived.Test.YtbaohngkapmhlaaDoorWf
set_option linter.unusedSimpArgs false
set_option linter.unusedVariables false
namespace Go.Proofs.YtbaohngkapmhlaaDoor
open Go.AM
set_option maxRecDepth 8000
theorem b7_PC12 : type_of% (And.intro (@Option.isNone_none.{0}) (And.intro (@Option.isNone_some.{0}) (And.intro (@AM.alK_some) (And.intro (@al_65) (And.intro (@AM.andO_some) (And.intro (@AM.bin_add) (And.intro (AM.bin_agg_neq se_65) (And.intro (AM.bin_bne ul_4) (And.intro (@AM.bin_eql) (And.intro (@AM.bin_gtr) (And.intro (@AM.bin_lss) (And.intro (@AM.bin_neq) (And.intro (AM.bin_pnil ul_26) (And.intro (AM.bin_pnil ul_45) (And.intro (@AM.boxK_agg) (And.intro (@AM.boxK_bool) (And.intro (@AM.boxK_func) (And.intro (@AM.boxK_int) (And.intro (@AM.boxK_map) (And.intro (@AM.boxK_pointer) (And.intro (@AM.boxK_slice) (And.intro (@AM.boxK_string) (And.intro (@AM.eqL_cons) (And.intro (@AM.eqL_nil) (And.intro (@AM.eqS_bool) (And.intro (@AM.eqS_int) (And.intro (@AM.eqS_string) (And.intro (@AM.ex_tuple) (And.intro (@AM.fa_ptr) (And.intro (@fd_59_0) (And.intro (@fd_59_1) (And.intro (@AM.iaO_ok) (And.intro (AM.ia_slice el_70) (And.intro (@AM.ldO_agg) (And.intro (@AM.ldO_one) (And.intro (@AM.ld_ptr) (And.intro (AM.len_slice ul_22) (And.intro (AM.len_slice ul_70) (And.intro (@lk_22) (And.intro (@lk_59) (And.intro (@lk_65) (And.intro (@AM.op_alloc) (And.intro (@AM.op_binOp) (And.intro (@AM.op_box) (And.intro (@AM.op_call) (And.intro (@AM.op_extract) (And.intro (@AM.op_fieldAddr) (And.intro (@AM.op_indexAddr) (And.intro (@AM.op_len) (And.intro (@AM.op_load) (And.intro (@AM.op_store) (And.intro (@AM.op_unOp) (And.intro (@AM.stO_agg) (And.intro (@AM.stO_bool) (And.intro (@AM.stO_int) (And.intro (@AM.stO_map) (And.intro (@AM.stO_pointer) (And.intro (@AM.stO_slice) (And.intro (@AM.stO_string) (And.intro (@AM.st_ptr) (And.intro (@sz_65) (And.intro (@AM.un_neg) (@AM.un_not))))))))))))))))))))))))))))))))))))))))))))))))))))))))))))))) := And.intro (@Option.isNone_none.{0}) (And.intro (@Option.isNone_some.{0}) (And.intro (@AM.alK_some) (And.intro (@al_65) (And.intro (@AM.andO_some) (And.intro (@AM.bin_add) (And.intro (AM.bin_agg_neq se_65) (And.intro (AM.bin_bne ul_4) (And.intro (@AM.bin_eql) (And.intro (@AM.bin_gtr) (And.intro (@AM.bin_lss) (And.intro (@AM.bin_neq) (And.intro (AM.bin_pnil ul_26) (And.intro (AM.bin_pnil ul_45) (And.intro (@AM.boxK_agg) (And.intro (@AM.boxK_bool) (And.intro (@AM.boxK_func) (And.intro (@AM.boxK_int) (And.intro (@AM.boxK_map) (And.intro (@AM.boxK_pointer) (And.intro (@AM.boxK_slice) (And.intro (@AM.boxK_string) (And.intro (@AM.eqL_cons) (And.intro (@AM.eqL_nil) (And.intro (@AM.eqS_bool) (And.intro (@AM.eqS_int) (And.intro (@AM.eqS_string) (And.intro (@AM.ex_tuple) (And.intro (@AM.fa_ptr) (And.intro (@fd_59_0) (And.intro (@fd_59_1) (And.intro (@AM.iaO_ok) (And.intro (AM.ia_slice el_70) (And.intro (@AM.ldO_agg) (And.intro (@AM.ldO_one) (And.intro (@AM.ld_ptr) (And.intro (AM.len_slice ul_22) (And.intro (AM.len_slice ul_70) (And.intro (@lk_22) (And.intro (@lk_59) (And.intro (@lk_65) (And.intro (@AM.op_alloc) (And.intro (@AM.op_binOp) (And.intro (@AM.op_box) (And.intro (@AM.op_call) (And.intro (@AM.op_extract) (And.intro (@AM.op_fieldAddr) (And.intro (@AM.op_indexAddr) (And.intro (@AM.op_len) (And.intro (@AM.op_load) (And.intro (@AM.op_store) (And.intro (@AM.op_unOp) (And.intro (@AM.stO_agg) (And.intro (@AM.stO_bool) (And.intro (@AM.stO_int) (And.intro (@AM.stO_map) (And.intro (@AM.stO_pointer) (And.intro (@AM.stO_slice) (And.intro (@AM.stO_string) (And.intro (@AM.st_ptr) (And.intro (@sz_65) (And.intro (@AM.un_neg) (@AM.un_not))))))))))))))))))))))))))))))))))))))))))))))))))))))))))))))


set_option maxHeartbeats 16000000 in
theorem checksLaw_w (l : List UInt8) {va vb : Value} {a b : St} {h : AHeap} (ha : StR h va a) (hb : StR h vb b) (hw0 : h.get GW = some (.cells waysC 166 false)) (hl0 : h.low = h.next) : W 7 [strV l, va, vb] h fun v _ => v = .bool true := by
  have hgl : GW < h.low := by have := AM.get_some_lt hw0; omega
  obtain ⟨a1, a2, rfl, ra1, ra2⟩ := id ha
  obtain ⟨a1a, a1c, rfl⟩ := ra1.form
  obtain ⟨a2a, a2c, rfl⟩ := ra2.form
  obtain ⟨b1, b2, rfl, rb1, rb2⟩ := id hb
  obtain ⟨b1a, b1c, rfl⟩ := rb1.form
  obtain ⟨b2a, b2c, rfl⟩ := rb2.form
  have d250 : decide ((250 : Int) = 0) = false := rfl
  have d251 : decide ((250 : Int) = 250) = true := rfl
  have d00 : decide ((0 : Int) = 0) = true := rfl
  refine AM.enter hp (fn := Tryd.f7) (rs := [.tmp 6]) (nt := 129) (by kernel_rfl) Tryd.func7 rfl rfl rfl (by kernel_rfl) ?_
  simp (maxSteps := 1000000) (disch := first | omega | (simp only [AM.DB, List.length_set, List.length_map]; first | done | omega)) only [AM.RB, Nat.reduceAdd, Nat.reduceMul, Nat.reduceEqDiff, reduceCtorEq, b7_PC12]
  generalize hE_ : AHeap.alloc h _ = h1; obtain ⟨g1, fr1, n1, l1⟩ := AM.new_get hE_; clear hE_
  generalize hE_ : AHeap.alloc h1 _ = h2; obtain ⟨g2, fr2, n2, l2⟩ := AM.new_get hE_; clear hE_
  rw [n1] at g2
  have g12 := g1.fr0 fr2
  have fr02 := fr1.trans fr2
  have nx2 := fr02.next
  have lw2 := fr02.low
  (repeat' (first | (simp (maxSteps := 1000000) (disch := first | omega | (simp only [AM.DB, List.length_set, List.length_map]; first | done | omega)) only [AM.RB, Nat.reduceAdd, Nat.reduceMul, Nat.reduceEqDiff, reduceCtorEq, b7_PC12]) | refine AM.drawW_loose (id := 11) hp (by kernel_rfl) (by kernel_rfl) ?_ | refine AM.drawW_fine (id := 21) hp (by kernel_rfl) (by kernel_rfl) (by kernel_rfl) ?_ | refine AM.opW_tied (by kernel_rfl) ?_ | refine AM.opW_untied (by kernel_rfl) ?_))
  refine both_w l 30 (by omega) (by omega) (fun h3 fr3 => ?_) (fun L p kv q lv h3 hv hcM m3 r3 fr3 hp3 hid3 hqp hlp => ?_)
  · (repeat' (first | (simp (maxSteps := 1000000) (disch := first | omega | (simp only [AM.DB, List.length_set, List.length_map]; first | done | omega)) only [AM.RB, Nat.reduceAdd, Nat.reduceMul, Nat.reduceEqDiff, reduceCtorEq, b7_PC12]) | refine AM.drawW_loose (id := 11) hp (by kernel_rfl) (by kernel_rfl) ?_ | refine AM.drawW_fine (id := 21) hp (by kernel_rfl) (by kernel_rfl) (by kernel_rfl) ?_ | refine AM.opW_tied (by kernel_rfl) ?_ | refine AM.opW_untied (by kernel_rfl) ?_))
  have G := verd_good hv
  have f := G.fit
  have g13 := g12.fr0 fr3
  have g23 := g2.fr0 fr3
  have fr03 := fr02.trans fr3
  have nx3 := fr3.next
  have lw3 := fr03.low
  by_cases c1 : (40 : Int) < a.1.length
  · (repeat' (first | (simp (maxSteps := 1000000) (disch := first | omega | (simp only [AM.DB, List.length_set, List.length_map]; first | done | omega)) only [AM.RB, Nat.reduceAdd, Nat.reduceMul, Nat.reduceEqDiff, reduceCtorEq, b7_PC12, g13, g23, decide_eq_true c1]) | refine AM.drawW_loose (id := 11) hp (by kernel_rfl) (by kernel_rfl) ?_ | refine AM.drawW_fine (id := 21) hp (by kernel_rfl) (by kernel_rfl) (by kernel_rfl) ?_ | refine AM.opW_tied (by kernel_rfl) ?_ | refine AM.opW_untied (by kernel_rfl) ?_))
  by_cases c2 : (40 : Int) < b.1.length
  · (repeat' (first | (simp (maxSteps := 1000000) (disch := first | omega | (simp only [AM.DB, List.length_set, List.length_map]; first | done | omega)) only [AM.RB, Nat.reduceAdd, Nat.reduceMul, Nat.reduceEqDiff, reduceCtorEq, b7_PC12, g13, g23, decide_eq_false c1, decide_eq_true c2]) | refine AM.drawW_loose (id := 11) hp (by kernel_rfl) (by kernel_rfl) ?_ | refine AM.drawW_fine (id := 21) hp (by kernel_rfl) (by kernel_rfl) (by kernel_rfl) ?_ | refine AM.opW_tied (by kernel_rfl) ?_ | refine AM.opW_untied (by kernel_rfl) ?_))
  by_cases c3 : (40 : Int) < a.2.length
  · (repeat' (first | (simp (maxSteps := 1000000) (disch := first | omega | (simp only [AM.DB, List.length_set, List.length_map]; first | done | omega)) only [AM.RB, Nat.reduceAdd, Nat.reduceMul, Nat.reduceEqDiff, reduceCtorEq, b7_PC12, g13, g23, decide_eq_false c1, decide_eq_false c2, decide_eq_true c3]) | refine AM.drawW_loose (id := 11) hp (by kernel_rfl) (by kernel_rfl) ?_ | refine AM.drawW_fine (id := 21) hp (by kernel_rfl) (by kernel_rfl) (by kernel_rfl) ?_ | refine AM.opW_tied (by kernel_rfl) ?_ | refine AM.opW_untied (by kernel_rfl) ?_))
  by_cases c4 : (40 : Int) < b.2.length
  · (repeat' (first | (simp (maxSteps := 1000000) (disch := first | omega | (simp only [AM.DB, List.length_set, List.length_map]; first | done | omega)) only [AM.RB, Nat.reduceAdd, Nat.reduceMul, Nat.reduceEqDiff, reduceCtorEq, b7_PC12, g13, g23, decide_eq_false c1, decide_eq_false c2, decide_eq_false c3, decide_eq_true c4]) | refine AM.drawW_loose (id := 11) hp (by kernel_rfl) (by kernel_rfl) ?_ | refine AM.drawW_fine (id := 21) hp (by kernel_rfl) (by kernel_rfl) (by kernel_rfl) ?_ | refine AM.opW_tied (by kernel_rfl) ?_ | refine AM.opW_untied (by kernel_rfl) ?_))
  (repeat' (first | (simp (maxSteps := 1000000) (disch := first | omega | (simp only [AM.DB, List.length_set, List.length_map]; first | done | omega)) only [AM.RB, Nat.reduceAdd, Nat.reduceMul, Nat.reduceEqDiff, reduceCtorEq, b7_PC12, g13, g23, decide_eq_false c1, decide_eq_false c2, decide_eq_false c3, decide_eq_false c4]) | refine AM.drawW_loose (id := 11) hp (by kernel_rfl) (by kernel_rfl) ?_ | refine AM.drawW_fine (id := 21) hp (by kernel_rfl) (by kernel_rfl) (by kernel_rfl) ?_ | refine AM.opW_tied (by kernel_rfl) ?_ | refine AM.opW_untied (by kernel_rfl) ?_))
  refine check_w m3 f (ha.fr0 fr03) (by omega) fun h4 fr4 => ?_
  have fr04 := fr03.trans fr4
  have nx4 := fr4.next
  have lw4 := fr4.low
  have hx_1 := g13.fr0 fr4
  (repeat' (first | (simp (maxSteps := 1000000) (disch := first | omega | (simp only [AM.DB, List.length_set, List.length_map]; first | done | omega)) only [AM.RB, Nat.reduceAdd, Nat.reduceMul, Nat.reduceEqDiff, reduceCtorEq, b7_PC12, hx_1]) | refine AM.drawW_loose (id := 11) hp (by kernel_rfl) (by kernel_rfl) ?_ | refine AM.drawW_fine (id := 21) hp (by kernel_rfl) (by kernel_rfl) (by kernel_rfl) ?_ | refine AM.opW_tied (by kernel_rfl) ?_ | refine AM.opW_untied (by kernel_rfl) ?_))
  refine refCheck_w (r3.fr0 fr4) G (ha.fr0 fr04) (by omega) fun h5 fr5 => ?_
  have fr35 := fr4.trans fr5
  have fr05 := fr03.trans fr35
  have nx5 := fr5.next
  have lw5 := fr5.low
  have g15 := g13.fr0 fr35
  have g25 := g23.fr0 fr35
  have hltA : ∀ id, (idOf (.slice a1a a.1.length a1c) id ∨ idOf (.slice a2a a.2.length a2c) id) → id < h2.next := fun id q => by
    rcases q with q | q
    · have := ra1.lt q; omega
    · have := ra2.lt q; omega
  have k5 : Mk h5 p L (fun id => id < h2.next) := Mk.start (m3.fr0 fr35) hp3 hid3 (by omega) (fun id q => q)
  have pl : h2.next ≤ p := hp3
  have low_ : h.next < h2.next := by omega
  have gwp : GW ≠ p := by omega
  (repeat' (first | (simp (maxSteps := 1000000) (disch := first | omega | (simp only [AM.DB, List.length_set, List.length_map]; first | done | omega)) only [AM.RB, Nat.reduceAdd, Nat.reduceMul, Nat.reduceEqDiff, reduceCtorEq, b7_PC12, g15, g25]) | refine AM.drawW_loose (id := 11) hp (by kernel_rfl) (by kernel_rfl) ?_ | refine AM.drawW_fine (id := 21) hp (by kernel_rfl) (by kernel_rfl) (by kernel_rfl) ?_ | refine AM.opW_tied (by kernel_rfl) ?_ | refine AM.opW_untied (by kernel_rfl) ?_))
  refine between_w k5 f (hw0.fr0 fr05) (by omega) (by omega) (ha.fr0 fr05) (hb.fr0 fr05) (by omega) (by omega) fun h6 k6 fr6 => ?_
  have nx6 := fr6.next
  have lw6 := fr6.low
  have hsA : ∀ {h'}, Fr (fun id => id = p) h5 h' → StR h' (.agg #[.slice a1a a.1.length a1c, .slice a2a a.2.length a2c]) a := fun fr =>
    (ha.fr0 fr05).frp (fun x y e => by
      cases e
      exact ⟨fun id q e => by have := hltA id (.inl q); have e : id = p := e; omega, fun id q e => by have := hltA id (.inr q); have e : id = p := e; omega⟩) fr
  have hsB : ∀ {h'}, Fr (fun id => id = p) h5 h' → StR h' (.agg #[.slice b1a b.1.length b1c, .slice b2a b.2.length b2c]) b := fun fr =>
    (hb.fr0 fr05).frp (fun x y e => by
      cases e
      exact ⟨fun id q e => by have := rb1.lt q; have e : id = p := e; omega, fun id q e => by have := rb2.lt q; have e : id = p := e; omega⟩) fr
  have g16 := fr6.get g15 (show ¬ h.next = p by omega)
  have g26 := fr6.get g25 (show ¬ h.next + 1 = p by omega)
  have r6 := (r3.fr0 fr35).fr fr6 hqp hlp
  (repeat' (first | (simp (maxSteps := 1000000) (disch := first | omega | (simp only [AM.DB, List.length_set, List.length_map]; first | done | omega)) only [AM.RB, Nat.reduceAdd, Nat.reduceMul, Nat.reduceEqDiff, reduceCtorEq, b7_PC12, g16, g26]) | refine AM.drawW_loose (id := 11) hp (by kernel_rfl) (by kernel_rfl) ?_ | refine AM.drawW_fine (id := 21) hp (by kernel_rfl) (by kernel_rfl) (by kernel_rfl) ?_ | refine AM.opW_tied (by kernel_rfl) ?_ | refine AM.opW_untied (by kernel_rfl) ?_))
  generalize hE_ : AHeap.put (AHeap.alloc h6 _) _ _ = h7; obtain ⟨g7, fr7, n7, l7⟩ := AM.box_get hE_ (by omega); clear hE_
  have hx_2 := g16.fr0 fr7
  have hx_3 := g26.fr0 fr7
  (repeat' (first | (simp (maxSteps := 1000000) (disch := first | omega | (simp only [AM.DB, List.length_set, List.length_map]; first | done | omega)) only [AM.RB, Nat.reduceAdd, Nat.reduceMul, Nat.reduceEqDiff, reduceCtorEq, b7_PC12, hx_2, hx_3]) | refine AM.drawW_loose (id := 11) hp (by kernel_rfl) (by kernel_rfl) ?_ | refine AM.drawW_fine (id := 21) hp (by kernel_rfl) (by kernel_rfl) (by kernel_rfl) ?_ | refine AM.opW_tied (by kernel_rfl) ?_ | refine AM.opW_untied (by kernel_rfl) ?_))
  refine refBetween_w (r6.fr0 fr7) G ((hsA fr6).fr0 fr7) ((hsB fr6).fr0 fr7) (by omega) (by omega) (by omega) fun h8 fr8 => ?_
  have fr68 := fr7.trans fr8
  have nx8 := fr68.next
  have lw8 := fr68.low
  have hx_4 := g16.fr0 fr68
  (repeat' (first | (simp (maxSteps := 1000000) (disch := first | omega | (simp only [AM.DB, List.length_set, List.length_map]; first | done | omega)) only [AM.RB, Nat.reduceAdd, Nat.reduceMul, Nat.reduceEqDiff, reduceCtorEq, b7_PC12, hx_4]) | refine AM.drawW_loose (id := 11) hp (by kernel_rfl) (by kernel_rfl) ?_ | refine AM.drawW_fine (id := 21) hp (by kernel_rfl) (by kernel_rfl) (by kernel_rfl) ?_ | refine AM.opW_tied (by kernel_rfl) ?_ | refine AM.opW_untied (by kernel_rfl) ?_))
  generalize hE_ : AHeap.put (AHeap.alloc h8 _) _ _ = h9; obtain ⟨g9, fr9, n9, l9⟩ := AM.box_get hE_ (by omega); clear hE_
  have fr69 := fr68.trans fr9
  have nx9 := fr69.next
  have lw9 := fr69.low
  have g79 := (g7.fr0 fr8).fr0 fr9
  have g19 := g16.fr0 fr69
  have g29 := g26.fr0 fr69
  have r9 := r6.fr0 fr69
  have hw9 := (fr6.get (hw0.fr0 fr05) gwp).fr0 fr69
  have fr59 : Fr (fun id => id = p) h5 h9 := fr6.trans (fr69.mono fun _ _ q => q.elim)
  (repeat' (first | (simp (maxSteps := 1000000) (disch := first | omega | (simp only [AM.DB, List.length_set, List.length_map]; first | done | omega)) only [AM.RB, Nat.reduceAdd, Nat.reduceMul, Nat.reduceEqDiff, reduceCtorEq, b7_PC12, g19]) | refine AM.drawW_loose (id := 11) hp (by kernel_rfl) (by kernel_rfl) ?_ | refine AM.drawW_fine (id := 21) hp (by kernel_rfl) (by kernel_rfl) (by kernel_rfl) ?_ | refine AM.opW_tied (by kernel_rfl) ?_ | refine AM.opW_untied (by kernel_rfl) ?_))
  refine steps_w (k6.fr0 fr69) f hw9 (by omega) (by omega) (hsA fr59) (fun x y e => by cases e; exact hltA) fun v10 h10 o10 k10 fr10 hid10 => ?_
  obtain ⟨sa, sc, rfl⟩ := o10.form
  have nx10 := fr10.next
  have lw10 := fr10.low
  have pl6 := k6.lt
  have g1a := fr10.get g19 (show ¬ h.next = p by omega)
  have g2a := fr10.get g29 (show ¬ h.next + 1 = p by omega)
  have g7a := fr10.get g79 (show ¬ h6.next = p by omega)
  have g9a := fr10.get g9 (show ¬ h8.next = p by omega)
  have r10 := r9.fr fr10 hqp hlp
  have fr5a : Fr (fun id => id = p) h5 h10 := fr59.trans fr10
  have sA := hsA fr5a
  have sB := hsB fr5a
  have fin : ∀ {x : Bool}, x = chk L.flatten a → True := fun _ => trivial
  have bc : ∀ x : Bool, decide ((if x = true then (0 : Int) else 250) = 0) = x := fun x => by cases x <;> rfl
  cases hc : chk L.flatten a
  · rw [hc] at o10
    simp only [Bool.false_eq_true, if_false, List.length_nil] at o10 ⊢
    (repeat' (first | (simp (maxSteps := 1000000) (disch := first | omega | (simp only [AM.DB, List.length_set, List.length_map]; first | done | omega)) only [AM.RB, Nat.reduceAdd, Nat.reduceMul, Nat.reduceEqDiff, reduceCtorEq, b7_PC12, d250, g7a, g9a, g1a, g2a, eqself, Bool.true_and, Bool.and_true]) | refine AM.drawW_loose (id := 11) hp (by kernel_rfl) (by kernel_rfl) ?_ | refine AM.drawW_fine (id := 21) hp (by kernel_rfl) (by kernel_rfl) (by kernel_rfl) ?_ | refine AM.opW_tied (by kernel_rfl) ?_ | refine AM.opW_untied (by kernel_rfl) ?_))
    refine psame_w sA sB (by omega) (by omega) fun h11 fr11 => ?_
    have nx11 := fr11.next
    have hx_5 := g1a.fr0 fr11
    have hx_6 := g2a.fr0 fr11
    (repeat' (first | (simp (maxSteps := 1000000) (disch := first | omega | (simp only [AM.DB, List.length_set, List.length_map]; first | done | omega)) only [AM.RB, Nat.reduceAdd, Nat.reduceMul, Nat.reduceEqDiff, reduceCtorEq, b7_PC12, hx_5, hx_6]) | refine AM.drawW_loose (id := 11) hp (by kernel_rfl) (by kernel_rfl) ?_ | refine AM.drawW_fine (id := 21) hp (by kernel_rfl) (by kernel_rfl) (by kernel_rfl) ?_ | refine AM.opW_tied (by kernel_rfl) ?_ | refine AM.opW_untied (by kernel_rfl) ?_))
    refine refSame_w (sA.fr0 fr11) (sB.fr0 fr11) (by omega) (by omega) fun h12 fr12 => ?_
    have g1c := g1a.fr0 fr11
    have g2c := g2a.fr0 fr11
    obtain ⟨x1, x2, ex, rx1, rx2⟩ := sA.fr0 fr11
    obtain ⟨y1, y2, ey, ry1, ry2⟩ := sB.fr0 fr11
    cases ex
    cases ey
    cases eab : decide (a = b)
    all_goals (
      (repeat' (first | (simp (maxSteps := 1000000) (disch := first | omega | (simp only [AM.DB, List.length_set, List.length_map]; first | done | omega)) only [AM.RB, Nat.reduceAdd, Nat.reduceMul, Nat.reduceEqDiff, reduceCtorEq, b7_PC12, d251, d00]) | refine AM.drawW_loose (id := 11) hp (by kernel_rfl) (by kernel_rfl) ?_ | refine AM.drawW_fine (id := 21) hp (by kernel_rfl) (by kernel_rfl) (by kernel_rfl) ?_ | refine AM.opW_tied (by kernel_rfl) ?_ | refine AM.opW_untied (by kernel_rfl) ?_))
      refine And.left (b := True) ?_
      refine ⟨AM.looseOk_by [(18, [0, 18]), (19, [0, 18])] (by kernel_rfl) ?_, ?_⟩
      · simp (maxSteps := 1000000) (disch := first | omega | (simp only [AM.DB, List.length_set, List.length_map]; first | done | omega)) only [AM.RB, Nat.reduceAdd, Nat.reduceMul, Nat.reduceEqDiff, reduceCtorEq, b7_PC12]
        all_goals ((repeat' apply And.intro) <;> (first | (refine AM.stable_len _ _ _ _ _ _ (fun _ => ?_); (simp (maxSteps := 1000000) (disch := first | omega | (simp only [AM.DB, List.length_set, List.length_map]; first | done | omega)) only [AM.RB, Nat.reduceAdd, Nat.reduceMul, Nat.reduceEqDiff, reduceCtorEq, b7_PC12, g1a, g2a, g1c, g2c])) | (refine AM.stable_load _ _ _ _ _ _ ?_; (first | (simp (maxSteps := 1000000) (disch := first | omega | (simp only [AM.DB, List.length_set, List.length_map]; first | done | omega)) only [AM.RB, Nat.reduceAdd, Nat.reduceMul, Nat.reduceEqDiff, reduceCtorEq, b7_PC12, g1a, g2a, g1c, g2c]) | skip); (first | (refine AM.stabL_agg2 rx1 rx2 (by omega) (by omega) ?_; (simp (maxSteps := 1000000) (disch := first | omega | (simp only [AM.DB, List.length_set, List.length_map]; first | done | omega)) only [AM.RB, Nat.reduceAdd, Nat.reduceMul, Nat.reduceEqDiff, reduceCtorEq, b7_PC12, g1a, g2a, g1c, g2c])) | (refine AM.stabL_agg2 ry1 ry2 (by omega) (by omega) ?_; (simp (maxSteps := 1000000) (disch := first | omega | (simp only [AM.DB, List.length_set, List.length_map]; first | done | omega)) only [AM.RB, Nat.reduceAdd, Nat.reduceMul, Nat.reduceEqDiff, reduceCtorEq, b7_PC12, g1a, g2a, g1c, g2c])) | (refine AM.stabL_int (by omega) ?_; (simp (maxSteps := 1000000) (disch := first | omega | (simp only [AM.DB, List.length_set, List.length_map]; first | done | omega)) only [AM.RB, Nat.reduceAdd, Nat.reduceMul, Nat.reduceEqDiff, reduceCtorEq, b7_PC12, g1a, g2a, g1c, g2c])) | (refine AM.stabL_ptr (by omega) (by omega) ?_; (simp (maxSteps := 1000000) (disch := first | omega | (simp only [AM.DB, List.length_set, List.length_map]; first | done | omega)) only [AM.RB, Nat.reduceAdd, Nat.reduceMul, Nat.reduceEqDiff, reduceCtorEq, b7_PC12, g1a, g2a, g1c, g2c])) | (refine AM.stabL_string (by omega) ?_; (simp (maxSteps := 1000000) (disch := first | omega | (simp only [AM.DB, List.length_set, List.length_map]; first | done | omega)) only [AM.RB, Nat.reduceAdd, Nat.reduceMul, Nat.reduceEqDiff, reduceCtorEq, b7_PC12, g1a, g2a, g1c, g2c])) | (refine AM.stabL_bool (by omega) ?_; (simp (maxSteps := 1000000) (disch := first | omega | (simp only [AM.DB, List.length_set, List.length_map]; first | done | omega)) only [AM.RB, Nat.reduceAdd, Nat.reduceMul, Nat.reduceEqDiff, reduceCtorEq, b7_PC12, g1a, g2a, g1c, g2c]))))))
      trivial)
  · rw [hc] at o10
    simp only [if_true] at o10 ⊢
    (repeat' (first | (simp (maxSteps := 1000000) (disch := first | omega | (simp only [AM.DB, List.length_set, List.length_map]; first | done | omega)) only [AM.RB, Nat.reduceAdd, Nat.reduceMul, Nat.reduceEqDiff, reduceCtorEq, b7_PC12, d00, g7a, g9a, g1a, g2a, eqself, Bool.true_and, Bool.and_true]) | refine AM.drawW_loose (id := 11) hp (by kernel_rfl) (by kernel_rfl) ?_ | refine AM.drawW_fine (id := 21) hp (by kernel_rfl) (by kernel_rfl) (by kernel_rfl) ?_ | refine AM.opW_tied (by kernel_rfl) ?_ | refine AM.opW_untied (by kernel_rfl) ?_))
    refine psame_w sA sB (by omega) (by omega) fun h11 fr11 => ?_
    have g1c := g1a.fr0 fr11
    have g2c := g2a.fr0 fr11
    (repeat' (first | (simp (maxSteps := 1000000) (disch := first | omega | (simp only [AM.DB, List.length_set, List.length_map]; first | done | omega)) only [AM.RB, Nat.reduceAdd, Nat.reduceMul, Nat.reduceEqDiff, reduceCtorEq, b7_PC12, g1c, g2c]) | refine AM.drawW_loose (id := 11) hp (by kernel_rfl) (by kernel_rfl) ?_ | refine AM.drawW_fine (id := 21) hp (by kernel_rfl) (by kernel_rfl) (by kernel_rfl) ?_ | refine AM.opW_tied (by kernel_rfl) ?_ | refine AM.opW_untied (by kernel_rfl) ?_))
    refine refSame_w (sA.fr0 fr11) (sB.fr0 fr11) (by omega) (by omega) fun h12 fr12 => ?_
    obtain ⟨x1, x2, ex, rx1, rx2⟩ := sA.fr0 fr11
    obtain ⟨y1, y2, ey, ry1, ry2⟩ := sB.fr0 fr11
    cases ex
    cases ey
    have nx12 := fr12.next
    have lw12 := fr12.low
    have nx11 := fr11.next
    have lw11 := fr11.low
    have fra := fr11.trans fr12
    have ch := (chk_iff _ _).1 hc
    have hll : (stepsL L a).length ≤ 3 * (64 * 1024) := by
      rw [← stepsKs_3]
      exact Nat.le_trans (stepsKs_len L a 3) (Nat.mul_le_mul_left _ (Nat.mul_le_mul ch.l64 f.k1024))
    cases eab : decide (a = b)
    all_goals (
      (repeat' (first | (simp (maxSteps := 1000000) (disch := first | omega | (simp only [AM.DB, List.length_set, List.length_map]; first | done | omega)) only [AM.RB, Nat.reduceAdd, Nat.reduceMul, Nat.reduceEqDiff, reduceCtorEq, b7_PC12]) | refine AM.drawW_loose (id := 11) hp (by kernel_rfl) (by kernel_rfl) ?_ | refine AM.drawW_fine (id := 21) hp (by kernel_rfl) (by kernel_rfl) (by kernel_rfl) ?_ | refine AM.opW_tied (by kernel_rfl) ?_ | refine AM.opW_untied (by kernel_rfl) ?_))
      refine ⟨AM.looseOk_by [(18, [0, 18]), (19, [0, 18])] (by kernel_rfl) ?_, ?_⟩
      · simp (maxSteps := 1000000) (disch := first | omega | (simp only [AM.DB, List.length_set, List.length_map]; first | done | omega)) only [AM.RB, Nat.reduceAdd, Nat.reduceMul, Nat.reduceEqDiff, reduceCtorEq, b7_PC12]
        all_goals ((repeat' apply And.intro) <;> (first | (refine AM.stable_len _ _ _ _ _ _ (fun _ => ?_); (simp (maxSteps := 1000000) (disch := first | omega | (simp only [AM.DB, List.length_set, List.length_map]; first | done | omega)) only [AM.RB, Nat.reduceAdd, Nat.reduceMul, Nat.reduceEqDiff, reduceCtorEq, b7_PC12, g1a, g2a, g1c, g2c])) | (refine AM.stable_load _ _ _ _ _ _ ?_; (first | (simp (maxSteps := 1000000) (disch := first | omega | (simp only [AM.DB, List.length_set, List.length_map]; first | done | omega)) only [AM.RB, Nat.reduceAdd, Nat.reduceMul, Nat.reduceEqDiff, reduceCtorEq, b7_PC12, g1a, g2a, g1c, g2c]) | skip); (first | (refine AM.stabL_agg2 rx1 rx2 (by omega) (by omega) ?_; (simp (maxSteps := 1000000) (disch := first | omega | (simp only [AM.DB, List.length_set, List.length_map]; first | done | omega)) only [AM.RB, Nat.reduceAdd, Nat.reduceMul, Nat.reduceEqDiff, reduceCtorEq, b7_PC12, g1a, g2a, g1c, g2c])) | (refine AM.stabL_agg2 ry1 ry2 (by omega) (by omega) ?_; (simp (maxSteps := 1000000) (disch := first | omega | (simp only [AM.DB, List.length_set, List.length_map]; first | done | omega)) only [AM.RB, Nat.reduceAdd, Nat.reduceMul, Nat.reduceEqDiff, reduceCtorEq, b7_PC12, g1a, g2a, g1c, g2c])) | (refine AM.stabL_int (by omega) ?_; (simp (maxSteps := 1000000) (disch := first | omega | (simp only [AM.DB, List.length_set, List.length_map]; first | done | omega)) only [AM.RB, Nat.reduceAdd, Nat.reduceMul, Nat.reduceEqDiff, reduceCtorEq, b7_PC12, g1a, g2a, g1c, g2c])) | (refine AM.stabL_ptr (by omega) (by omega) ?_; (simp (maxSteps := 1000000) (disch := first | omega | (simp only [AM.DB, List.length_set, List.length_map]; first | done | omega)) only [AM.RB, Nat.reduceAdd, Nat.reduceMul, Nat.reduceEqDiff, reduceCtorEq, b7_PC12, g1a, g2a, g1c, g2c])) | (refine AM.stabL_string (by omega) ?_; (simp (maxSteps := 1000000) (disch := first | omega | (simp only [AM.DB, List.length_set, List.length_map]; first | done | omega)) only [AM.RB, Nat.reduceAdd, Nat.reduceMul, Nat.reduceEqDiff, reduceCtorEq, b7_PC12, g1a, g2a, g1c, g2c])) | (refine AM.stabL_bool (by omega) ?_; (simp (maxSteps := 1000000) (disch := first | omega | (simp only [AM.DB, List.length_set, List.length_map]; first | done | omega)) only [AM.RB, Nat.reduceAdd, Nat.reduceMul, Nat.reduceEqDiff, reduceCtorEq, b7_PC12, g1a, g2a, g1c, g2c]))))))
      have hx_7 := g1a.fr0 fra
      (repeat' (first | (simp (maxSteps := 1000000) (disch := first | omega | (simp only [AM.DB, List.length_set, List.length_map]; first | done | omega)) only [AM.RB, Nat.reduceAdd, Nat.reduceMul, Nat.reduceEqDiff, reduceCtorEq, b7_PC12, d251, d00, hx_7]) | refine AM.drawW_loose (id := 11) hp (by kernel_rfl) (by kernel_rfl) ?_ | refine AM.drawW_fine (id := 21) hp (by kernel_rfl) (by kernel_rfl) (by kernel_rfl) ?_ | refine AM.opW_tied (by kernel_rfl) ?_ | refine AM.opW_untied (by kernel_rfl) ?_))
      refine refSteps_w (r10.fr0 fra) G (sA.fr0 fra) (by omega) hc fun v13 h13 ⟨fr13, o13, hid13⟩ => ?_
      obtain ⟨ka, kc, rfl⟩ := o13.form
      have w10 := (o10.fr0 fra).fr0 fr13
      have r10' := w10.rd
      have r13 := o13.rd
      have dl : decide (((stepsL L a).length : Int) = (stepsL L a).length) = true := decide_eq_true rfl
      (repeat' (first | (simp (maxSteps := 1000000) (disch := first | omega | (simp only [AM.DB, List.length_set, List.length_map]; first | done | omega)) only [AM.RB, Nat.reduceAdd, Nat.reduceMul, Nat.reduceEqDiff, reduceCtorEq, b7_PC12, dl]) | refine AM.drawW_loose (id := 11) hp (by kernel_rfl) (by kernel_rfl) ?_ | refine AM.drawW_fine (id := 21) hp (by kernel_rfl) (by kernel_rfl) (by kernel_rfl) ?_ | refine AM.opW_tied (by kernel_rfl) ?_ | refine AM.opW_untied (by kernel_rfl) ?_))
      refine AM.loop_w hp 129 (fun i : Nat => [(15, .slice sa (stepsL L a).length sc), (16, .slice ka (stepsL L a).length kc), (115, .int .i64 (stepsL L a).length), (116, .int .i64 i)])
        (fun i h' => h' = h13 ∧ i ≤ (stepsL L a).length) (fun i => (stepsL L a).length - i) (by kernel_rfl) 0 ?_ ?_ ?_
      · simp (maxSteps := 1000000) (disch := first | omega | (simp only [AM.DB, List.length_set, List.length_map]; first | done | omega)) only [AM.RB, Nat.reduceAdd, Nat.reduceMul, Nat.reduceEqDiff, reduceCtorEq, b7_PC12]
        first | rfl | skip
      · exact ⟨rfl, Nat.zero_le _⟩
      rintro i h14 ρ ⟨rfl, hi⟩
      simp (maxSteps := 1000000) (disch := first | omega | (simp only [AM.DB, List.length_set, List.length_map]; first | done | omega)) only [AM.RB, Nat.reduceAdd, Nat.reduceMul, Nat.reduceEqDiff, reduceCtorEq, b7_PC12]
      refine AM.condV_split (fun hlt => ?_) (fun hlt => ?_)
      · have hil : i < (stepsL L a).length := by omega
        have ld1 := Rd.lds (f := encS) encS_len r10' lk_65 rfl (0, 0, 0) i hil
        have ld2 := Rd.lds (f := encS) encS_len r13 lk_65 rfl (0, 0, 0) i hil
        (repeat' (first | (simp (maxSteps := 1000000) (disch := first | omega | (simp only [AM.DB, List.length_set, List.length_map]; first | done | omega)) only [AM.RB, Nat.reduceAdd, Nat.reduceMul, Nat.reduceEqDiff, reduceCtorEq, b7_PC12, r10'.ia el_70, r13.ia el_70, ld1, ld2, Int.toNat_natCast, eqself, Bool.true_and, Bool.and_true, AM.wrap_i64]) | refine AM.drawW_loose (id := 11) hp (by kernel_rfl) (by kernel_rfl) ?_ | refine AM.drawW_fine (id := 21) hp (by kernel_rfl) (by kernel_rfl) (by kernel_rfl) ?_ | refine AM.opW_tied (by kernel_rfl) ?_ | refine AM.opW_untied (by kernel_rfl) ?_))
        exact ⟨i + 1, by omega, congrArg _ (by omega), by omega⟩
      · (repeat' (first | (simp (maxSteps := 1000000) (disch := first | omega | (simp only [AM.DB, List.length_set, List.length_map]; first | done | omega)) only [AM.RB, Nat.reduceAdd, Nat.reduceMul, Nat.reduceEqDiff, reduceCtorEq, b7_PC12]) | refine AM.drawW_loose (id := 11) hp (by kernel_rfl) (by kernel_rfl) ?_ | refine AM.drawW_fine (id := 21) hp (by kernel_rfl) (by kernel_rfl) (by kernel_rfl) ?_ | refine AM.opW_tied (by kernel_rfl) ?_ | refine AM.opW_untied (by kernel_rfl) ?_)))

end Go.Proofs.YtbaohngkapmhlaaDoor
