/- Walks of this claim's functions, and plain laws. -/
import Derived.Test.YtbaohngkapmhlaaDoorWe
set_option linter.unusedSimpArgs false
set_option linter.unusedVariables false
namespace Go.Proofs.YtbaohngkapmhlaaDoor
open Go.AM
set_option maxRecDepth 8000
theorem b11_PU4 : type_of% (And.intro (@Option.isNone_none.{0}) (And.intro (@Option.isNone_some.{0}) (And.intro (@AM.alK_some) (And.intro (@al_59) (And.intro (@al_65) (And.intro (@AM.andO_some) (And.intro (@AM.bin_add) (And.intro (AM.bin_agg_neq se_65) (And.intro (@AM.bin_eql) (And.intro (@AM.bin_gtr) (And.intro (@AM.bin_lss) (And.intro (@AM.bin_neq) (And.intro (AM.bin_pnil ul_26) (And.intro (@AM.bin_rem) (And.intro (@AM.cvW_int) (And.intro (AM.cv_int ul_87 ul_3) (And.intro (@AM.eqL_cons) (And.intro (@AM.eqL_nil) (And.intro (@AM.eqS_bool) (And.intro (@AM.eqS_int) (And.intro (@AM.eqS_string) (And.intro (@AM.ex_tuple) (And.intro (@AM.fa_ptr) (And.intro (@fd_59_0) (And.intro (@fd_59_1) (And.intro (@AM.iaO_ok) (And.intro (AM.ia_slice el_22) (And.intro (AM.ia_slice el_70) (And.intro (AM.ia_slice el_86) (And.intro (@AM.ldO_agg) (And.intro (@AM.ldO_one) (And.intro (@AM.ld_ptr) (And.intro (AM.len_slice ul_22) (And.intro (AM.len_slice ul_70) (And.intro (AM.len_slice ul_86) (And.intro (@lk_22) (And.intro (@lk_3) (And.intro (@lk_59) (And.intro (@lk_65) (And.intro (@lk_87) (And.intro (@AM.op_alloc) (And.intro (@AM.op_binOp) (And.intro (@AM.op_call) (And.intro (@AM.op_convert) (And.intro (@AM.op_extract) (And.intro (@AM.op_fieldAddr) (And.intro (@AM.op_indexAddr) (And.intro (@AM.op_len) (And.intro (@AM.op_load) (And.intro (@AM.op_lookup) (And.intro (@AM.op_makeMap0) (And.intro (@AM.op_mapUpdate) (And.intro (@AM.op_store) (And.intro (@AM.op_unOp) (And.intro (@AM.stO_agg) (And.intro (@AM.stO_bool) (And.intro (@AM.stO_int) (And.intro (@AM.stO_map) (And.intro (@AM.stO_pointer) (And.intro (@AM.stO_slice) (And.intro (@AM.stO_string) (And.intro (@AM.st_ptr) (And.intro (@sz_59) (And.intro (@sz_65) (And.intro (@AM.un_neg) (@AM.un_not)))))))))))))))))))))))))))))))))))))))))))))))))))))))))))))))))) := And.intro (@Option.isNone_none.{0}) (And.intro (@Option.isNone_some.{0}) (And.intro (@AM.alK_some) (And.intro (@al_59) (And.intro (@al_65) (And.intro (@AM.andO_some) (And.intro (@AM.bin_add) (And.intro (AM.bin_agg_neq se_65) (And.intro (@AM.bin_eql) (And.intro (@AM.bin_gtr) (And.intro (@AM.bin_lss) (And.intro (@AM.bin_neq) (And.intro (AM.bin_pnil ul_26) (And.intro (@AM.bin_rem) (And.intro (@AM.cvW_int) (And.intro (AM.cv_int ul_87 ul_3) (And.intro (@AM.eqL_cons) (And.intro (@AM.eqL_nil) (And.intro (@AM.eqS_bool) (And.intro (@AM.eqS_int) (And.intro (@AM.eqS_string) (And.intro (@AM.ex_tuple) (And.intro (@AM.fa_ptr) (And.intro (@fd_59_0) (And.intro (@fd_59_1) (And.intro (@AM.iaO_ok) (And.intro (AM.ia_slice el_22) (And.intro (AM.ia_slice el_70) (And.intro (AM.ia_slice el_86) (And.intro (@AM.ldO_agg) (And.intro (@AM.ldO_one) (And.intro (@AM.ld_ptr) (And.intro (AM.len_slice ul_22) (And.intro (AM.len_slice ul_70) (And.intro (AM.len_slice ul_86) (And.intro (@lk_22) (And.intro (@lk_3) (And.intro (@lk_59) (And.intro (@lk_65) (And.intro (@lk_87) (And.intro (@AM.op_alloc) (And.intro (@AM.op_binOp) (And.intro (@AM.op_call) (And.intro (@AM.op_convert) (And.intro (@AM.op_extract) (And.intro (@AM.op_fieldAddr) (And.intro (@AM.op_indexAddr) (And.intro (@AM.op_len) (And.intro (@AM.op_load) (And.intro (@AM.op_lookup) (And.intro (@AM.op_makeMap0) (And.intro (@AM.op_mapUpdate) (And.intro (@AM.op_store) (And.intro (@AM.op_unOp) (And.intro (@AM.stO_agg) (And.intro (@AM.stO_bool) (And.intro (@AM.stO_int) (And.intro (@AM.stO_map) (And.intro (@AM.stO_pointer) (And.intro (@AM.stO_slice) (And.intro (@AM.stO_string) (And.intro (@AM.st_ptr) (And.intro (@sz_59) (And.intro (@sz_65) (And.intro (@AM.un_neg) (@AM.un_not)))))))))))))))))))))))))))))))))))))))))))))))))))))))))))))))))


set_option maxHeartbeats 16000000 in
theorem safeLaw_w (l : List UInt8) {v lv : Value} {P U : List Int} {h : AHeap} (hP : Rd h 3 1 v P.length (P.map (.int .i64))) (hU : Rd h 87 1 lv U.length (U.map (.int .u16))) (hu : ∀ u ∈ U, 0 ≤ u ∧ u < 65536) (hw0 : h.get GW = some (.cells waysC 166 false)) (hl0 : h.low = h.next) : W 11 [strV l, v, lv] h fun v _ => v = .bool true := by
  have hgl : GW < h.low := by have := AM.get_some_lt hw0; omega
  obtain ⟨pa, pc, rfl⟩ := hP.form
  obtain ⟨ua, uc, rfl⟩ := hU.form
  have d250 : decide ((250 : Int) = 0) = false := rfl
  have d00 : decide ((0 : Int) = 0) = true := rfl
  refine AM.enter hp (fn := Tryd.f11) (rs := [.tmp 6]) (nt := 147) (by kernel_rfl) Tryd.func11 rfl rfl rfl (by kernel_rfl) ?_
  (repeat' (first | (simp (maxSteps := 1000000) (disch := first | omega | (simp only [AM.DB, List.length_set, List.length_map]; first | done | omega)) only [AM.RB, Nat.reduceAdd, Nat.reduceMul, Nat.reduceEqDiff, reduceCtorEq, b11_PU4]) | refine AM.drawW_fine hp (by kernel_rfl) (by kernel_rfl) (by kernel_rfl) ?_ | refine AM.opW_tied (by kernel_rfl) ?_ | refine AM.opW_untied (by kernel_rfl) ?_))
  refine palive_w hw0 hgl (by omega) fun h1 fr1 => ?_
  have nx1 := fr1.next
  have lw1 := fr1.low
  (repeat' (first | (simp (maxSteps := 1000000) (disch := first | omega | (simp only [AM.DB, List.length_set, List.length_map]; first | done | omega)) only [AM.RB, Nat.reduceAdd, Nat.reduceMul, Nat.reduceEqDiff, reduceCtorEq, b11_PU4]) | refine AM.drawW_fine hp (by kernel_rfl) (by kernel_rfl) (by kernel_rfl) ?_ | refine AM.opW_tied (by kernel_rfl) ?_ | refine AM.opW_untied (by kernel_rfl) ?_))
  refine both_w l 60 (by omega) (by omega) (fun h2 fr2 => ?_) (fun L p kv q rv h2 hv hcM m2 r2 fr2 hp2 hid2 hqp hlp => ?_)
  · (repeat' (first | (simp (maxSteps := 1000000) (disch := first | omega | (simp only [AM.DB, List.length_set, List.length_map]; first | done | omega)) only [AM.RB, Nat.reduceAdd, Nat.reduceMul, Nat.reduceEqDiff, reduceCtorEq, b11_PU4]) | refine AM.drawW_fine hp (by kernel_rfl) (by kernel_rfl) (by kernel_rfl) ?_ | refine AM.opW_tied (by kernel_rfl) ?_ | refine AM.opW_untied (by kernel_rfl) ?_))
  have G := verd_good hv
  have f := G.fit
  have hK := f.k1024
  by_cases c1 : (10 : Int) < P.length
  · (repeat' (first | (simp (maxSteps := 1000000) (disch := first | omega | (simp only [AM.DB, List.length_set, List.length_map]; first | done | omega)) only [AM.RB, Nat.reduceAdd, Nat.reduceMul, Nat.reduceEqDiff, reduceCtorEq, b11_PU4, decide_eq_true c1]) | refine AM.drawW_fine hp (by kernel_rfl) (by kernel_rfl) (by kernel_rfl) ?_ | refine AM.opW_tied (by kernel_rfl) ?_ | refine AM.opW_untied (by kernel_rfl) ?_))
  by_cases c2 : (40 : Int) < U.length
  · (repeat' (first | (simp (maxSteps := 1000000) (disch := first | omega | (simp only [AM.DB, List.length_set, List.length_map]; first | done | omega)) only [AM.RB, Nat.reduceAdd, Nat.reduceMul, Nat.reduceEqDiff, reduceCtorEq, b11_PU4, decide_eq_false c1, decide_eq_true c2]) | refine AM.drawW_fine hp (by kernel_rfl) (by kernel_rfl) (by kernel_rfl) ?_ | refine AM.opW_tied (by kernel_rfl) ?_ | refine AM.opW_untied (by kernel_rfl) ?_))
  have nx2 := fr2.next
  have lw2 := fr2.low
  have plt := AM.get_some_lt m2.1
  have fr02 := fr1.trans fr2
  have k2 : Mk h2 p L (fun id => id < h1.next) := Mk.start m2 hp2 hid2 (by omega) (fun id q => q)
  (repeat' (first | (simp (maxSteps := 1000000) (disch := first | omega | (simp only [AM.DB, List.length_set, List.length_map]; first | done | omega)) only [AM.RB, Nat.reduceAdd, Nat.reduceMul, Nat.reduceEqDiff, reduceCtorEq, b11_PU4, decide_eq_false c1, decide_eq_false c2]) | refine AM.drawW_fine hp (by kernel_rfl) (by kernel_rfl) (by kernel_rfl) ?_ | refine AM.opW_tied (by kernel_rfl) ?_ | refine AM.opW_untied (by kernel_rfl) ?_))
  refine start_w k2 f (hP.fr0 fr02) (by omega) (by omega) fun a1 m1 e1 a2 m2 e2 h3 k3 fr3 st3 z3 => ?_
  have nx3 := fr3.next
  have lw3 := fr3.low
  obtain ⟨s0, hs0⟩ : ∃ s, startS L.flatten P = s := ⟨_, rfl⟩
  rw [hs0] at st3 z3 ⊢
  cases hc : chk L.flatten s0
  · simp only [Bool.false_eq_true, if_false]
    (repeat' (first | (simp (maxSteps := 1000000) (disch := first | omega | (simp only [AM.DB, List.length_set, List.length_map]; first | done | omega)) only [AM.RB, Nat.reduceAdd, Nat.reduceMul, Nat.reduceEqDiff, reduceCtorEq, b11_PU4, d250]) | refine AM.drawW_fine hp (by kernel_rfl) (by kernel_rfl) (by kernel_rfl) ?_ | refine AM.opW_tied (by kernel_rfl) ?_ | refine AM.opW_untied (by kernel_rfl) ?_))
  have st3 := st3 hc
  simp only [if_true]
  (repeat' (first | (simp (maxSteps := 1000000) (disch := first | omega | (simp only [AM.DB, List.length_set, List.length_map]; first | done | omega)) only [AM.RB, Nat.reduceAdd, Nat.reduceMul, Nat.reduceEqDiff, reduceCtorEq, b11_PU4, d00]) | refine AM.drawW_fine hp (by kernel_rfl) (by kernel_rfl) (by kernel_rfl) ?_ | refine AM.opW_tied (by kernel_rfl) ?_ | refine AM.opW_untied (by kernel_rfl) ?_))
  generalize hE_ : AHeap.put (AHeap.alloc h3 _) _ _ = h4; obtain ⟨g4, fr4, n4, l4⟩ := AM.box_get hE_ (by omega); clear hE_
  have nx4 := fr4.next
  have lw4 := fr4.low
  have lt4 : h3.next < h4.next := AM.get_some_lt g4
  have fr24 := fr3.trans fr4
  obtain ⟨N, hN⟩ : ∃ N : Nat → Prop, (fun id => id = p ∨ id = h3.next) = N := ⟨_, rfl⟩
  have hNi : ∀ id, N id ↔ (id = p ∨ id = h3.next) := fun id => by rw [← hN]
  have rng : ∀ id, idOf (.slice a1 m1 e1) id ∨ idOf (.slice a2 m2 e2) id → h2.next ≤ id ∧ id < h3.next := fun id q => by
    obtain ⟨_, _, e, o1, o2, hid, _⟩ := st3
    cases e
    exact ⟨hid id q, q.elim (fun q => o1.lt q) (fun q => o2.lt q)⟩
  have sx4 : Sx h4 h3.next p L (fun id => id < h1.next ∨ id = h3.next) N s0 := by
    refine ⟨_, _, _, _, _, _, g4, (st3.fr0 fr4).rd, fun id q n => by have := rng id q; have := (hNi id).1 n; omega, ?_⟩
    refine (k3.fresh fr4).sub fun id q => ?_
    rcases q with (q | q) | q
    · exact .inl (.inl q)
    · exact .inr (by omega)
    · exact .inl (.inr q)
  have ulen : ∀ i, i < U.length → 0 ≤ U.getD i 0 ∧ U.getD i 0 < 65536 := fun i hi => hu _ (getD_mem U 0 hi)
  refine AM.loop_w hp 147 (fun i : Nat => [(2, .slice ua U.length uc), (7, .bool true), (8, pv p), (10, pv h3.next), (54, .int .i64 U.length), (55, .int .i64 i)])
    (fun i h' => i ≤ U.length ∧ Fr (fun id => id = p) h2 h' ∧ h4.next ≤ h'.next ∧ ∃ st, Chk L.flatten st ∧ Sx h' h3.next p L (fun id => id < h1.next ∨ id = h3.next) N st) (fun i => U.length - i) (by kernel_rfl) 0 ?_ ?_ ?_
  · simp (maxSteps := 1000000) (disch := first | omega | (simp only [AM.DB, List.length_set, List.length_map]; first | done | omega)) only [AM.RB, Nat.reduceAdd, Nat.reduceMul, Nat.reduceEqDiff, reduceCtorEq, b11_PU4]
    first | rfl | skip
  · exact ⟨Nat.zero_le _, fr24.mono fun _ _ q => q.elim, Nat.le_refl _, s0, (chk_iff _ _).1 hc, sx4⟩
  rintro i hA ρ ⟨hi, fA, nA, st, cst, x1, n1, c1', x2, n2, c2', gA, ss, ns, kA⟩
  have nxA := fA.next
  have lwA := fA.low
  have frA : Fr none' h hA := Fr.fresh fr02 fA (fun id e => by have e : id = p := e; omega)
  have hwA := hw0.fr0 frA
  have uA := hU.fr0 frA
  have hgp : ¬ GW = p := by omega
  have h3p : ¬ h3.next = p := by omega
  have hcs := (chk_iff _ _).2 cst
  have hsl := stepsL_chk cst f
  have hln := cst.ln
  have hl64 := cst.l64
  have nsp : ∀ {u w : Value}, (∀ id, idOf u id ∨ idOf w id → ¬ N id) → ∀ a b, Value.agg #[u, w] = .agg #[a, b] → (∀ id, idOf a id → ¬ id = p) ∧ ∀ id, idOf b id → ¬ id = p := fun hn a b e => by
    cases e
    exact ⟨fun id q ep => hn id (.inl q) ((hNi id).2 (.inl ep)), fun id q ep => hn id (.inr q) ((hNi id).2 (.inl ep))⟩
  have hvp : ∀ {u w : Value}, (∀ id, idOf u id ∨ idOf w id → ¬ N id) → ∀ a b, Value.agg #[u, w] = .agg #[a, b] → ∀ id, idOf a id ∨ idOf b id → id ≠ p := fun hn a b e id q => by
    cases e
    exact fun ep => hn id q ((hNi id).2 (.inl ep))
  simp (maxSteps := 1000000) (disch := first | omega | (simp only [AM.DB, List.length_set, List.length_map]; first | done | omega)) only [AM.RB, Nat.reduceAdd, Nat.reduceMul, Nat.reduceEqDiff, reduceCtorEq, b11_PU4]
  refine AM.condV_split (fun hlt => ?_) (fun hlt => ?_)
  · have hil : i < U.length := by omega
    (repeat' (first | (simp (maxSteps := 1000000) (disch := first | omega | (simp only [AM.DB, List.length_set, List.length_map]; first | done | omega)) only [AM.RB, Nat.reduceAdd, Nat.reduceMul, Nat.reduceEqDiff, reduceCtorEq, b11_PU4, gA]) | refine AM.drawW_fine hp (by kernel_rfl) (by kernel_rfl) (by kernel_rfl) ?_ | refine AM.opW_tied (by kernel_rfl) ?_ | refine AM.opW_untied (by kernel_rfl) ?_))
    refine steps_w kA f hwA (by omega) (by omega) ss (fun a b e id q => by cases e; exact .inr q) fun w hB oB kB frB hidB => ?_
    simp only [hcs, if_true] at oB
    obtain ⟨wa, wc, rfl⟩ := oB.form
    have nxB := frB.next
    have lwB := frB.low
    have gB := frB.get gA h3p
    have ssB := ss.frp (nsp ns) frB
    have hwB := frB.get hwA hgp
    have uB := uA.fr frB (fun id q1 q2 => by have := hU.lt q1; have q2 : id = p := q2; omega)
    by_cases hlen : ((stepsL L st).length : Int) = 0
    · (repeat' (first | (simp (maxSteps := 1000000) (disch := first | omega | (simp only [AM.DB, List.length_set, List.length_map]; first | done | omega)) only [AM.RB, Nat.reduceAdd, Nat.reduceMul, Nat.reduceEqDiff, reduceCtorEq, b11_PU4, decide_eq_true hlen]) | refine AM.drawW_fine hp (by kernel_rfl) (by kernel_rfl) (by kernel_rfl) ?_ | refine AM.opW_tied (by kernel_rfl) ?_ | refine AM.opW_untied (by kernel_rfl) ?_))
    obtain ⟨u, hui⟩ : ∃ u, U.getD i 0 = u := ⟨_, rfl⟩
    obtain ⟨u0, u1⟩ := ulen i hil
    rw [hui] at u0 u1
    obtain ⟨j, hj, hjl⟩ := rem_idx u0 u1 (show 0 < (stepsL L st).length by omega) (by omega)
    obtain ⟨x, hx⟩ : ∃ x, (stepsL L st).getD j (0, 0, 0) = x := ⟨_, rfl⟩
    have hmem : x ∈ stepsL L st := by rw [← hx]; exact getD_mem _ _ hjl
    have mx := (stepsL_mem hmem).2
    have hm := (may_iff _ _ _).2 mx
    have rB := oB.rd
    have ld := Rd.lds (f := encS) encS_len rB lk_65 rfl (0, 0, 0) j hjl
    rw [hx] at ld
    (repeat' (first | (simp (maxSteps := 1000000) (disch := first | omega | (simp only [AM.DB, List.length_set, List.length_map]; first | done | omega)) only [AM.RB, Nat.reduceAdd, Nat.reduceMul, Nat.reduceEqDiff, reduceCtorEq, b11_PU4, decide_eq_false hlen, gB, uB.ia el_86, Rd.ldi uB lk_87, Int.toNat_natCast, hui, AM.wrap_i64, hj, rB.ia el_70, ld]) | refine AM.drawW_fine hp (by kernel_rfl) (by kernel_rfl) (by kernel_rfl) ?_ | refine AM.opW_tied (by kernel_rfl) ?_ | refine AM.opW_untied (by kernel_rfl) ?_))
    generalize hE_ : AHeap.put (AHeap.alloc hB _) _ _ = hC; obtain ⟨gC, frC, nC, lC⟩ := AM.box_get hE_ (by omega); clear hE_
    have nxC := frC.next
    have lwC := frC.low
    have plB := kB.lt
    have ltC : hB.next < hC.next := AM.get_some_lt gC
    refine pDo_w (x := x) (kB.fr0 frC) f (hwB.fr0 frC) (by omega) (by omega) (ssB.fr0 frC) (hvp ns) (by omega) (by omega) fun q1 q2 q3 q4 q5 q6 hD kD frD stD => ?_
    rw [hcs, hm] at stD ⊢
    have stD := stD rfl
    simp only [Bool.and_self, if_true]
    obtain ⟨_, _, e, oD1, oD2, _, _⟩ := id stD
    cases e
    obtain ⟨_, _, e⟩ := oD1.form
    cases e
    obtain ⟨_, _, e⟩ := oD2.form
    cases e
    have nxD := frD.next
    have lwD := frD.low
    have tId : ∀ id, idOf (.slice q1 (turnS st x).1.length q3) id ∨ idOf (.slice q4 (turnS st x).2.length q6) id → hC.next ≤ id ∧ id < hD.next := fun id q => by
      obtain ⟨_, _, e, o1, o2, hid, _⟩ := stD
      cases e
      exact ⟨hid id q, q.elim (fun q => o1.lt q) (fun q => o2.lt q)⟩
    have g14D := frD.get gC (show ¬ hB.next = p by omega)
    have gsD := frD.get (gB.fr0 frC) h3p
    have ssD := (ssB.fr0 frC).frp (nsp ns) frD
    have hwD := frD.get (hwB.fr0 frC) hgp
    have cst2 := cst.turn mx
    have hct := (chk_iff _ _).2 cst2
    have tln := turnS_len st x
    have tN : ∀ id, idOf (.slice q1 (turnS st x).1.length q3) id ∨ idOf (.slice q4 (turnS st x).2.length q6) id → ¬ N id := fun id q n => by have := tId id q; have := (hNi id).1 n; omega
    have ebt := betw_turn cst mx
    (repeat' (first | (simp (maxSteps := 1000000) (disch := first | omega | (simp only [AM.DB, List.length_set, List.length_map]; first | done | omega)) only [AM.RB, Nat.reduceAdd, Nat.reduceMul, Nat.reduceEqDiff, reduceCtorEq, b11_PU4, gsD]) | refine AM.drawW_fine hp (by kernel_rfl) (by kernel_rfl) (by kernel_rfl) ?_ | refine AM.opW_tied (by kernel_rfl) ?_ | refine AM.opW_untied (by kernel_rfl) ?_))
    generalize hE_ : AHeap.put (AHeap.alloc hD _) _ _ = hE; obtain ⟨gE, frE, nE, lE⟩ := AM.box_get hE_ (by omega); clear hE_
    have nxE := frE.next
    have lwE := frE.low
    have ltE : hD.next < hE.next := AM.get_some_lt gE
    refine between_w (kD.fr0 frE) f (hwD.fr0 frE) (by omega) (by omega) (ssD.fr0 frE) (stD.fr0 frE).rd (by omega) (by omega) fun hF kF frF => ?_
    rw [ebt]
    have nxF := frF.next
    have lwF := frF.low
    have g14F := frF.get (g14D.fr0 frE) (show ¬ hB.next = p by omega)
    have gtF := frF.get gE (show ¬ hD.next = p by omega)
    have gsF := frF.get (gsD.fr0 frE) h3p
    have stF := (stD.fr0 frE).rd.frp (nsp tN) frF
    (repeat' (first | (simp (maxSteps := 1000000) (disch := first | omega | (simp only [AM.DB, List.length_set, List.length_map]; first | done | omega)) only [AM.RB, Nat.reduceAdd, Nat.reduceMul, Nat.reduceEqDiff, reduceCtorEq, b11_PU4, d00, g14F, gtF, eqself, Bool.true_and, Bool.and_true]) | refine AM.drawW_fine hp (by kernel_rfl) (by kernel_rfl) (by kernel_rfl) ?_ | refine AM.opW_tied (by kernel_rfl) ?_ | refine AM.opW_untied (by kernel_rfl) ?_))
    generalize hE_ : AHeap.put (AHeap.alloc hF _) _ _ = hG; obtain ⟨gG, frG, nG, lG⟩ := AM.box_get hE_ (by omega); clear hE_
    have nxG := frG.next
    have lwG := frG.low
    have ltG : hF.next < hG.next := AM.get_some_lt gG
    obtain ⟨_, _, mmG⟩ := (kF.fr0 frG).mp
    refine check_w mmG f (stF.fr0 frG) (by omega) fun hH frH => ?_
    rw [hct]
    simp only [if_true]
    have nxH := frH.next
    have lwH := frH.low
    have frFH := frG.trans frH
    have gtH := gtF.fr0 frFH
    (repeat' (first | (simp (maxSteps := 1000000) (disch := first | omega | (simp only [AM.DB, List.length_set, List.length_map]; first | done | omega)) only [AM.RB, Nat.reduceAdd, Nat.reduceMul, Nat.reduceEqDiff, reduceCtorEq, b11_PU4, d00, gtH]) | refine AM.drawW_fine hp (by kernel_rfl) (by kernel_rfl) (by kernel_rfl) ?_ | refine AM.opW_tied (by kernel_rfl) ?_ | refine AM.opW_untied (by kernel_rfl) ?_))
    generalize hE_ : AHeap.alloc hH _ = hI; obtain ⟨gI, frI, nI, lI⟩ := AM.new_get hE_; clear hE_
    have nxI := frI.next
    have lwI := frI.low
    have frFI := frFH.trans frI
    have gtI := gtF.fr0 frFI
    have stI := stF.fr0 frFI
    have kI := kF.fresh frFI
    have lt1 : ∀ id, idOf (.slice q1 (turnS st x).1.length q3) id ∨ idOf (.slice q4 (turnS st x).2.length q6) id → id < hH.next := fun id q => by have := tId id q; omega
    (repeat' (first | (simp (maxSteps := 1000000) (disch := first | omega | (simp only [AM.DB, List.length_set, List.length_map]; first | done | omega)) only [AM.RB, Nat.reduceAdd, Nat.reduceMul, Nat.reduceEqDiff, reduceCtorEq, b11_PU4, gtI]) | refine AM.drawW_fine hp (by kernel_rfl) (by kernel_rfl) (by kernel_rfl) ?_ | refine AM.opW_tied (by kernel_rfl) ?_ | refine AM.opW_untied (by kernel_rfl) ?_))
    refine AM.loop_w hp 147 (fun r : Nat => [(2, .slice ua U.length uc), (7, .bool true), (8, pv p), (10, pv h3.next), (15, pv hD.next), (19, .map (some hH.next)), (54, .int .i64 U.length), (55, .int .i64 i), (110, .int .i64 (turnS st x).1.length), (111, .int .i64 r)])
      (fun r h' => r ≤ (turnS st x).1.length ∧ Fr (fun id => id = hH.next) hI h' ∧ ∃ ml, h'.get hH.next = some (.map (encM ml)) ∧ ∀ z, mgetL ml z ≠ none → ∃ t, t < r ∧ (turnS st x).1.getD t 0 = z) (fun r => (turnS st x).1.length - r) (by kernel_rfl) 0 ?_ ?_ ?_
    · simp (maxSteps := 1000000) (disch := first | omega | (simp only [AM.DB, List.length_set, List.length_map]; first | done | omega)) only [AM.RB, Nat.reduceAdd, Nat.reduceMul, Nat.reduceEqDiff, reduceCtorEq, b11_PU4]
      first | rfl | skip
    · exact ⟨Nat.zero_le _, Fr.refl _ _, [], gI, fun z q => absurd rfl q⟩
    rintro r hJ ρ ⟨hr, frJ, ml, gM, hml⟩
    have nxJ := frJ.next
    have lwJ := frJ.low
    have gtJ := frJ.get gtI (show ¬ hD.next = hH.next by omega)
    have stJ := stI.frp (fun a b e => by
      cases e
      exact ⟨fun id q e => by have e : id = hH.next := e; have := lt1 id (.inl q); omega, fun id q e => by have e : id = hH.next := e; have := lt1 id (.inr q); omega⟩) frJ
    obtain ⟨_, _, e, rJ1, rJ2⟩ := id stJ
    cases e
    simp (maxSteps := 1000000) (disch := first | omega | (simp only [AM.DB, List.length_set, List.length_map]; first | done | omega)) only [AM.RB, Nat.reduceAdd, Nat.reduceMul, Nat.reduceEqDiff, reduceCtorEq, b11_PU4]
    refine AM.condV_split (fun hltr => ?_) (fun hltr => ?_)
    · have hrl : r < (turnS st x).1.length := by omega
      obtain ⟨c, ec, hcl, hfc, hhc⟩ := cst2.cell hrl
      have hno : mgetL ml (c : Int) = none := by
        cases e : mgetL ml (c : Int) with
        | none => rfl
        | some w =>
          obtain ⟨t, ht, et⟩ := hml c (by rw [e]; simp)
          have := cst2.apart (r := t) (t := r) (by omega) hrl (by rw [et, ec])
          omega
      have g0 : (mgetL ml (c : Int)).getD (.int .i64 0) = .int .i64 0 := by rw [hno]; rfl
      (repeat' (first | (simp (maxSteps := 1000000) (disch := first | omega | (simp only [AM.DB, List.length_set, List.length_map]; first | done | omega)) only [AM.RB, Nat.reduceAdd, Nat.reduceMul, Nat.reduceEqDiff, reduceCtorEq, b11_PU4, gtJ, rJ1.ia el_22, Rd.ldi rJ1 lk_3, Int.toNat_natCast, ec, AM.lookup_enc mp_40 gM, g0, Int.zero_add, AM.wrap_i64, AM.update_enc mp_40 gM (by omega)]) | refine AM.drawW_fine hp (by kernel_rfl) (by kernel_rfl) (by kernel_rfl) ?_ | refine AM.opW_tied (by kernel_rfl) ?_ | refine AM.opW_untied (by kernel_rfl) ?_))
      generalize hE_ : AHeap.put hJ _ _ = hK; obtain ⟨gK, frK, nK, lK⟩ := AM.put_get hE_ (by omega); clear hE_
      have gtK := frK.get gtJ (show ¬ hD.next = hH.next by omega)
      have rK1 := rJ1.fr frK (fun id q e => by have e : id = hH.next := e; have := lt1 id (.inl q); omega)
      have rK2 := rJ2.fr frK (fun id q e => by have e : id = hH.next := e; have := lt1 id (.inr q); omega)
      have g1 : (mgetL (msetL ml (c : Int) (.int .i64 1)) (c : Int)).getD (.int .i64 0) = .int .i64 1 := by rw [AM.mget_set, if_pos rfl]; rfl
      have d11 : decide ((1 : Int) < 1) = false := rfl
      have hln2 := cst2.ln
      (repeat' (first | (simp (maxSteps := 1000000) (disch := first | omega | (simp only [AM.DB, List.length_set, List.length_map]; first | done | omega)) only [AM.RB, Nat.reduceAdd, Nat.reduceMul, Nat.reduceEqDiff, reduceCtorEq, b11_PU4, gtK, rK1.ia el_22, Rd.ldi rK1 lk_3, rK2.ia el_22, Rd.ldi rK2 lk_3, Int.toNat_natCast, ec, hhc, AM.lookup_enc mp_40 gK, g1, d11, eqself, AM.wrap_i64]) | refine AM.drawW_fine hp (by kernel_rfl) (by kernel_rfl) (by kernel_rfl) ?_ | refine AM.opW_tied (by kernel_rfl) ?_ | refine AM.opW_untied (by kernel_rfl) ?_))
      refine ⟨r + 1, by omega, congrArg _ (by omega), by omega, frJ.trans frK, _, gK, fun z q => ?_⟩
      rw [AM.mget_set] at q
      by_cases ez : z = (c : Int)
      · exact ⟨r, by omega, by rw [ez, ec]⟩
      · rw [if_neg ez] at q
        obtain ⟨t, ht, et⟩ := hml z q
        exact ⟨t, by omega, et⟩
    · have er : r = (turnS st x).1.length := by omega
      have gsJ := frJ.get (gsF.fr0 frFI) (show ¬ h3.next = hH.next by omega)
      have kJ := kI.frB frJ (fun id e => .inr (by have e : id = hH.next := e; omega))
      (repeat' (first | (simp (maxSteps := 1000000) (disch := first | omega | (simp only [AM.DB, List.length_set, List.length_map]; first | done | omega)) only [AM.RB, Nat.reduceAdd, Nat.reduceMul, Nat.reduceEqDiff, reduceCtorEq, b11_PU4, gtJ, gsJ, AM.wrap_i64]) | refine AM.drawW_fine hp (by kernel_rfl) (by kernel_rfl) (by kernel_rfl) ?_ | refine AM.opW_tied (by kernel_rfl) ?_ | refine AM.opW_untied (by kernel_rfl) ?_))
      generalize hE_ : AHeap.put hJ _ _ = hK; obtain ⟨gK, frK, nK, lK⟩ := AM.put_get hE_ (by omega); clear hE_
      have stK := stJ.frp (fun a b e => by
        cases e
        exact ⟨fun id q e => tN id (.inl q) ((hNi id).2 (.inr e)), fun id q e => tN id (.inr q) ((hNi id).2 (.inr e))⟩) frK
      refine ⟨i + 1, by omega, congrArg _ (by omega), by omega, ?_, by omega, turnS st x, cst2, _, _, _, _, _, _, gK, stK, tN, ?_⟩
      · exact (((((((fA.trans frB).trans (frC.mono fun _ _ q => q.elim)).trans frD).trans (frE.mono fun _ _ q => q.elim)).trans frF).trans (frFI.mono fun _ _ q => q.elim)).then frJ (fun id q e => by have e : id = hH.next := e; omega)).then frK (fun id q e => by have e : id = h3.next := e; omega)
      · refine (kJ.frB frK (fun id e => .inl (.inl (.inl (.inr e))))).sub fun id q => ?_
        rcases q with q | q
        · exact .inl (.inl (.inl q))
        · exact .inl (.inr q)
  · (repeat' (first | (simp (maxSteps := 1000000) (disch := first | omega | (simp only [AM.DB, List.length_set, List.length_map]; first | done | omega)) only [AM.RB, Nat.reduceAdd, Nat.reduceMul, Nat.reduceEqDiff, reduceCtorEq, b11_PU4]) | refine AM.drawW_fine hp (by kernel_rfl) (by kernel_rfl) (by kernel_rfl) ?_ | refine AM.opW_tied (by kernel_rfl) ?_ | refine AM.opW_untied (by kernel_rfl) ?_))

end Go.Proofs.YtbaohngkapmhlaaDoor
