/- Walks of this claim's functions, and plain laws. -/
import Derived.Test.YtbaohngkapmhlaaDoorWd
set_option linter.unusedSimpArgs false
set_option linter.unusedVariables false
namespace Go.Proofs.YtbaohngkapmhlaaDoor
open Go.AM
set_option maxRecDepth 8000
theorem b3_FW7 : type_of% (And.intro (@Option.isNone_none.{0}) (And.intro (@Option.isNone_some.{0}) (And.intro (@AM.bin_add) (And.intro (AM.bin_beq ul_4) (And.intro (@AM.bin_eql) (And.intro (@AM.bin_lss) (And.intro (@AM.bin_neq) (And.intro (AM.bin_pnil ul_25) (And.intro (@AM.bin_rem) (And.intro (@AM.boxK_agg) (And.intro (@AM.boxK_bool) (And.intro (@AM.boxK_func) (And.intro (@AM.boxK_int) (And.intro (@AM.boxK_map) (And.intro (@AM.boxK_pointer) (And.intro (@AM.boxK_slice) (And.intro (@AM.boxK_string) (And.intro (@AM.cvW_int) (And.intro (AM.cv_int ul_5 ul_3) (And.intro (@AM.ex_tuple) (And.intro (@AM.iaA_ok) (And.intro (@AM.iaO_ok) (And.intro (AM.ia_array ar_23) (And.intro (AM.ia_slice el_22) (And.intro (@AM.ldO_agg) (And.intro (@AM.ldO_one) (And.intro (@AM.ld_ptr) (And.intro (AM.len_slice ul_22) (And.intro (@lk_3) (And.intro (@lk_5) (And.intro (@AM.op_binOp) (And.intro (@AM.op_box) (And.intro (@AM.op_call) (And.intro (@AM.op_convert) (And.intro (@AM.op_extract) (And.intro (@AM.op_indexAddr) (And.intro (@AM.op_len) (And.intro (@AM.op_load) (And.intro (@AM.op_unOp) (And.intro (@AM.un_neg) (@AM.un_not))))))))))))))))))))))))))))))))))))))))) := And.intro (@Option.isNone_none.{0}) (And.intro (@Option.isNone_some.{0}) (And.intro (@AM.bin_add) (And.intro (AM.bin_beq ul_4) (And.intro (@AM.bin_eql) (And.intro (@AM.bin_lss) (And.intro (@AM.bin_neq) (And.intro (AM.bin_pnil ul_25) (And.intro (@AM.bin_rem) (And.intro (@AM.boxK_agg) (And.intro (@AM.boxK_bool) (And.intro (@AM.boxK_func) (And.intro (@AM.boxK_int) (And.intro (@AM.boxK_map) (And.intro (@AM.boxK_pointer) (And.intro (@AM.boxK_slice) (And.intro (@AM.boxK_string) (And.intro (@AM.cvW_int) (And.intro (AM.cv_int ul_5 ul_3) (And.intro (@AM.ex_tuple) (And.intro (@AM.iaA_ok) (And.intro (@AM.iaO_ok) (And.intro (AM.ia_array ar_23) (And.intro (AM.ia_slice el_22) (And.intro (@AM.ldO_agg) (And.intro (@AM.ldO_one) (And.intro (@AM.ld_ptr) (And.intro (AM.len_slice ul_22) (And.intro (@lk_3) (And.intro (@lk_5) (And.intro (@AM.op_binOp) (And.intro (@AM.op_box) (And.intro (@AM.op_call) (And.intro (@AM.op_convert) (And.intro (@AM.op_extract) (And.intro (@AM.op_indexAddr) (And.intro (@AM.op_len) (And.intro (@AM.op_load) (And.intro (@AM.op_unOp) (And.intro (@AM.un_neg) (@AM.un_not))))))))))))))))))))))))))))))))))))))))


theorem rem8_idx {u : Int} {n : Nat} (h0 : 0 ≤ u) (h1 : u < 65536) (hn : 0 < n) : ∃ j : Nat, Int.tmod u n = j ∧ j < n := by
  obtain ⟨a, rfl⟩ := Int.eq_ofNat_of_zero_le h0
  refine ⟨a % n, ?_, Nat.mod_lt _ hn⟩
  rw [Int.tmod_eq_emod_of_nonneg (by omega)]; rfl
theorem getD_memI (l : List Int) {i : Nat} (h : i < l.length) : l.getD i 0 ∈ l := by
  rw [List.getD, List.getElem?_eq_getElem h]; exact List.getElem_mem h
theorem manyF_le (L : List (List UInt8)) (P : List Int) (r : Int) : ∀ n, manyF L P r n ≤ n
  | 0 => Nat.le_refl _
  | n + 1 => by
    have := manyF_le L P r n
    unfold manyF
    split <;> omega
theorem fedge_w {h : AHeap} {q p : Nat} {L : List (List UInt8)} {P : List Int} {mv : Nat} {B : Nat → Prop} (x : Fl h q p L P mv B) (f : Fit L) (hw : h.get GW = some (.cells waysC 166 false)) (hgl : GW < h.low) (hl : h.low ≤ h.next) (a b : Int) {Q : VQ}
    (hq : ∀ h', Fl h' q p L P mv B → Fr (fun id => id = p) h h' → Q (.bool (edgeL L a b)) h') : W 19 [pv p, .int .i64 a, .int .i64 b] h Q := by
  obtain ⟨aa, ac, g, o, hne, hlo, hB, m⟩ := x
  refine edgeK_w m f hw hgl hl _ _ fun h1 m1 fr1 => ?_
  have qp : q ≠ p := fun e => m.no (.inr (.inl e.symm))
  exact hq _ ⟨aa, ac, fr1.get g qp, o.fr fr1 (fun id t e => by have e : id = p := e; subst e; exact m.no (.inr (.inr t))), hne, by rw [fr1.low]; exact hlo, hB, m1⟩ fr1
set_option maxHeartbeats 8000000 in
theorem openLaw_w (l : List UInt8) {v : Value} {P : List Int} {u0 u1 : Int} {h : AHeap} (hP : Rd h 3 1 v P.length (P.map (.int .i64))) (hu0 : 0 ≤ u0 ∧ u0 < 256) (hu1 : 0 ≤ u1 ∧ u1 < 256) (hw0 : h.get GW = some (.cells waysC 166 false)) (hl0 : h.low = h.next) : W 3 [strV l, v, .agg #[.int .u8 u0, .int .u8 u1]] h fun v _ => v = .bool true := by
  have hgl : GW < h.low := by have := AM.get_some_lt hw0; omega
  obtain ⟨pa, pc, rfl⟩ := hP.form
  have d220 : decide ((220 : Int) = 0) = false := rfl
  have d00 : decide ((0 : Int) = 0) = true := rfl
  have t0 : (0 : Int).toNat = 0 := rfl
  have t1 : (1 : Int).toNat = 1 := rfl
  refine AM.enter hp (fn := Tryd.f3) (rs := [.tmp 6]) (nt := 106) (by kernel_rfl) Tryd.func3 rfl rfl rfl (by kernel_rfl) ?_
  simp (maxSteps := 1000000) (disch := first | omega | (simp only [AM.DB, List.length_set, List.length_map]; first | done | omega)) only [AM.RB, Nat.reduceAdd, Nat.reduceMul, Nat.reduceEqDiff, reduceCtorEq, b3_FW7]
  generalize hE_ : AHeap.alloc h _ = h1; obtain ⟨g1, fr1, n1, l1⟩ := AM.new_get hE_; clear hE_
  have nx1 := fr1.next
  have lw1 := fr1.low
  (repeat' (first | (simp (maxSteps := 1000000) (disch := first | omega | (simp only [AM.DB, List.length_set, List.length_map]; first | done | omega)) only [AM.RB, Nat.reduceAdd, Nat.reduceMul, Nat.reduceEqDiff, reduceCtorEq, b3_FW7]) | refine AM.drawW_loose (id := 17) hp (by kernel_rfl) (by kernel_rfl) ?_ | refine AM.opW_tied (by kernel_rfl) ?_ | refine AM.opW_untied (by kernel_rfl) ?_))
  refine falive_w (hw0.fr0 fr1) (by omega) (by omega) fun h2 fr2 => ?_
  have nx2 := fr2.next
  have lw2 := fr2.low
  have fr02 := fr1.trans fr2
  (repeat' (first | (simp (maxSteps := 1000000) (disch := first | omega | (simp only [AM.DB, List.length_set, List.length_map]; first | done | omega)) only [AM.RB, Nat.reduceAdd, Nat.reduceMul, Nat.reduceEqDiff, reduceCtorEq, b3_FW7]) | refine AM.drawW_loose (id := 17) hp (by kernel_rfl) (by kernel_rfl) ?_ | refine AM.opW_tied (by kernel_rfl) ?_ | refine AM.opW_untied (by kernel_rfl) ?_))
  refine built_w l (B := fun id => id < h2.next) (hP.fr0 fr02) (by omega) (fun id q => q) (fun h3 fr3 => ?_) (fun L q p h3 hv hcM n1' n64 ok x3 fr3 hq3 hp3 => ?_)
  · (repeat' (first | (simp (maxSteps := 1000000) (disch := first | omega | (simp only [AM.DB, List.length_set, List.length_map]; first | done | omega)) only [AM.RB, Nat.reduceAdd, Nat.reduceMul, Nat.reduceEqDiff, reduceCtorEq, b3_FW7]) | refine AM.drawW_loose (id := 17) hp (by kernel_rfl) (by kernel_rfl) ?_ | refine AM.opW_tied (by kernel_rfl) ?_ | refine AM.opW_untied (by kernel_rfl) ?_))
  have G := verd_good hv
  have f := G.fit
  have hbd : L.length ≤ 4000000 ∧ (L.getD 0 []).length ≤ 4000000 := by have := f.r32; have := f.c32; omega
  have flen := f.len
  have nx3 := fr3.next
  have lw3 := fr3.low
  have g13 := (g1.fr0 fr2).fr0 fr3
  have fr03 := fr02.trans fr3
  have hw3 := hw0.fr0 fr03
  obtain ⟨r, hr, hrl⟩ := rem8_idx hu0.1 (show u0 < 65536 by omega) (show 0 < P.length by omega)
  have plt3 : p < h3.next := by obtain ⟨_, _, _, _, _, _, _, m⟩ := id x3; exact m.lt
  have B2 : ∀ {h1 h2' : AHeap}, Fr (fun id => ¬ id < h2.next) h1 h2' → ∀ id, id < h2.next → ¬ (¬ id < h2.next) := fun _ id a b => b a
  have hP3 := hP.fr0 fr03
  (repeat' (first | (simp (maxSteps := 1000000) (disch := first | omega | (simp only [AM.DB, List.length_set, List.length_map]; first | done | omega)) only [AM.RB, Nat.reduceAdd, Nat.reduceMul, Nat.reduceEqDiff, reduceCtorEq, b3_FW7, g13, t0, AM.wrap_i64, hr]) | refine AM.drawW_loose (id := 17) hp (by kernel_rfl) (by kernel_rfl) ?_ | refine AM.opW_tied (by kernel_rfl) ?_ | refine AM.opW_untied (by kernel_rfl) ?_))
  refine open_w x3 f hw3 (by omega) (by omega) ok (by omega) r fun v h4 o4 x4 fr4 hid4 => ?_
  obtain ⟨va, vc, rfl⟩ := o4.form
  have nx4 := fr4.next
  have lw4 := fr4.low
  have g14 := fr4.get g13 (fun t => t (by omega))
  have hw4 := fr4.get hw3 (fun t => t (by omega))
  have pP4 := hP3.fr fr4 (fun id a t => t (by have := hP.lt a; omega))
  have hol := manyF_open f P r
  have hKl : L.flatten.length ≤ 200 := hcM
  have hml := manyF_le L P r L.flatten.length
  rw [hol] at hml
  (repeat' (first | (simp (maxSteps := 1000000) (disch := first | omega | (simp only [AM.DB, List.length_set, List.length_map]; first | done | omega)) only [AM.RB, Nat.reduceAdd, Nat.reduceMul, Nat.reduceEqDiff, reduceCtorEq, b3_FW7]) | refine AM.drawW_loose (id := 17) hp (by kernel_rfl) (by kernel_rfl) ?_ | refine AM.opW_tied (by kernel_rfl) ?_ | refine AM.opW_untied (by kernel_rfl) ?_))
  refine AM.loop_w hp 106 (fun c : Nat => [(1, .slice pa P.length pc), (5, pv h.next), (7, .bool true), (8, pv q), (9, pv p), (10, .int .i64 r), (11, .slice va (openF L P r).length vc), (12, .int .i64 (manyF L P r c)), (13, .int .i64 c)])
    (fun c h' => c ≤ L.flatten.length ∧ Fl h' q p L P 0 (fun id => id < h2.next) ∧ Fr (fun id => id = p) h4 h') (fun c => L.flatten.length - c) (by kernel_rfl) 0 ?_ ?_ ?_
  · simp (maxSteps := 1000000) (disch := first | omega | (simp only [AM.DB, List.length_set, List.length_map]; first | done | omega)) only [AM.RB, Nat.reduceAdd, Nat.reduceMul, Nat.reduceEqDiff, reduceCtorEq, b3_FW7]
    first | rfl | skip
  · exact ⟨Nat.zero_le _, x4, Fr.refl _ _⟩
  rintro c h5 ρ ⟨hc, x5, fr5⟩
  have nx5 := fr5.next
  have lw5 := fr5.low
  have g15 := fr5.get g14 (show ¬ h.next = p by omega)
  have hw5 := fr5.get hw4 (show ¬ GW = p by omega)
  have pP5 := pP4.fr fr5 (fun id a e => by have := hP.lt a; have e : id = p := e; omega)
  have o5 := o4.fr fr5 (fun id a e => by have := hid4 id a; have e : id = p := e; omega)
  obtain ⟨_, _, _, _, _, _, _, m5⟩ := id x5
  obtain ⟨kv5, tl5, mm5⟩ := m5.mp
  (repeat' (first | (simp (maxSteps := 1000000) (disch := first | omega | (simp only [AM.DB, List.length_set, List.length_map]; first | done | omega)) only [AM.RB, Nat.reduceAdd, Nat.reduceMul, Nat.reduceEqDiff, reduceCtorEq, b3_FW7]) | refine AM.drawW_loose (id := 17) hp (by kernel_rfl) (by kernel_rfl) ?_ | refine AM.opW_tied (by kernel_rfl) ?_ | refine AM.opW_untied (by kernel_rfl) ?_))
  refine cells_w mm5 f.rows hbd _ ?_
  (repeat' (first | (simp (maxSteps := 1000000) (disch := first | omega | (simp only [AM.DB, List.length_set, List.length_map]; first | done | omega)) only [AM.RB, Nat.reduceAdd, Nat.reduceMul, Nat.reduceEqDiff, reduceCtorEq, b3_FW7]) | refine AM.drawW_loose (id := 17) hp (by kernel_rfl) (by kernel_rfl) ?_ | refine AM.opW_tied (by kernel_rfl) ?_ | refine AM.opW_untied (by kernel_rfl) ?_))
  refine AM.condV_split (fun hlt => ?_) (fun hlt => ?_)
  · have hcl : c < L.flatten.length := by omega
    have hmc := manyF_le L P r c
    (repeat' (first | (simp (maxSteps := 1000000) (disch := first | omega | (simp only [AM.DB, List.length_set, List.length_map]; first | done | omega)) only [AM.RB, Nat.reduceAdd, Nat.reduceMul, Nat.reduceEqDiff, reduceCtorEq, b3_FW7]) | refine AM.drawW_loose (id := 17) hp (by kernel_rfl) (by kernel_rfl) ?_ | refine AM.opW_tied (by kernel_rfl) ?_ | refine AM.opW_untied (by kernel_rfl) ?_))
    refine fcheck_w x5 f ok hw5 (by omega) (by omega) (by omega) r c fun h6 x6 fr6 => ?_
    have hms : manyF L P r (c + 1) = manyF L P r c + if chkF L P r c = 0 then 1 else 0 := rfl
    rcases chkF_or L P r c with ⟨e, _⟩ | ⟨e, _⟩
    · rw [e, if_pos rfl] at hms
      rw [e]
      (repeat' (first | (simp (maxSteps := 1000000) (disch := first | omega | (simp only [AM.DB, List.length_set, List.length_map]; first | done | omega)) only [AM.RB, Nat.reduceAdd, Nat.reduceMul, Nat.reduceEqDiff, reduceCtorEq, b3_FW7, d00, AM.wrap_i64]) | refine AM.drawW_loose (id := 17) hp (by kernel_rfl) (by kernel_rfl) ?_ | refine AM.opW_tied (by kernel_rfl) ?_ | refine AM.opW_untied (by kernel_rfl) ?_))
      exact ⟨c + 1, by omega, ⟨congrArg _ (by omega), congrArg _ (by omega)⟩, by omega, x6, fr5.trans fr6⟩
    · rw [e, if_neg (by decide)] at hms
      rw [e]
      (repeat' (first | (simp (maxSteps := 1000000) (disch := first | omega | (simp only [AM.DB, List.length_set, List.length_map]; first | done | omega)) only [AM.RB, Nat.reduceAdd, Nat.reduceMul, Nat.reduceEqDiff, reduceCtorEq, b3_FW7, d220, AM.wrap_i64]) | refine AM.drawW_loose (id := 17) hp (by kernel_rfl) (by kernel_rfl) ?_ | refine AM.opW_tied (by kernel_rfl) ?_ | refine AM.opW_untied (by kernel_rfl) ?_))
      exact ⟨c + 1, by omega, ⟨congrArg _ (by omega), congrArg _ (by omega)⟩, by omega, x6, fr5.trans fr6⟩
  obtain rfl : c = L.flatten.length := by omega
  rw [hol]
  have deq : decide (((openF L P r).length : Int) = (openF L P r).length) = true := decide_eq_true rfl
  by_cases hlen : ((openF L P r).length : Int) = 0
  · (repeat' (first | (simp (maxSteps := 1000000) (disch := first | omega | (simp only [AM.DB, List.length_set, List.length_map]; first | done | omega)) only [AM.RB, Nat.reduceAdd, Nat.reduceMul, Nat.reduceEqDiff, reduceCtorEq, b3_FW7, deq, decide_eq_true hlen]) | refine AM.drawW_loose (id := 17) hp (by kernel_rfl) (by kernel_rfl) ?_ | refine AM.opW_tied (by kernel_rfl) ?_ | refine AM.opW_untied (by kernel_rfl) ?_))
  obtain ⟨j, hj, hjl⟩ := rem8_idx hu1.1 (show u1 < 65536 by omega) (show 0 < (openF L P r).length by omega)
  obtain ⟨c, hcj⟩ : ∃ c, (openF L P r).getD j 0 = c := ⟨_, rfl⟩
  have hmem : c ∈ openF L P r := by rw [← hcj]; exact getD_memI _ hjl
  have hck := openF_mem f hmem
  have rd5 := o5.rd
  have ld := Rd.ldi rd5 lk_3 j hjl
  rw [hcj] at ld
  obtain ⟨from_, hfrom⟩ : ∃ a, P.getD r 0 = a := ⟨_, rfl⟩
  have hat : atF P r = from_ := by unfold atF; rw [if_pos (by omega), Int.toNat_natCast, hfrom]
  (repeat' (first | (simp (maxSteps := 1000000) (disch := first | omega | (simp only [AM.DB, List.length_set, List.length_map]; first | done | omega)) only [AM.RB, Nat.reduceAdd, Nat.reduceMul, Nat.reduceEqDiff, reduceCtorEq, b3_FW7, deq, decide_eq_false hlen]) | refine AM.drawW_loose (id := 17) hp (by kernel_rfl) (by kernel_rfl) ?_ | refine AM.opW_tied (by kernel_rfl) ?_ | refine AM.opW_untied (by kernel_rfl) ?_))
  refine at_w x5 (by omega) r ?_
  rw [hat]
  (repeat' (first | (simp (maxSteps := 1000000) (disch := first | omega | (simp only [AM.DB, List.length_set, List.length_map]; first | done | omega)) only [AM.RB, Nat.reduceAdd, Nat.reduceMul, Nat.reduceEqDiff, reduceCtorEq, b3_FW7, g15, t1, AM.wrap_i64, hj, rd5.ia el_22, ld, Int.toNat_natCast]) | refine AM.drawW_loose (id := 17) hp (by kernel_rfl) (by kernel_rfl) ?_ | refine AM.opW_tied (by kernel_rfl) ?_ | refine AM.opW_untied (by kernel_rfl) ?_))
  refine ⟨AM.looseOk_by [(5, [0, 3]), (6, [0, 3]), (8, [0, 3]), (11, [0, 3])] (by kernel_rfl) ?_, ?_⟩
  · simp (maxSteps := 1000000) (disch := first | omega | (simp only [AM.DB, List.length_set, List.length_map]; first | done | omega)) only [AM.RB, Nat.reduceAdd, Nat.reduceMul, Nat.reduceEqDiff, reduceCtorEq, b3_FW7]
    all_goals ((repeat' apply And.intro) <;> (first | (refine AM.stable_len _ _ _ _ _ _ (fun _ => ?_); (simp (maxSteps := 1000000) (disch := first | omega | (simp only [AM.DB, List.length_set, List.length_map]; first | done | omega)) only [AM.RB, Nat.reduceAdd, Nat.reduceMul, Nat.reduceEqDiff, reduceCtorEq, b3_FW7, g15, t1, AM.wrap_i64, hj, rd5.ia el_22, ld, Int.toNat_natCast])) | (refine AM.stable_conv _ _ _ _ _ _ ul_5 ul_3 (by rfl) ?_; exact AM.wrap_i64 (by omega) (by omega)) | (refine AM.stable_load _ _ _ _ _ _ ?_; (first | (simp (maxSteps := 1000000) (disch := first | omega | (simp only [AM.DB, List.length_set, List.length_map]; first | done | omega)) only [AM.RB, Nat.reduceAdd, Nat.reduceMul, Nat.reduceEqDiff, reduceCtorEq, b3_FW7, g15, t1, AM.wrap_i64, hj, rd5.ia el_22, ld, Int.toNat_natCast]) | skip); (first | (refine AM.stabL_int (by omega) ?_; (simp (maxSteps := 1000000) (disch := first | omega | (simp only [AM.DB, List.length_set, List.length_map]; first | done | omega)) only [AM.RB, Nat.reduceAdd, Nat.reduceMul, Nat.reduceEqDiff, reduceCtorEq, b3_FW7, g15, t1, AM.wrap_i64, hj, rd5.ia el_22, ld, Int.toNat_natCast])) | (refine AM.stabL_ptr (by omega) (by omega) ?_; (simp (maxSteps := 1000000) (disch := first | omega | (simp only [AM.DB, List.length_set, List.length_map]; first | done | omega)) only [AM.RB, Nat.reduceAdd, Nat.reduceMul, Nat.reduceEqDiff, reduceCtorEq, b3_FW7, g15, t1, AM.wrap_i64, hj, rd5.ia el_22, ld, Int.toNat_natCast])) | (refine AM.stabL_string (by omega) ?_; (simp (maxSteps := 1000000) (disch := first | omega | (simp only [AM.DB, List.length_set, List.length_map]; first | done | omega)) only [AM.RB, Nat.reduceAdd, Nat.reduceMul, Nat.reduceEqDiff, reduceCtorEq, b3_FW7, g15, t1, AM.wrap_i64, hj, rd5.ia el_22, ld, Int.toNat_natCast])) | (refine AM.stabL_bool (by omega) ?_; (simp (maxSteps := 1000000) (disch := first | omega | (simp only [AM.DB, List.length_set, List.length_map]; first | done | omega)) only [AM.RB, Nat.reduceAdd, Nat.reduceMul, Nat.reduceEqDiff, reduceCtorEq, b3_FW7, g15, t1, AM.wrap_i64, hj, rd5.ia el_22, ld, Int.toNat_natCast])) | (refine AM.stabL_rd rd5 (by omega) (by omega) ?_; (simp (maxSteps := 1000000) (disch := first | omega | (simp only [AM.DB, List.length_set, List.length_map]; first | done | omega)) only [AM.RB, Nat.reduceAdd, Nat.reduceMul, Nat.reduceEqDiff, reduceCtorEq, b3_FW7, g15, t1, AM.wrap_i64, hj, rd5.ia el_22, ld, Int.toNat_natCast])) | (refine AM.stabL_elS rd5 (by omega) (by omega) ?_; (simp (maxSteps := 1000000) (disch := first | omega | (simp only [AM.DB, List.length_set, List.length_map]; first | done | omega)) only [AM.RB, Nat.reduceAdd, Nat.reduceMul, Nat.reduceEqDiff, reduceCtorEq, b3_FW7, g15, t1, AM.wrap_i64, hj, rd5.ia el_22, ld, Int.toNat_natCast])) | (refine AM.stabL_elI rd5 (by omega) (by omega) ?_; (simp (maxSteps := 1000000) (disch := first | omega | (simp only [AM.DB, List.length_set, List.length_map]; first | done | omega)) only [AM.RB, Nat.reduceAdd, Nat.reduceMul, Nat.reduceEqDiff, reduceCtorEq, b3_FW7, g15, t1, AM.wrap_i64, hj, rd5.ia el_22, ld, Int.toNat_natCast]))))))
  (repeat' (first | (simp (maxSteps := 1000000) (disch := first | omega | (simp only [AM.DB, List.length_set, List.length_map]; first | done | omega)) only [AM.RB, Nat.reduceAdd, Nat.reduceMul, Nat.reduceEqDiff, reduceCtorEq, b3_FW7]) | refine AM.drawW_loose (id := 17) hp (by kernel_rfl) (by kernel_rfl) ?_ | refine AM.opW_tied (by kernel_rfl) ?_ | refine AM.opW_untied (by kernel_rfl) ?_))
  refine move_w x5 f ok hw5 (by omega) (by omega) (by omega) (by omega) r c fun h6 x6 fr6 => ?_
  rw [hck] at x6 ⊢
  simp only [if_true] at x6
  have nx6 := fr6.next
  have lw6 := fr6.low
  have hw6 := fr6.get hw5 (fun t => t (by omega))
  have pP6 := pP5.fr fr6 (fun id a t => t (by have := hP.lt a; omega))
  have ok6 := ok.move (L := L) r c
  have hml6 := movF_len L P r c
  obtain ⟨bk1, bk2⟩ := back_move ok (r := r) hck
  rw [hfrom] at bk1 bk2
  (repeat' (first | (simp (maxSteps := 1000000) (disch := first | omega | (simp only [AM.DB, List.length_set, List.length_map]; first | done | omega)) only [AM.RB, Nat.reduceAdd, Nat.reduceMul, Nat.reduceEqDiff, reduceCtorEq, b3_FW7]) | refine AM.drawW_loose (id := 17) hp (by kernel_rfl) (by kernel_rfl) ?_ | refine AM.opW_tied (by kernel_rfl) ?_ | refine AM.opW_untied (by kernel_rfl) ?_))
  refine move_w x6 f ok6 hw6 (by omega) (by omega) (by omega) (by omega) r from_ fun h7 x7 fr7 => ?_
  have nx7 := fr7.next
  have lw7 := fr7.low
  have hw7 := fr7.get hw6 (fun t => t (by omega))
  have pP7 := pP6.fr fr7 (fun id a t => t (by have := hP.lt a; omega))
  cases he : edgeL L c from_
  · have e : chkF L (movF L P r c) r from_ = 220 := by
      rcases chkF_or L (movF L P r c) r from_ with ⟨e, _⟩ | ⟨e, _⟩
      · rw [bk1.1 e] at he; cases he
      · exact e
    rw [e]
    (repeat' (first | (simp (maxSteps := 1000000) (disch := first | omega | (simp only [AM.DB, List.length_set, List.length_map]; first | done | omega)) only [AM.RB, Nat.reduceAdd, Nat.reduceMul, Nat.reduceEqDiff, reduceCtorEq, b3_FW7, d00, d220]) | refine AM.drawW_loose (id := 17) hp (by kernel_rfl) (by kernel_rfl) ?_ | refine AM.opW_tied (by kernel_rfl) ?_ | refine AM.opW_untied (by kernel_rfl) ?_))
    refine fedge_w x7 f hw7 (by omega) (by omega) _ _ fun h8 x8 fr8 => ?_
    rw [he]
    (repeat' (first | (simp (maxSteps := 1000000) (disch := first | omega | (simp only [AM.DB, List.length_set, List.length_map]; first | done | omega)) only [AM.RB, Nat.reduceAdd, Nat.reduceMul, Nat.reduceEqDiff, reduceCtorEq, b3_FW7, d00, d220]) | refine AM.drawW_loose (id := 17) hp (by kernel_rfl) (by kernel_rfl) ?_ | refine AM.opW_tied (by kernel_rfl) ?_ | refine AM.opW_untied (by kernel_rfl) ?_))
  · have e := bk1.2 he
    rw [bk2 he] at x7
    rw [e] at x7 ⊢
    (repeat' (first | (simp (maxSteps := 1000000) (disch := first | omega | (simp only [AM.DB, List.length_set, List.length_map]; first | done | omega)) only [AM.RB, Nat.reduceAdd, Nat.reduceMul, Nat.reduceEqDiff, reduceCtorEq, b3_FW7, d00, d220]) | refine AM.drawW_loose (id := 17) hp (by kernel_rfl) (by kernel_rfl) ?_ | refine AM.opW_tied (by kernel_rfl) ?_ | refine AM.opW_untied (by kernel_rfl) ?_))
    refine fedge_w x7 f hw7 (by omega) (by omega) _ _ fun h8 x8 fr8 => ?_
    rw [he]
    have nx8 := fr8.next
    have lw8 := fr8.low
    (repeat' (first | (simp (maxSteps := 1000000) (disch := first | omega | (simp only [AM.DB, List.length_set, List.length_map]; first | done | omega)) only [AM.RB, Nat.reduceAdd, Nat.reduceMul, Nat.reduceEqDiff, reduceCtorEq, b3_FW7, d00, d220]) | refine AM.drawW_loose (id := 17) hp (by kernel_rfl) (by kernel_rfl) ?_ | refine AM.opW_tied (by kernel_rfl) ?_ | refine AM.opW_untied (by kernel_rfl) ?_))
    refine places_w x8 (by omega) (by omega) fun w h9 o9 fr9 hid9 => ?_
    obtain ⟨wa, wc, rfl⟩ := o9.form
    (repeat' (first | (simp (maxSteps := 1000000) (disch := first | omega | (simp only [AM.DB, List.length_set, List.length_map]; first | done | omega)) only [AM.RB, Nat.reduceAdd, Nat.reduceMul, Nat.reduceEqDiff, reduceCtorEq, b3_FW7]) | refine AM.drawW_loose (id := 17) hp (by kernel_rfl) (by kernel_rfl) ?_ | refine AM.opW_tied (by kernel_rfl) ?_ | refine AM.opW_untied (by kernel_rfl) ?_))
    refine same22_w o9.rd ((pP7.fr fr8 (fun id a e => by have := hP.lt a; have e : id = p := e; omega)).fr0 fr9) (by omega) ?_
    rw [decide_eq_true rfl]
    (repeat' (first | (simp (maxSteps := 1000000) (disch := first | omega | (simp only [AM.DB, List.length_set, List.length_map]; first | done | omega)) only [AM.RB, Nat.reduceAdd, Nat.reduceMul, Nat.reduceEqDiff, reduceCtorEq, b3_FW7]) | refine AM.drawW_loose (id := 17) hp (by kernel_rfl) (by kernel_rfl) ?_ | refine AM.opW_tied (by kernel_rfl) ?_ | refine AM.opW_untied (by kernel_rfl) ?_))

end Go.Proofs.YtbaohngkapmhlaaDoor
