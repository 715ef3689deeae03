/- Walks of this claim's functions, and plain laws. -/
import Derived.Test.YtbaohngkapmhlaaDoorWe
import Derived.Test.YtbaohngkapmhlaaDoorAMLift
set_option linter.unusedSimpArgs false
set_option linter.unusedVariables false
namespace Go.Proofs.YtbaohngkapmhlaaDoor
open Go.AM
set_option maxRecDepth 8000
theorem b47_PR3 : type_of% (And.intro (@AM.alK_some) (And.intro (@al_59) (And.intro (@AM.bdV_some) (And.intro (@bd_59) (And.intro (@AM.bin_add) (And.intro (@AM.bin_lss) (And.intro (@AM.bin_neq) (And.intro (AM.bsW_int bs_22) (And.intro (AM.bsW_nil bs_22) (And.intro (AM.bsW_slice bs_22) (And.intro (AM.bsW_string bs_22) (And.intro (@AM.fa_ptr) (And.intro (@fd_59_1) (And.intro (@AM.fillL_cons) (And.intro (@AM.fillL_nil) (And.intro (@AM.fillS_agg) (And.intro (@AM.fillS_bool) (And.intro (@AM.fillS_func) (And.intro (@AM.fillS_int) (And.intro (@AM.fillS_map) (And.intro (@AM.fillS_pointer) (And.intro (@AM.fillS_slice) (And.intro (@AM.fillS_string) (And.intro (@AM.iaO_ok) (And.intro (AM.ia_slice el_22) (And.intro (@AM.ldO_agg) (And.intro (@AM.ldO_one) (And.intro (@AM.ld_ptr) (And.intro (AM.len_slice ul_22) (And.intro (@lk_22) (And.intro (@lk_3) (And.intro (@lk_59) (And.intro (@AM.op_alloc) (And.intro (@AM.op_binOp) (And.intro (@AM.op_build) (And.intro (@AM.op_buildSlice) (And.intro (@AM.op_call) (And.intro (@AM.op_fieldAddr) (And.intro (@AM.op_indexAddr) (And.intro (@AM.op_len) (And.intro (@AM.op_load) (And.intro (@AM.op_store) (And.intro (@AM.op_unOp) (And.intro (@AM.resL_two) (And.intro (@AM.res_cell) (And.intro (@AM.stO_agg) (And.intro (@AM.stO_bool) (And.intro (@AM.stO_int) (And.intro (@AM.stO_map) (And.intro (@AM.stO_pointer) (And.intro (@AM.stO_slice) (And.intro (@AM.stO_string) (And.intro (@AM.st_ptr) (And.intro (@sz_3) (And.intro (@sz_59) (And.intro (@AM.un_neg) (@AM.un_not))))))))))))))))))))))))))))))))))))))))))))))))))))))))) := And.intro (@AM.alK_some) (And.intro (@al_59) (And.intro (@AM.bdV_some) (And.intro (@bd_59) (And.intro (@AM.bin_add) (And.intro (@AM.bin_lss) (And.intro (@AM.bin_neq) (And.intro (AM.bsW_int bs_22) (And.intro (AM.bsW_nil bs_22) (And.intro (AM.bsW_slice bs_22) (And.intro (AM.bsW_string bs_22) (And.intro (@AM.fa_ptr) (And.intro (@fd_59_1) (And.intro (@AM.fillL_cons) (And.intro (@AM.fillL_nil) (And.intro (@AM.fillS_agg) (And.intro (@AM.fillS_bool) (And.intro (@AM.fillS_func) (And.intro (@AM.fillS_int) (And.intro (@AM.fillS_map) (And.intro (@AM.fillS_pointer) (And.intro (@AM.fillS_slice) (And.intro (@AM.fillS_string) (And.intro (@AM.iaO_ok) (And.intro (AM.ia_slice el_22) (And.intro (@AM.ldO_agg) (And.intro (@AM.ldO_one) (And.intro (@AM.ld_ptr) (And.intro (AM.len_slice ul_22) (And.intro (@lk_22) (And.intro (@lk_3) (And.intro (@lk_59) (And.intro (@AM.op_alloc) (And.intro (@AM.op_binOp) (And.intro (@AM.op_build) (And.intro (@AM.op_buildSlice) (And.intro (@AM.op_call) (And.intro (@AM.op_fieldAddr) (And.intro (@AM.op_indexAddr) (And.intro (@AM.op_len) (And.intro (@AM.op_load) (And.intro (@AM.op_store) (And.intro (@AM.op_unOp) (And.intro (@AM.resL_two) (And.intro (@AM.res_cell) (And.intro (@AM.stO_agg) (And.intro (@AM.stO_bool) (And.intro (@AM.stO_int) (And.intro (@AM.stO_map) (And.intro (@AM.stO_pointer) (And.intro (@AM.stO_slice) (And.intro (@AM.stO_string) (And.intro (@AM.st_ptr) (And.intro (@sz_3) (And.intro (@sz_59) (And.intro (@AM.un_neg) (@AM.un_not))))))))))))))))))))))))))))))))))))))))))))))))))))))))
theorem b48_PR3 : type_of% (And.intro (@AM.alK_some) (And.intro (@al_59) (And.intro (@AM.bdV_some) (And.intro (@bd_59) (And.intro (@AM.bin_add) (And.intro (@AM.bin_eql) (And.intro (@AM.bin_lss) (And.intro (AM.bsW_int bs_22) (And.intro (AM.bsW_nil bs_22) (And.intro (AM.bsW_slice bs_22) (And.intro (AM.bsW_string bs_22) (And.intro (@AM.fa_ptr) (And.intro (@fd_59_0) (And.intro (@fd_59_1) (And.intro (@AM.fillL_cons) (And.intro (@AM.fillL_nil) (And.intro (@AM.fillS_agg) (And.intro (@AM.fillS_bool) (And.intro (@AM.fillS_func) (And.intro (@AM.fillS_int) (And.intro (@AM.fillS_map) (And.intro (@AM.fillS_pointer) (And.intro (@AM.fillS_slice) (And.intro (@AM.fillS_string) (And.intro (@AM.iaO_ok) (And.intro (AM.ia_slice el_22) (And.intro (@AM.ldO_agg) (And.intro (@AM.ldO_one) (And.intro (@AM.ld_ptr) (And.intro (AM.len_slice ul_22) (And.intro (@lk_22) (And.intro (@lk_3) (And.intro (@lk_59) (And.intro (@AM.op_alloc) (And.intro (@AM.op_append) (And.intro (@AM.op_binOp) (And.intro (@AM.op_build) (And.intro (@AM.op_buildSlice) (And.intro (@AM.op_call) (And.intro (@AM.op_fieldAddr) (And.intro (@AM.op_indexAddr) (And.intro (@AM.op_len) (And.intro (@AM.op_load) (And.intro (@AM.op_store) (And.intro (@AM.op_unOp) (And.intro (@AM.resL_two) (And.intro (@AM.res_cell) (And.intro (@AM.stO_agg) (And.intro (@AM.stO_bool) (And.intro (@AM.stO_int) (And.intro (@AM.stO_map) (And.intro (@AM.stO_pointer) (And.intro (@AM.stO_slice) (And.intro (@AM.stO_string) (And.intro (@AM.st_ptr) (And.intro (@sz_22) (And.intro (@sz_59) (And.intro (@AM.un_neg) (@AM.un_not))))))))))))))))))))))))))))))))))))))))))))))))))))))))))) := And.intro (@AM.alK_some) (And.intro (@al_59) (And.intro (@AM.bdV_some) (And.intro (@bd_59) (And.intro (@AM.bin_add) (And.intro (@AM.bin_eql) (And.intro (@AM.bin_lss) (And.intro (AM.bsW_int bs_22) (And.intro (AM.bsW_nil bs_22) (And.intro (AM.bsW_slice bs_22) (And.intro (AM.bsW_string bs_22) (And.intro (@AM.fa_ptr) (And.intro (@fd_59_0) (And.intro (@fd_59_1) (And.intro (@AM.fillL_cons) (And.intro (@AM.fillL_nil) (And.intro (@AM.fillS_agg) (And.intro (@AM.fillS_bool) (And.intro (@AM.fillS_func) (And.intro (@AM.fillS_int) (And.intro (@AM.fillS_map) (And.intro (@AM.fillS_pointer) (And.intro (@AM.fillS_slice) (And.intro (@AM.fillS_string) (And.intro (@AM.iaO_ok) (And.intro (AM.ia_slice el_22) (And.intro (@AM.ldO_agg) (And.intro (@AM.ldO_one) (And.intro (@AM.ld_ptr) (And.intro (AM.len_slice ul_22) (And.intro (@lk_22) (And.intro (@lk_3) (And.intro (@lk_59) (And.intro (@AM.op_alloc) (And.intro (@AM.op_append) (And.intro (@AM.op_binOp) (And.intro (@AM.op_build) (And.intro (@AM.op_buildSlice) (And.intro (@AM.op_call) (And.intro (@AM.op_fieldAddr) (And.intro (@AM.op_indexAddr) (And.intro (@AM.op_len) (And.intro (@AM.op_load) (And.intro (@AM.op_store) (And.intro (@AM.op_unOp) (And.intro (@AM.resL_two) (And.intro (@AM.res_cell) (And.intro (@AM.stO_agg) (And.intro (@AM.stO_bool) (And.intro (@AM.stO_int) (And.intro (@AM.stO_map) (And.intro (@AM.stO_pointer) (And.intro (@AM.stO_slice) (And.intro (@AM.stO_string) (And.intro (@AM.st_ptr) (And.intro (@sz_22) (And.intro (@sz_59) (And.intro (@AM.un_neg) (@AM.un_not))))))))))))))))))))))))))))))))))))))))))))))))))))))))))


set_option maxHeartbeats 8000000 in
theorem start_w {h : AHeap} {p : Nat} {L : List (List UInt8)} {B : Nat → Prop} {v : Value} {P : List Int} (m : Mk h p L B) (f : Fit L) (hP : Rd h 3 1 v P.length (P.map (.int .i64))) (hn : P.length ≤ 4000000) (hl : h.low ≤ h.next) {Q : VQ}
    (hq : ∀ a1 m1 c1 a2 m2 c2 h', Mk h' p L (fun id => B id ∨ idOf (.slice a1 m1 c1) id ∨ idOf (.slice a2 m2 c2) id) → Fr none' h h' → (chk L.flatten (startS L.flatten P) = true → StO h.next h' (.agg #[.slice a1 m1 c1, .slice a2 m2 c2]) (startS L.flatten P)) → (chk L.flatten (startS L.flatten P) = false → Value.agg #[.slice a1 m1 c1, .slice a2 m2 c2] = Value.agg #[.slice none 0 0, .slice none 0 0]) → Q (.tuple #[.agg #[.slice a1 m1 c1, .slice a2 m2 c2], .int .i64 (if chk L.flatten (startS L.flatten P) = true then 0 else 250)]) h') : W 47 [pv p, v] h Q := by
  obtain ⟨pa, pc, rfl⟩ := hP.form
  have hK := f.k1024
  have flen := f.len
  have hbd : L.length ≤ 4000000 ∧ (L.getD 0 []).length ≤ 4000000 := by have := f.r32; have := f.c32; omega
  have hpos : 0 < L.length * (L.getD 0 []).length := Nat.mul_pos f.rows f.cols
  have d250 : decide ((250 : Int) = 0) = false := rfl
  have d00 : decide ((0 : Int) = 0) = true := rfl
  refine AM.enter hp (fn := Tryd.f47) (rs := [.cell 4 59, .tmp 5]) (nt := 54) (by kernel_rfl) Tryd.func47 rfl rfl rfl (by kernel_rfl) ?_
  simp (maxSteps := 1000000) (disch := first | omega | (simp only [AM.DB, List.length_set, List.length_map]; first | done | omega)) only [AM.RB, Nat.reduceAdd, Nat.reduceMul, Nat.reduceEqDiff, reduceCtorEq, b47_PR3]
  generalize hE_ : AHeap.alloc h _ = h1; obtain ⟨g1, fr1, n1, l1⟩ := AM.new_get hE_; clear hE_
  obtain ⟨kv, tl, mm1⟩ := (m.fr0 fr1).mp
  (repeat' (first | (simp (maxSteps := 1000000) (disch := first | omega | (simp only [AM.DB, List.length_set, List.length_map]; first | done | omega)) only [AM.RB, Nat.reduceAdd, Nat.reduceMul, Nat.reduceEqDiff, reduceCtorEq, b47_PR3]) | refine AM.build_w ?_))
  refine pnone_w mm1 f ?_
  (repeat' (first | (simp (maxSteps := 1000000) (disch := first | omega | (simp only [AM.DB, List.length_set, List.length_map]; first | done | omega)) only [AM.RB, Nat.reduceAdd, Nat.reduceMul, Nat.reduceEqDiff, reduceCtorEq, b47_PR3]) | refine AM.build_w ?_))
  refine cloneI_w (hP.fr0 fr1) (by omega) (by omega) fun va h2 o2 fr2 hid2 => ?_
  obtain ⟨vaa, vac, rfl⟩ := o2.form
  have nx2 := fr2.next
  have lw2 := fr2.low
  (repeat' (first | (simp (maxSteps := 1000000) (disch := first | omega | (simp only [AM.DB, List.length_set, List.length_map]; first | done | omega)) only [AM.RB, Nat.reduceAdd, Nat.reduceMul, Nat.reduceEqDiff, reduceCtorEq, b47_PR3]) | refine AM.build_w ?_))
  generalize hE_ : AHeap.alloc h2 _ = h3; obtain ⟨g3, fr3, n3, l3⟩ := AM.new_get hE_; clear hE_
  have fr13 := fr2.trans fr3
  refine cells_w (mm1.fr0 fr13) f.rows hbd _ ?_
  (repeat' (first | (simp (maxSteps := 1000000) (disch := first | omega | (simp only [AM.DB, List.length_set, List.length_map]; first | done | omega)) only [AM.RB, Nat.reduceAdd, Nat.reduceMul, Nat.reduceEqDiff, reduceCtorEq, b47_PR3]) | refine AM.build_w ?_))
  refine repeat_w (x := -1) (AM.Rd.whole (n := 1) (c := [.int .i64 (-1)]) g3 rfl) hpos (by omega) (by omega) fun wa h4 o4 fr4 hid4 => ?_
  obtain ⟨waa, wac, rfl⟩ := o4.form
  have nx4 := fr4.next
  have lw4 := fr4.low
  have lt2 : ∀ id, idOf (.slice vaa P.length vac) id → h1.next ≤ id ∧ id < h2.next := fun id q => ⟨hid2 id q, o2.lt q⟩
  (repeat' (first | (simp (maxSteps := 1000000) (disch := first | omega | (simp only [AM.DB, List.length_set, List.length_map]; first | done | omega)) only [AM.RB, Nat.reduceAdd, Nat.reduceMul, Nat.reduceEqDiff, reduceCtorEq, b47_PR3]) | refine AM.build_w ?_))
  generalize hE_ : AHeap.put (AHeap.alloc h4 _) _ _ = h5; obtain ⟨g5, fr5, n5, l5⟩ := AM.box_get hE_ (by omega); clear hE_
  have nx5 := fr5.next
  have lw5 := fr5.low
  have fr15 := (fr13.trans fr4).trans fr5
  have fr05 := fr1.trans fr15
  have o25 := o2.fr0 ((fr3.trans fr4).trans fr5)
  have o45 := o4.fr0 fr5
  rw [← flen] at o45
  have st5 : StO h.next h5 (.agg #[.slice vaa P.length vac, .slice waa L.flatten.length wac]) (P, hoS L.flatten.length P 0) := ⟨_, _, rfl, o25, by
    show Ow h5 _ 1 _ (List.replicate L.flatten.length (-1 : Int)).length ((List.replicate L.flatten.length (-1 : Int)).map (.int .i64))
    rw [List.length_replicate]; exact o45, fun id q => by
      rcases q with q | q
      · have := lt2 id q; omega
      · have := hid4 id (by rw [← flen]; exact q); omega, fun id q1 q2 => by
      have := lt2 id q1; have := hid4 id (by rw [← flen]; exact q2); omega⟩
  have lt45 : h4.next < h5.next := AM.get_some_lt g5
  have hw45 : ∀ id, idOf (.slice waa L.flatten.length wac) id → h2.next + 1 ≤ id ∧ id < h4.next := fun id q => by
    rw [flen] at q
    have := hid4 id q
    have := o4.lt q
    omega
  have g15 := g1.fr0 fr15
  rw [← flen] at *
  (repeat' (first | (simp (maxSteps := 1000000) (disch := first | omega | (simp only [AM.DB, List.length_set, List.length_map]; first | done | omega)) only [AM.RB, Nat.reduceAdd, Nat.reduceMul, Nat.reduceEqDiff, reduceCtorEq, b47_PR3]) | refine AM.build_w ?_))
  refine AM.loop_w hp 54 (fun i : Nat => [(0, pv p), (4, pv h.next), (6, pv h4.next), (20, .slice pa P.length pc), (21, .int .i64 P.length), (22, .int .i64 i)])
    (fun i h' => i ≤ P.length ∧ Fr (idOf (.slice waa L.flatten.length wac)) h5 h' ∧ StO h.next h' (.agg #[.slice vaa P.length vac, .slice waa L.flatten.length wac]) (P, hoS L.flatten.length P i) ∧ ∀ j, j < i → freeP L.flatten (P.getD j 0) = true) (fun i => P.length - i) (by kernel_rfl) 0 ?_ ?_ ?_
  · simp (maxSteps := 1000000) (disch := first | omega | (simp only [AM.DB, List.length_set, List.length_map]; first | done | omega)) only [AM.RB, Nat.reduceAdd, Nat.reduceMul, Nat.reduceEqDiff, reduceCtorEq, b47_PR3]
    first | rfl | skip
  · exact ⟨Nat.zero_le _, Fr.refl _ _, st5, fun j hj => by omega⟩
  rintro i h6 ρ ⟨hi, fr6, st6, hfree⟩
  have nx6 := fr6.next
  have lw6 := fr6.low
  have fr06 : Fr none' h h6 := Fr.fresh fr05 fr6 (fun id q => by have := hw45 id q; omega)
  have fr16 : Fr none' h1 h6 := Fr.fresh fr15 fr6 (fun id q => by have := hw45 id q; omega)
  have g16 := fr6.get g15 (fun q => by have := hw45 _ q; omega)
  have g56 := fr6.get g5 (fun q => by have := hw45 _ q; omega)
  have mm6 := mm1.fr0 fr16
  have hP6 := hP.fr0 fr06
  have m6 := m.fresh fr06
  have hPlt : ∀ id, idOf (.slice vaa P.length vac) id → h.next ≤ id ∧ id < h6.next := fun id q => by have := lt2 id q; omega
  have hWlt : ∀ id, idOf (.slice waa L.flatten.length wac) id → h.next ≤ id ∧ id < h6.next := fun id q => by have := hw45 id q; omega
  have errEnd : ∀ h7, Fr (fun id => id = h.next) h6 h7 → chk L.flatten (startS L.flatten P) = false → Q (.tuple #[.agg #[.slice none 0 0, .slice none 0 0], .int .i64 250]) h7 := fun h7 fr7 e => by
    rw [e] at hq
    refine hq _ _ _ _ _ _ _ ((m6.frB fr7 (fun id e => .inr (by have e : id = h.next := e; omega))).sub fun id q => ?_) (Fr.fresh fr06 fr7 (fun id e => by have e : id = h.next := e; omega)) (fun e => by cases e) (fun _ => rfl)
    rcases q with q | q | q
    · exact .inl q
    · exact q.elim
    · exact q.elim
  simp (maxSteps := 1000000) (disch := first | omega | (simp only [AM.DB, List.length_set, List.length_map]; first | done | omega)) only [AM.RB, Nat.reduceAdd, Nat.reduceMul, Nat.reduceEqDiff, reduceCtorEq, b47_PR3]
  refine AM.condV_split (fun hlt => ?_) (fun hlt => ?_)
  · have hil : i < P.length := by omega
    obtain ⟨x, hx⟩ : ∃ x, P.getD i 0 = x := ⟨_, rfl⟩
    (repeat' (first | (simp (maxSteps := 1000000) (disch := first | omega | (simp only [AM.DB, List.length_set, List.length_map]; first | done | omega)) only [AM.RB, Nat.reduceAdd, Nat.reduceMul, Nat.reduceEqDiff, reduceCtorEq, b47_PR3, hP6.ia el_22, Rd.ldi hP6 lk_3, Int.toNat_natCast, hx]) | refine AM.build_w ?_))
    refine free_w mm6 f.rows x _ ?_
    cases hfx : freeP L.flatten x
    · have e := start_free hil (by rw [hx]; exact hfx)
      (repeat' (first | (simp (maxSteps := 1000000) (disch := first | omega | (simp only [AM.DB, List.length_set, List.length_map]; first | done | omega)) only [AM.RB, Nat.reduceAdd, Nat.reduceMul, Nat.reduceEqDiff, reduceCtorEq, b47_PR3, g16]) | refine AM.build_w ?_))
      generalize hE_ : AHeap.put h6 _ _ = h7; obtain ⟨g7, fr7, n7, l7⟩ := AM.put_get hE_ (by omega); clear hE_
      (repeat' (first | (simp (maxSteps := 1000000) (disch := first | omega | (simp only [AM.DB, List.length_set, List.length_map]; first | done | omega)) only [AM.RB, Nat.reduceAdd, Nat.reduceMul, Nat.reduceEqDiff, reduceCtorEq, b47_PR3, g7]) | refine AM.build_w ?_))
      exact errEnd _ fr7 e
    obtain ⟨x1, x2⟩ := freeP_in hfx
    obtain ⟨c, rfl⟩ := Int.eq_ofNat_of_zero_le x1
    obtain ⟨_, _, est, oa6, ow6, hid6, hap6⟩ := id st6
    cases est
    have hcl : c < L.flatten.length := by omega
    have hwl : (hoS L.flatten.length P i).length = L.flatten.length := hoS_len _ _ _
    simp only [hwl] at ow6
    have r6 := ow6.rd
    obtain ⟨y, hy⟩ : ∃ y, (hoS L.flatten.length P i).getD c 0 = y := ⟨_, rfl⟩
    by_cases ey : y = -1
    case neg =>
      have e := start_dup hil hfree (by rw [hx]; exact hfx) (by rw [hx, Int.toNat_natCast, hy]; exact ey)
      (repeat' (first | (simp (maxSteps := 1000000) (disch := first | omega | (simp only [AM.DB, List.length_set, List.length_map]; first | done | omega)) only [AM.RB, Nat.reduceAdd, Nat.reduceMul, Nat.reduceEqDiff, reduceCtorEq, b47_PR3, g16, g56, r6.ia el_22, Rd.ldi r6 lk_3, Int.toNat_natCast, hy, decide_eq_false ey]) | refine AM.build_w ?_))
      generalize hE_ : AHeap.put h6 _ _ = h7; obtain ⟨g7, fr7, n7, l7⟩ := AM.put_get hE_ (by omega); clear hE_
      (repeat' (first | (simp (maxSteps := 1000000) (disch := first | omega | (simp only [AM.DB, List.length_set, List.length_map]; first | done | omega)) only [AM.RB, Nat.reduceAdd, Nat.reduceMul, Nat.reduceEqDiff, reduceCtorEq, b47_PR3, g7]) | refine AM.build_w ?_))
      exact errEnd _ fr7 e
    (repeat' (first | (simp (maxSteps := 1000000) (disch := first | omega | (simp only [AM.DB, List.length_set, List.length_map]; first | done | omega)) only [AM.RB, Nat.reduceAdd, Nat.reduceMul, Nat.reduceEqDiff, reduceCtorEq, b47_PR3, g56, r6.ia el_22, Rd.ldi r6 lk_3, Int.toNat_natCast, hy, decide_eq_true ey]) | refine AM.build_w ?_))
    refine ow6.st sz_3 (j := c) (by omega) rfl rfl fun h7 o7 fr7 n7 => ?_
    rw [map_set'] at o7
    (repeat' (first | (simp (maxSteps := 1000000) (disch := first | omega | (simp only [AM.DB, List.length_set, List.length_map]; first | done | omega)) only [AM.RB, Nat.reduceAdd, Nat.reduceMul, Nat.reduceEqDiff, reduceCtorEq, b47_PR3, AM.wrap_i64]) | refine AM.build_w ?_))
    refine ⟨i + 1, by omega, congrArg _ (by omega), by omega, fr6.trans fr7, ⟨_, _, rfl, oa6.fr fr7 hap6, ?_, hid6, hap6⟩, fun j hj => ?_⟩
    · have e : hoS L.flatten.length P (i + 1) = (hoS L.flatten.length P i).set c i := by rw [hoS, hx, Int.toNat_natCast]
      show Ow h7 _ 1 _ (hoS L.flatten.length P (i + 1)).length ((hoS L.flatten.length P (i + 1)).map (.int .i64))
      rw [hoS_len, e]; exact o7
    · by_cases ej : j = i
      · subst ej; rw [hx]; exact hfx
      · exact hfree j (by omega)
  have ei : i = P.length := by omega
  subst ei
  have est : (P, hoS L.flatten.length P P.length) = startS L.flatten P := by unfold startS; rw [hoS_ref hfree]
  rw [est] at st6
  (repeat' (first | (simp (maxSteps := 1000000) (disch := first | omega | (simp only [AM.DB, List.length_set, List.length_map]; first | done | omega)) only [AM.RB, Nat.reduceAdd, Nat.reduceMul, Nat.reduceEqDiff, reduceCtorEq, b47_PR3, g56]) | refine AM.build_w ?_))
  refine check_w mm6 f st6.rd (by omega) fun h7 fr7 => ?_
  have nx7 := fr7.next
  have lw7 := fr7.low
  have g17 := g16.fr0 fr7
  have g57 := g56.fr0 fr7
  cases hc : chk L.flatten (startS L.flatten P)
  · simp only [Bool.false_eq_true, if_false]
    (repeat' (first | (simp (maxSteps := 1000000) (disch := first | omega | (simp only [AM.DB, List.length_set, List.length_map]; first | done | omega)) only [AM.RB, Nat.reduceAdd, Nat.reduceMul, Nat.reduceEqDiff, reduceCtorEq, b47_PR3, d250, g17]) | refine AM.build_w ?_))
    generalize hE_ : AHeap.put h7 _ _ = h8; obtain ⟨g8, fr8, n8, l8⟩ := AM.put_get hE_ (by omega); clear hE_
    (repeat' (first | (simp (maxSteps := 1000000) (disch := first | omega | (simp only [AM.DB, List.length_set, List.length_map]; first | done | omega)) only [AM.RB, Nat.reduceAdd, Nat.reduceMul, Nat.reduceEqDiff, reduceCtorEq, b47_PR3, g8]) | refine AM.build_w ?_))
    exact errEnd _ ((fr7.mono fun _ _ q => q.elim).trans fr8) hc
  · rw [hc] at hq
    simp only [if_true] at hq ⊢
    (repeat' (first | (simp (maxSteps := 1000000) (disch := first | omega | (simp only [AM.DB, List.length_set, List.length_map]; first | done | omega)) only [AM.RB, Nat.reduceAdd, Nat.reduceMul, Nat.reduceEqDiff, reduceCtorEq, b47_PR3, d00, g57, g17]) | refine AM.build_w ?_))
    generalize hE_ : AHeap.put h7 _ _ = h8; obtain ⟨g8, fr8, n8, l8⟩ := AM.put_get hE_ (by omega); clear hE_
    (repeat' (first | (simp (maxSteps := 1000000) (disch := first | omega | (simp only [AM.DB, List.length_set, List.length_map]; first | done | omega)) only [AM.RB, Nat.reduceAdd, Nat.reduceMul, Nat.reduceEqDiff, reduceCtorEq, b47_PR3, g8]) | refine AM.build_w ?_))
    refine hq _ _ _ _ _ _ _ ((((m6.fr0 fr7).frB fr8 (fun id e => .inr (by have e : id = h.next := e; omega))).sub fun id q => ?_)) (Fr.fresh (fr06.trans fr7) fr8 (fun id e => by have e : id = h.next := e; omega)) (fun _ => ?_) (fun e => by cases e)
    · rcases q with q | q | q
      · exact .inl q
      · exact .inr (hPlt id q)
      · exact .inr (hWlt id q)
    · obtain ⟨_, _, e, oa6, ow6, hid6, hap6⟩ := st6
      cases e
      exact ⟨_, _, rfl, (oa6.fr0 fr7).fr fr8 (fun id q e => by have e : id = h.next := e; have := lt2 id q; omega), (ow6.fr0 fr7).fr fr8 (fun id q e => by have e : id = h.next := e; have := hw45 id q; omega), hid6, hap6⟩
def hoN (P : List Int) (n : Nat) : List Int := (List.range n).map fun (c : Nat) => hR P c P.length
theorem hoN_succ (P : List Int) (n : Nat) : hoN P (n + 1) = hoN P n ++ [hR P n P.length] := by
  unfold hoN
  rw [List.range_succ, List.map_append]; rfl
theorem hoN_len (P : List Int) (n : Nat) : (hoN P n).length = n := by unfold hoN; simp
set_option maxHeartbeats 8000000 in
theorem refStart_w {h : AHeap} {p : Nat} {lv : Value} {L : List (List UInt8)} {l : List UInt8} {v : Value} {P : List Int} (r : Rp h p lv L) (G : Good l L) (hP : Rd h 3 1 v P.length (P.map (.int .i64))) (hn : P.length ≤ 4000000) (hl : h.low ≤ h.next) {Q : VQ}
    (hq : ∀ a1 m1 c1 a2 m2 c2 h', Fr none' h h' → (chk L.flatten (startS L.flatten P) = true → StO h.next h' (.agg #[.slice a1 m1 c1, .slice a2 m2 c2]) (startS L.flatten P)) → (chk L.flatten (startS L.flatten P) = false → .agg #[.slice a1 m1 c1, .slice a2 m2 c2] = Value.agg #[.slice none 0 0, .slice none 0 0]) → Q (.tuple #[.agg #[.slice a1 m1 c1, .slice a2 m2 c2], .int .i64 (if chk L.flatten (startS L.flatten P) = true then 0 else 250)]) h') : W 48 [pv p, v] h Q := by
  obtain ⟨pa, pc, rfl⟩ := hP.form
  have f := G.fit
  have hK := f.k1024
  have flen := f.len
  have hbd : L.length ≤ 4000000 ∧ (L.getD 0 []).length ≤ 4000000 := by have := f.r32; have := f.c32; omega
  refine AM.enter hp (fn := Tryd.f48) (rs := [.cell 4 59, .tmp 5]) (nt := 49) (by kernel_rfl) Tryd.func48 rfl rfl rfl (by kernel_rfl) ?_
  simp (maxSteps := 1000000) (disch := first | omega | (simp only [AM.DB, List.length_set, List.length_map]; first | done | omega)) only [AM.RB, Nat.reduceAdd, Nat.reduceMul, Nat.reduceEqDiff, reduceCtorEq, b48_PR3]
  generalize hE_ : AHeap.alloc h _ = h1; obtain ⟨g1, fr1, n1, l1⟩ := AM.new_get hE_; clear hE_
  (repeat' (first | (simp (maxSteps := 1000000) (disch := first | omega | (simp only [AM.DB, List.length_set, List.length_map]; first | done | omega)) only [AM.RB, Nat.reduceAdd, Nat.reduceMul, Nat.reduceEqDiff, reduceCtorEq, b48_PR3]) | refine AM.build_w ?_))
  generalize hE_ : AHeap.put (AHeap.alloc h1 _) _ _ = h2; obtain ⟨g2, fr2, n2, l2⟩ := AM.box_get hE_ (by omega); clear hE_
  have nx2 := fr2.next
  have lw2 := fr2.low
  have fr02 := fr1.trans fr2
  refine AM.appends_w ap_22 ap_22 (AM.Ow.nil _ _ _) (hP.fr0 fr02) (AM.ints_one _ _) (by omega) (AM.fits (by omega) (by omega)) (AM.fits' (by omega)) fun v3 h3 o3 fr3' hid3 => ?_
  rw [Nat.zero_add, List.nil_append] at o3
  have fr3 : Fr none' h2 h3 := fr3'.mono fun _ _ q => q
  have nx3 := fr3.next
  have lw3 := fr3.low
  obtain ⟨va, vc, rfl⟩ := o3.form
  have hx_1 := g2.fr0 fr3
  (repeat' (first | (simp (maxSteps := 1000000) (disch := first | omega | (simp only [AM.DB, List.length_set, List.length_map]; first | done | omega)) only [AM.RB, Nat.reduceAdd, Nat.reduceMul, Nat.reduceEqDiff, reduceCtorEq, b48_PR3, hx_1]) | refine AM.build_w ?_))
  generalize hE_ : AHeap.put h3 _ _ = h4; obtain ⟨g4, fr4, n4, l4⟩ := AM.put_get hE_ (by omega); clear hE_
  have hv3 : ∀ id, idOf (.slice va P.length vc) id → h2.next ≤ id ∧ id < h3.next := fun id q => ⟨by rcases hid3 id q with q' | q'; exact q'.elim; exact q', o3.lt q⟩
  have o4 := o3.fr fr4 (fun id q e => by have e : id = h1.next := e; have := hv3 id q; omega)
  have fr04 : Fr none' h h4 := Fr.fresh (fr02.trans fr3) fr4 (fun id e => by have e : id = h1.next := e; omega)
  have g14 := fr4.get ((g1.fr0 fr2).fr0 fr3) (show ¬ h.next = h1.next by omega)
  have nx4 := fr04.next
  have lw4 := fr04.low
  have lt4 : h1.next < h4.next := AM.get_some_lt g4
  (repeat' (first | (simp (maxSteps := 1000000) (disch := first | omega | (simp only [AM.DB, List.length_set, List.length_map]; first | done | omega)) only [AM.RB, Nat.reduceAdd, Nat.reduceMul, Nat.reduceEqDiff, reduceCtorEq, b48_PR3]) | refine AM.build_w ?_))
  refine AM.loop_w hp 49 (fun c : Nat => [(0, pv p), (1, .slice pa P.length pc), (4, pv h.next), (6, pv h1.next), (7, .int .i64 c)])
    (fun c h' => c ≤ L.flatten.length ∧ Fr (fun id => id = h1.next) h4 h' ∧ ∃ wa wc, h'.get h1.next = some (.cells [.slice va P.length vc, .slice wa c wc] 59 false) ∧ Ow h' 3 1 (.slice wa c wc) c ((hoN P c).map (.int .i64)) ∧ ∀ id, idOf (.slice wa c wc) id → h4.next ≤ id) (fun c => L.flatten.length - c) (by kernel_rfl) 0 ?_ ?_ ?_
  · simp (maxSteps := 1000000) (disch := first | omega | (simp only [AM.DB, List.length_set, List.length_map]; first | done | omega)) only [AM.RB, Nat.reduceAdd, Nat.reduceMul, Nat.reduceEqDiff, reduceCtorEq, b48_PR3]
    first | rfl | skip
  · exact ⟨Nat.zero_le _, Fr.refl _ _, none, 0, g4, AM.Ow.nil _ _ _, fun id q => q.elim⟩
  rintro c h5 ρ ⟨hc, fr5, wa, wc, g5, o5, hid5⟩
  have nx5 := fr5.next
  have lw5 := fr5.low
  have fr05 : Fr none' h h5 := Fr.fresh fr04 fr5 (fun id e => by have e : id = h1.next := e; omega)
  have hP5 := hP.fr0 fr05
  (repeat' (first | (simp (maxSteps := 1000000) (disch := first | omega | (simp only [AM.DB, List.length_set, List.length_map]; first | done | omega)) only [AM.RB, Nat.reduceAdd, Nat.reduceMul, Nat.reduceEqDiff, reduceCtorEq, b48_PR3]) | refine AM.build_w ?_))
  refine refCells_w (r.fr0 fr05) G.rows hbd ?_
  (repeat' (first | (simp (maxSteps := 1000000) (disch := first | omega | (simp only [AM.DB, List.length_set, List.length_map]; first | done | omega)) only [AM.RB, Nat.reduceAdd, Nat.reduceMul, Nat.reduceEqDiff, reduceCtorEq, b48_PR3]) | refine AM.build_w ?_))
  refine AM.condV_split (fun hlt => ?_) (fun hlt => ?_)
  · have hcl : c < L.flatten.length := by omega
    (repeat' (first | (simp (maxSteps := 1000000) (disch := first | omega | (simp only [AM.DB, List.length_set, List.length_map]; first | done | omega)) only [AM.RB, Nat.reduceAdd, Nat.reduceMul, Nat.reduceEqDiff, reduceCtorEq, b48_PR3]) | refine AM.build_w ?_))
    refine AM.loop_w hp 49 (fun t : Nat => [(0, pv p), (1, .slice pa P.length pc), (4, pv h.next), (6, pv h1.next), (7, .int .i64 c), (8, .int .i64 (hR P c t)), (9, .int .i64 t)])
      (fun t h' => t ≤ P.length ∧ h' = h5) (fun t => P.length - t) (by kernel_rfl) 0 ?_ ?_ ?_
    · simp (maxSteps := 1000000) (disch := first | omega | (simp only [AM.DB, List.length_set, List.length_map]; first | done | omega)) only [AM.RB, Nat.reduceAdd, Nat.reduceMul, Nat.reduceEqDiff, reduceCtorEq, b48_PR3]
      first | rfl | skip
    · exact ⟨Nat.zero_le _, rfl⟩
    rintro t h6 ρ ⟨ht, rfl⟩
    simp (maxSteps := 1000000) (disch := first | omega | (simp only [AM.DB, List.length_set, List.length_map]; first | done | omega)) only [AM.RB, Nat.reduceAdd, Nat.reduceMul, Nat.reduceEqDiff, reduceCtorEq, b48_PR3]
    refine AM.condV_split (fun hltt => ?_) (fun hltt => ?_)
    · have htl : t < P.length := by omega
      obtain ⟨x, hx⟩ : ∃ x, P.getD t 0 = x := ⟨_, rfl⟩
      have hs : hR P c (t + 1) = if x = c then (t : Int) else hR P c t := by rw [hR, hx]
      by_cases ex : x = c
      · rw [if_pos ex] at hs
        (repeat' (first | (simp (maxSteps := 1000000) (disch := first | omega | (simp only [AM.DB, List.length_set, List.length_map]; first | done | omega)) only [AM.RB, Nat.reduceAdd, Nat.reduceMul, Nat.reduceEqDiff, reduceCtorEq, b48_PR3, hP5.ia el_22, Rd.ldi hP5 lk_3, Int.toNat_natCast, hx, decide_eq_true ex, AM.wrap_i64]) | refine AM.build_w ?_))
        exact ⟨t + 1, by omega, ⟨congrArg _ hs.symm, congrArg _ (by omega)⟩, by omega⟩
      · rw [if_neg ex] at hs
        (repeat' (first | (simp (maxSteps := 1000000) (disch := first | omega | (simp only [AM.DB, List.length_set, List.length_map]; first | done | omega)) only [AM.RB, Nat.reduceAdd, Nat.reduceMul, Nat.reduceEqDiff, reduceCtorEq, b48_PR3, hP5.ia el_22, Rd.ldi hP5 lk_3, Int.toNat_natCast, hx, decide_eq_false ex, AM.wrap_i64]) | refine AM.build_w ?_))
        exact ⟨t + 1, by omega, ⟨congrArg _ hs.symm, congrArg _ (by omega)⟩, by omega⟩
    obtain rfl : t = P.length := by omega
    (repeat' (first | (simp (maxSteps := 1000000) (disch := first | omega | (simp only [AM.DB, List.length_set, List.length_map]; first | done | omega)) only [AM.RB, Nat.reduceAdd, Nat.reduceMul, Nat.reduceEqDiff, reduceCtorEq, b48_PR3, g5]) | refine AM.build_w ?_))
    generalize hE_ : AHeap.alloc h6 _ = h7; obtain ⟨g7, fr7, n7, l7⟩ := AM.new_get hE_; clear hE_
    have nx7 := fr7.next
    have lw7 := fr7.low
    refine AM.appends_w ap_22 ap_22 (o5.fr0 fr7) (AM.Rd.whole (n := 1) (c := [.int .i64 (hR P c P.length)]) g7 rfl) rfl (by omega) (AM.fits (by omega) (by omega)) (AM.fits' (by omega)) fun w8 h8 o8 fr8 hid8 => ?_
    obtain ⟨w8a, w8c, rfl⟩ := o8.form
    have nx8 := fr8.next
    have lw8 := fr8.low
    have g58 := fr8.get (g5.fr0 fr7) (fun q => by have := hid5 _ q; omega)
    (repeat' (first | (simp (maxSteps := 1000000) (disch := first | omega | (simp only [AM.DB, List.length_set, List.length_map]; first | done | omega)) only [AM.RB, Nat.reduceAdd, Nat.reduceMul, Nat.reduceEqDiff, reduceCtorEq, b48_PR3, g58]) | refine AM.build_w ?_))
    generalize hE_ : AHeap.put h8 _ _ = h9; obtain ⟨g9, fr9, n9, l9⟩ := AM.put_get hE_ (by omega); clear hE_
    have hid8' : ∀ id, idOf (.slice w8a (c + 1) w8c) id → h4.next ≤ id := fun id q => by
      rcases hid8 id q with q' | q'
      · exact hid5 id q'
      · omega
    (repeat' (first | (simp (maxSteps := 1000000) (disch := first | omega | (simp only [AM.DB, List.length_set, List.length_map]; first | done | omega)) only [AM.RB, Nat.reduceAdd, Nat.reduceMul, Nat.reduceEqDiff, reduceCtorEq, b48_PR3, AM.wrap_i64]) | refine AM.build_w ?_))
    refine ⟨c + 1, by omega, congrArg _ (by omega), by omega, ?_, w8a, w8c, by first | exact g9 | rfl, ?_, hid8'⟩
    · exact ((fr5.trans (fr7.mono fun _ _ q => q.elim)).then fr8 (fun id q1 q2 => by have := hid5 id q2; omega)).trans fr9
    · rw [hoN_succ, List.map_append]
      exact o8.fr fr9 (fun id q e => by have e : id = h1.next := e; have := hid8' id q; omega)
  obtain rfl : c = L.flatten.length := by omega
  have est : (P, hoN P L.flatten.length) = startS L.flatten P := rfl
  have o45 := o4.fr fr5 (fun id q e => by have e : id = h1.next := e; have := hv3 id q; omega)
  have st5 : StO h.next h5 (.agg #[.slice va P.length vc, .slice wa L.flatten.length wc]) (startS L.flatten P) := by
    rw [← est]
    refine ⟨_, _, rfl, o45, ?_, fun id q => ?_, fun id q1 q2 => ?_⟩
    · show Ow h5 _ 1 _ (hoN P L.flatten.length).length _
      rw [hoN_len]; exact o5
    · rcases q with q | q
      · have := hv3 id q; omega
      · have := hid5 id q; omega
    · have := hv3 id q1; have := hid5 id q2; omega
  have g15 := fr5.get g14 (show ¬ h.next = h1.next by omega)
  (repeat' (first | (simp (maxSteps := 1000000) (disch := first | omega | (simp only [AM.DB, List.length_set, List.length_map]; first | done | omega)) only [AM.RB, Nat.reduceAdd, Nat.reduceMul, Nat.reduceEqDiff, reduceCtorEq, b48_PR3, g5]) | refine AM.build_w ?_))
  refine refCheck_w (r.fr0 fr05) G st5.rd (by omega) fun h6 fr6 => ?_
  have nx6 := fr6.next
  have lw6 := fr6.low
  have g16 := g15.fr0 fr6
  have g56 := g5.fr0 fr6
  cases hc : chk L.flatten (startS L.flatten P)
  · rw [hc] at hq
    simp only [Bool.false_eq_true, if_false] at hq
    (repeat' (first | (simp (maxSteps := 1000000) (disch := first | omega | (simp only [AM.DB, List.length_set, List.length_map]; first | done | omega)) only [AM.RB, Nat.reduceAdd, Nat.reduceMul, Nat.reduceEqDiff, reduceCtorEq, b48_PR3, g16]) | refine AM.build_w ?_))
    generalize hE_ : AHeap.put h6 _ _ = h7; obtain ⟨g7, fr7, n7, l7⟩ := AM.put_get hE_ (by omega); clear hE_
    (repeat' (first | (simp (maxSteps := 1000000) (disch := first | omega | (simp only [AM.DB, List.length_set, List.length_map]; first | done | omega)) only [AM.RB, Nat.reduceAdd, Nat.reduceMul, Nat.reduceEqDiff, reduceCtorEq, b48_PR3, g7]) | refine AM.build_w ?_))
    exact hq _ _ _ _ _ _ _ (Fr.fresh (fr05.trans fr6) fr7 (fun id e => by have e : id = h.next := e; omega)) (fun e => by cases e) (fun _ => rfl)
  · rw [hc] at hq
    simp only [if_true] at hq
    (repeat' (first | (simp (maxSteps := 1000000) (disch := first | omega | (simp only [AM.DB, List.length_set, List.length_map]; first | done | omega)) only [AM.RB, Nat.reduceAdd, Nat.reduceMul, Nat.reduceEqDiff, reduceCtorEq, b48_PR3, g16, g56]) | refine AM.build_w ?_))
    generalize hE_ : AHeap.put h6 _ _ = h7; obtain ⟨g7, fr7, n7, l7⟩ := AM.put_get hE_ (by omega); clear hE_
    (repeat' (first | (simp (maxSteps := 1000000) (disch := first | omega | (simp only [AM.DB, List.length_set, List.length_map]; first | done | omega)) only [AM.RB, Nat.reduceAdd, Nat.reduceMul, Nat.reduceEqDiff, reduceCtorEq, b48_PR3, g7]) | refine AM.build_w ?_))
    refine hq _ _ _ _ _ _ _ (Fr.fresh (fr05.trans fr6) fr7 (fun id e => by have e : id = h.next := e; omega)) (fun _ => ?_) (fun e => by cases e)
    obtain ⟨_, _, e, oa, ob, hid, hap⟩ := st5.fr0 fr6
    cases e
    exact ⟨_, _, rfl, oa.fr fr7 (fun id q e => by have e : id = h.next := e; have := hv3 id q; omega), ob.fr fr7 (fun id q e => by have e : id = h.next := e; have := hid5 id q; omega), hid, hap⟩

end Go.Proofs.YtbaohngkapmhlaaDoor

namespace Go.Proofs.YtbaohngkapmhlaaDoor
open Go.AM
set_option maxRecDepth 8000
theorem b52_PR4 : type_of% (And.intro (@AM.alK_some) (And.intro (@al_59) (And.intro (@al_65) (And.intro (@AM.bdV_some) (And.intro (@bd_59) (And.intro (@AM.bin_add) (And.intro (@AM.bin_lss) (And.intro (@AM.bin_neq) (And.intro (@AM.boxK_agg) (And.intro (@AM.boxK_bool) (And.intro (@AM.boxK_func) (And.intro (@AM.boxK_int) (And.intro (@AM.boxK_map) (And.intro (@AM.boxK_pointer) (And.intro (@AM.boxK_slice) (And.intro (@AM.boxK_string) (And.intro (@AM.fillL_cons) (And.intro (@AM.fillL_nil) (And.intro (@AM.fillS_agg) (And.intro (@AM.fillS_bool) (And.intro (@AM.fillS_func) (And.intro (@AM.fillS_int) (And.intro (@AM.fillS_map) (And.intro (@AM.fillS_pointer) (And.intro (@AM.fillS_slice) (And.intro (@AM.fillS_string) (And.intro (@AM.iaO_ok) (And.intro (AM.ia_slice el_70) (And.intro (@AM.ldO_agg) (And.intro (@AM.ldO_one) (And.intro (@AM.ld_ptr) (And.intro (AM.len_slice ul_70) (And.intro (@lk_59) (And.intro (@lk_65) (And.intro (@AM.op_alloc) (And.intro (@AM.op_binOp) (And.intro (@AM.op_box) (And.intro (@AM.op_build) (And.intro (@AM.op_call) (And.intro (@AM.op_indexAddr) (And.intro (@AM.op_len) (And.intro (@AM.op_load) (And.intro (@AM.op_store) (And.intro (@AM.op_unOp) (And.intro (@AM.resL_three) (And.intro (@AM.res_cell) (And.intro (@AM.stO_agg) (And.intro (@AM.stO_bool) (And.intro (@AM.stO_int) (And.intro (@AM.stO_map) (And.intro (@AM.stO_pointer) (And.intro (@AM.stO_slice) (And.intro (@AM.stO_string) (And.intro (@AM.st_ptr) (And.intro (@sz_59) (And.intro (@sz_65) (And.intro (@AM.un_neg) (@AM.un_not)))))))))))))))))))))))))))))))))))))))))))))))))))))))))) := And.intro (@AM.alK_some) (And.intro (@al_59) (And.intro (@al_65) (And.intro (@AM.bdV_some) (And.intro (@bd_59) (And.intro (@AM.bin_add) (And.intro (@AM.bin_lss) (And.intro (@AM.bin_neq) (And.intro (@AM.boxK_agg) (And.intro (@AM.boxK_bool) (And.intro (@AM.boxK_func) (And.intro (@AM.boxK_int) (And.intro (@AM.boxK_map) (And.intro (@AM.boxK_pointer) (And.intro (@AM.boxK_slice) (And.intro (@AM.boxK_string) (And.intro (@AM.fillL_cons) (And.intro (@AM.fillL_nil) (And.intro (@AM.fillS_agg) (And.intro (@AM.fillS_bool) (And.intro (@AM.fillS_func) (And.intro (@AM.fillS_int) (And.intro (@AM.fillS_map) (And.intro (@AM.fillS_pointer) (And.intro (@AM.fillS_slice) (And.intro (@AM.fillS_string) (And.intro (@AM.iaO_ok) (And.intro (AM.ia_slice el_70) (And.intro (@AM.ldO_agg) (And.intro (@AM.ldO_one) (And.intro (@AM.ld_ptr) (And.intro (AM.len_slice ul_70) (And.intro (@lk_59) (And.intro (@lk_65) (And.intro (@AM.op_alloc) (And.intro (@AM.op_binOp) (And.intro (@AM.op_box) (And.intro (@AM.op_build) (And.intro (@AM.op_call) (And.intro (@AM.op_indexAddr) (And.intro (@AM.op_len) (And.intro (@AM.op_load) (And.intro (@AM.op_store) (And.intro (@AM.op_unOp) (And.intro (@AM.resL_three) (And.intro (@AM.res_cell) (And.intro (@AM.stO_agg) (And.intro (@AM.stO_bool) (And.intro (@AM.stO_int) (And.intro (@AM.stO_map) (And.intro (@AM.stO_pointer) (And.intro (@AM.stO_slice) (And.intro (@AM.stO_string) (And.intro (@AM.st_ptr) (And.intro (@sz_59) (And.intro (@sz_65) (And.intro (@AM.un_neg) (@AM.un_not)))))))))))))))))))))))))))))))))))))))))))))))))))))))))


/-- The state behind so many steps. -/
def runK (s : St) (l : List Sp) : Nat → St
  | 0 => s
  | i + 1 => turnS (runK s l i) (l.getD i (0, 0, 0))
theorem runK_len (s : St) (l : List Sp) : ∀ i, (runK s l i).1.length = s.1.length ∧ (runK s l i).2.length = s.2.length
  | 0 => ⟨rfl, rfl⟩
  | i + 1 => by
    have h := runK_len s l i
    have h2 := turnS_len (runK s l i) (l.getD i (0, 0, 0))
    rw [runK]
    exact ⟨h2.1.trans h.1, h2.2.trans h.2⟩
theorem runK_chk {L : List (List UInt8)} {s : St} {l : List Sp} (h : Chk L.flatten s) : ∀ i, (∀ j, j < i → may L (runK s l j) (l.getD j (0, 0, 0)) = true) → Chk L.flatten (runK s l i)
  | 0, _ => h
  | i + 1, hm => (runK_chk h i fun j hj => hm j (by omega)).turn ((may_iff _ _ _).1 (hm i (by omega)))
/-- So far the steps may be. -/
def Runs (L : List (List UInt8)) (s : St) (l : List Sp) (k : Nat) : Prop := k ≤ l.length ∧ (∀ j, j < k → may L (runK s l j) (l.getD j (0, 0, 0)) = true) ∧ (k < l.length → may L (runK s l k) (l.getD k (0, 0, 0)) = false)
set_option maxHeartbeats 8000000 in
theorem run_w {h : AHeap} {p : Nat} {L : List (List UInt8)} {B : Nat → Prop} {v lv : Value} {s : St} {l : List Sp} {k : Nat} (m : Mk h p L B) (f : Fit L) (hw : h.get GW = some (.cells waysC 166 false)) (hgl : GW < h.low) (hl : h.low ≤ h.next) (hs : StR h v s) (hc : chk L.flatten s = true)
    (hlv : Rd h 65 3 lv l.length (l.flatMap encS)) (hll : l.length ≤ 4000000) (hlp : ∀ id, idOf lv id → id ≠ p) (hr : Runs L s l k) {Q : VQ}
    (hq : ∀ a1 m1 c1 a2 m2 c2 h', Mk h' p L B → Fr (fun id => id = p) h h' → StO h.next h' (.agg #[.slice a1 m1 c1, .slice a2 m2 c2]) (runK s l k) → Q (.tuple #[.agg #[.slice a1 m1 c1, .slice a2 m2 c2], .int .i64 k, .int .i64 (if k = l.length then 0 else 250)]) h') : W 52 [pv p, v, lv] h Q := by
  obtain ⟨a, b, rfl, ra, rb⟩ := id hs
  obtain ⟨aa, ac, rfl⟩ := ra.form
  obtain ⟨ba, bc, rfl⟩ := rb.form
  obtain ⟨la, lc, rfl⟩ := hlv.form
  obtain ⟨hk, hall, hend⟩ := hr
  have ch := (chk_iff _ _).1 hc
  have hK := f.k1024
  have hln := ch.ln
  have hl64 := ch.l64
  have hplt := m.lt
  have plow : h.low ≤ p := by obtain ⟨_, _, mm⟩ := m.mp; exact mm.2.2.2.1
  have d00 : decide ((0 : Int) = 0) = true := rfl
  refine AM.enter hp (fn := Tryd.f52) (rs := [.cell 6 59, .tmp 7, .tmp 8]) (nt := 43) (by kernel_rfl) Tryd.func52 rfl rfl rfl (by kernel_rfl) ?_
  simp (maxSteps := 1000000) (disch := first | omega | (simp only [AM.DB, List.length_set, List.length_map]; first | done | omega)) only [AM.RB, Nat.reduceAdd, Nat.reduceMul, Nat.reduceEqDiff, reduceCtorEq, b52_PR4]
  generalize hE_ : AHeap.alloc h _ = h1; obtain ⟨g1, fr1, n1, l1⟩ := AM.new_get hE_; clear hE_
  generalize hE_ : AHeap.alloc h1 _ = h2; obtain ⟨g2, fr2, n2, l2⟩ := AM.new_get hE_; clear hE_
  rw [n1] at g2
  have g12 := g1.fr0 fr2
  have fr02 := fr1.trans fr2
  have nx2 := fr02.next
  have lw2 := fr02.low
  obtain ⟨_, _, mm2⟩ := (m.fr0 fr02).mp
  (repeat' (first | (simp (maxSteps := 1000000) (disch := first | omega | (simp only [AM.DB, List.length_set, List.length_map]; first | done | omega)) only [AM.RB, Nat.reduceAdd, Nat.reduceMul, Nat.reduceEqDiff, reduceCtorEq, b52_PR4, g12]) | refine AM.build_w ?_))
  refine check_w mm2 f (hs.fr0 fr02) (by omega) fun h3 fr3 => ?_
  rw [hc]
  simp only [if_true]
  have fr03 := fr02.trans fr3
  have nx3 := fr3.next
  have lw3 := fr3.low
  have hx_1 := g12.fr0 fr3
  (repeat' (first | (simp (maxSteps := 1000000) (disch := first | omega | (simp only [AM.DB, List.length_set, List.length_map]; first | done | omega)) only [AM.RB, Nat.reduceAdd, Nat.reduceMul, Nat.reduceEqDiff, reduceCtorEq, b52_PR4, d00, hx_1]) | refine AM.build_w ?_))
  refine twin_w (hs.fr0 fr03) (by omega) (by omega) (by omega) fun a1 m1 c1 a2 m2 c2 h4 fr4 st4 => ?_
  have nx4 := fr4.next
  have lw4 := fr4.low
  (repeat' (first | (simp (maxSteps := 1000000) (disch := first | omega | (simp only [AM.DB, List.length_set, List.length_map]; first | done | omega)) only [AM.RB, Nat.reduceAdd, Nat.reduceMul, Nat.reduceEqDiff, reduceCtorEq, b52_PR4]) | refine AM.build_w ?_))
  generalize hE_ : AHeap.put (AHeap.alloc h4 _) _ _ = h5; obtain ⟨g5, fr5, n5, l5⟩ := AM.box_get hE_ (by omega); clear hE_
  have nx5 := fr5.next
  have lw5 := fr5.low
  have lt5 := AM.get_some_lt g5
  have fr05 := (fr03.trans fr4).trans fr5
  have g25 := ((g2.fr0 fr3).fr0 fr4).fr0 fr5
  have m5 := m.fresh fr05
  have hst : ∀ id, idOf (.slice a1 m1 c1) id ∨ idOf (.slice a2 m2 c2) id → h3.next ≤ id ∧ id < h4.next := fun id q => by
    obtain ⟨x1, x2, e, o1, o2, hid, _⟩ := st4
    cases e
    refine ⟨hid id q, ?_⟩
    rcases q with q | q
    · exact o1.lt q
    · exact o2.lt q
  have r5 := hlv.fr0 fr05
  (repeat' (first | (simp (maxSteps := 1000000) (disch := first | omega | (simp only [AM.DB, List.length_set, List.length_map]; first | done | omega)) only [AM.RB, Nat.reduceAdd, Nat.reduceMul, Nat.reduceEqDiff, reduceCtorEq, b52_PR4]) | refine AM.build_w ?_))
  refine AM.loop_w hp 43 (fun i : Nat => [(0, pv p), (2, .slice la l.length lc), (6, pv (h.next + 1)), (10, pv h4.next), (22, .slice la l.length lc), (23, .int .i64 l.length), (24, .int .i64 i)])
    (fun i h' => i ≤ k ∧ Fr (fun id => id = p ∨ idOf (.slice a1 m1 c1) id ∨ idOf (.slice a2 m2 c2) id) h5 h' ∧ Mk h' p L (fun id => B id ∨ (h.next ≤ id ∧ id < h5.next)) ∧ StO h3.next h' (.agg #[.slice a1 m1 c1, .slice a2 m2 c2]) (runK s l i)) (fun i => k - i) (by kernel_rfl) 0 ?_ ?_ ?_
  · simp (maxSteps := 1000000) (disch := first | omega | (simp only [AM.DB, List.length_set, List.length_map]; first | done | omega)) only [AM.RB, Nat.reduceAdd, Nat.reduceMul, Nat.reduceEqDiff, reduceCtorEq, b52_PR4]
    first | rfl | skip
  · exact ⟨Nat.zero_le _, Fr.refl _ _, m5, st4.fr0 fr5⟩
  rintro i h6 ρ ⟨hi, fr6, m6, st6⟩
  have nx6 := fr6.next
  have lw6 := fr6.low
  have g26 := fr6.get g25 (fun q => by rcases q with q | q; omega; have := hst _ q; omega)
  have g56 := fr6.get g5 (fun q => by rcases q with q | q; omega; have := hst _ q; omega)
  have hw6 := fr6.get (hw.fr0 fr05) (fun q => by rcases q with q | q; omega; have := hst _ q; omega)
  have r6 := r5.fr fr6 (fun id q1 q2 => by
    have := hlv.lt q1
    rcases q2 with q2 | q2
    · exact hlp id q1 q2
    · have := hst _ q2; omega)
  have frh6 : Fr (fun id => id = p) h h6 := (fr05.mono fun _ _ q => q.elim).then fr6 (fun id q1 q2 => by
    rcases q2 with q2 | q2
    · exact q2
    · have := hst _ q2; omega)
  have rl := runK_len s l i
  have rch := runK_chk ch i (l := l) (fun j hj => hall j (by omega))
  have stop : ∀ h7, Mk h7 p L (fun id => B id ∨ (h.next ≤ id ∧ id < h5.next)) → Fr (fun id => id = h.next + 1) h6 h7 → Mk h7 p L B ∧ Fr (fun id => id = p) h h7 ∧ StO h.next h7 (.agg #[.slice a1 m1 c1, .slice a2 m2 c2]) (runK s l i) := fun h7 m7 fr7 =>
    ⟨m7.sub fun id q => .inl q, frh6.then fr7 (fun id q1 e => by have e : id = h.next + 1 := e; omega), (st6.fr fr7 (fun id q e => by have e : id = h.next + 1 := e; omega)).weak (by omega)⟩
  simp (maxSteps := 1000000) (disch := first | omega | (simp only [AM.DB, List.length_set, List.length_map]; first | done | omega)) only [AM.RB, Nat.reduceAdd, Nat.reduceMul, Nat.reduceEqDiff, reduceCtorEq, b52_PR4]
  refine AM.condV_split (fun hlt => ?_) (fun hlt => ?_)
  · have hil : i < l.length := by omega
    obtain ⟨x, hx⟩ : ∃ x, l.getD i (0, 0, 0) = x := ⟨_, rfl⟩
    have ld := Rd.lds (f := encS) encS_len r6 lk_65 rfl (0, 0, 0) i hil
    rw [hx] at ld
    (repeat' (first | (simp (maxSteps := 1000000) (disch := first | omega | (simp only [AM.DB, List.length_set, List.length_map]; first | done | omega)) only [AM.RB, Nat.reduceAdd, Nat.reduceMul, Nat.reduceEqDiff, reduceCtorEq, b52_PR4, g56, r6.ia el_70, ld, Int.toNat_natCast]) | refine AM.build_w ?_))
    generalize hE_ : AHeap.put (AHeap.alloc h6 _) _ _ = h7; obtain ⟨g7, fr7, n7, l7⟩ := AM.box_get hE_ (by omega); clear hE_
    have nx7 := fr7.next
    have lw7 := fr7.low
    have g57 := g56.fr0 fr7
    (repeat' (first | (simp (maxSteps := 1000000) (disch := first | omega | (simp only [AM.DB, List.length_set, List.length_map]; first | done | omega)) only [AM.RB, Nat.reduceAdd, Nat.reduceMul, Nat.reduceEqDiff, reduceCtorEq, b52_PR4, g57, g7]) | refine AM.build_w ?_))
    refine pmay_w (m6.fr0 fr7) f (hw6.fr0 fr7) (by omega) (by omega) (st6.rd.fr0 fr7) rch.ln x fun h8 m8 fr8 => ?_
    have nx8 := fr8.next
    have lw8 := fr8.low
    have pl := m6.lt
    have g58 := fr8.get g57 (show ¬ h4.next = p by omega)
    have g28 := fr8.get (g26.fr0 fr7) (show ¬ h.next + 1 = p by omega)
    have g78 := fr8.get g7 (show ¬ h6.next = p by omega)
    have st8 := (st6.fr0 fr7).fr fr8 (fun id q e => by have e : id = p := e; omega)
    cases hm : may L (runK s l i) x
    · have hik : i = k := by
        by_cases e : i = k
        · exact e
        · have := hall i (by omega)
          rw [hx, hm] at this; cases this
      subst hik
      have hne : ¬ i = l.length := by omega
      rw [if_neg hne] at hq
      (repeat' (first | (simp (maxSteps := 1000000) (disch := first | omega | (simp only [AM.DB, List.length_set, List.length_map]; first | done | omega)) only [AM.RB, Nat.reduceAdd, Nat.reduceMul, Nat.reduceEqDiff, reduceCtorEq, b52_PR4, g58, g28]) | refine AM.build_w ?_))
      generalize hE_ : AHeap.put h8 _ _ = h9; obtain ⟨g9, fr9, n9, l9⟩ := AM.put_get hE_ (by omega); clear hE_
      (repeat' (first | (simp (maxSteps := 1000000) (disch := first | omega | (simp only [AM.DB, List.length_set, List.length_map]; first | done | omega)) only [AM.RB, Nat.reduceAdd, Nat.reduceMul, Nat.reduceEqDiff, reduceCtorEq, b52_PR4, g9]) | refine AM.build_w ?_))
      refine hq _ _ _ _ _ _ _ ((m8.frB fr9 (fun id e => .inr (by have e : id = h.next + 1 := e; omega))).sub fun id q => .inl q) (((frh6.trans (fr7.mono fun _ _ q => q.elim)).trans fr8).then fr9 (fun id q1 e => by have e : id = h.next + 1 := e; omega)) ((st8.fr fr9 (fun id q e => by have e : id = h.next + 1 := e; omega)).weak (by omega))
    · have hik : i < k := by
        by_cases e : i < k
        · exact e
        · have : i = k := by omega
          subst this
          have := hend hil
          rw [hx, hm] at this; cases this
      (repeat' (first | (simp (maxSteps := 1000000) (disch := first | omega | (simp only [AM.DB, List.length_set, List.length_map]; first | done | omega)) only [AM.RB, Nat.reduceAdd, Nat.reduceMul, Nat.reduceEqDiff, reduceCtorEq, b52_PR4, g58, g78]) | refine AM.build_w ?_))
      refine turn_w ((may_iff _ _ _).1 hm) rch.ln st8 (by omega) fun h9 st9 fr9 => ?_
      have nx9 := fr9.next
      have lw9 := fr9.low
      (repeat' (first | (simp (maxSteps := 1000000) (disch := first | omega | (simp only [AM.DB, List.length_set, List.length_map]; first | done | omega)) only [AM.RB, Nat.reduceAdd, Nat.reduceMul, Nat.reduceEqDiff, reduceCtorEq, b52_PR4, AM.wrap_i64]) | refine AM.build_w ?_))
      refine ⟨i + 1, by omega, congrArg _ (by omega), by omega, ?_, m8.frB fr9 (fun id q => .inr (by have := hst id q; omega)), by rw [runK, hx]; exact st9⟩
      exact ((fr6.trans (fr7.mono fun _ _ q => q.elim)).trans (fr8.mono fun _ _ q => .inl q)).trans (fr9.mono fun _ _ q => .inr q)
  · have hik : i = k := by omega
    have hkl : k = l.length := by omega
    subst hik
    rw [if_pos hkl] at hq
    (repeat' (first | (simp (maxSteps := 1000000) (disch := first | omega | (simp only [AM.DB, List.length_set, List.length_map]; first | done | omega)) only [AM.RB, Nat.reduceAdd, Nat.reduceMul, Nat.reduceEqDiff, reduceCtorEq, b52_PR4, g56, g26]) | refine AM.build_w ?_))
    generalize hE_ : AHeap.put h6 _ _ = h7; obtain ⟨g7, fr7, n7, l7⟩ := AM.put_get hE_ (by omega); clear hE_
    (repeat' (first | (simp (maxSteps := 1000000) (disch := first | omega | (simp only [AM.DB, List.length_set, List.length_map]; first | done | omega)) only [AM.RB, Nat.reduceAdd, Nat.reduceMul, Nat.reduceEqDiff, reduceCtorEq, b52_PR4, g7]) | refine AM.build_w ?_))
    have := stop _ (m6.frB fr7 (fun id e => .inr (by have e : id = h.next + 1 := e; omega))) fr7
    rw [← hkl]
    exact hq _ _ _ _ _ _ _ this.1 this.2.1 this.2.2

end Go.Proofs.YtbaohngkapmhlaaDoor

namespace Go.Proofs.YtbaohngkapmhlaaDoor
open Go.AM
set_option maxRecDepth 8000
end Go.Proofs.YtbaohngkapmhlaaDoor

namespace Go.Proofs.YtbaohngkapmhlaaDoor
open Go.AM
set_option maxRecDepth 8000
end Go.Proofs.YtbaohngkapmhlaaDoor

namespace Go.Proofs.YtbaohngkapmhlaaDoor
open Go.AM

end Go.Proofs.YtbaohngkapmhlaaDoor

namespace Go.Proofs.YtbaohngkapmhlaaDoor
open Go.AM
set_option maxRecDepth 8000
theorem b38_PC11 : type_of% (And.intro (@AM.bin_gtr) (And.intro (@AM.bin_mul) (And.intro (@AM.bin_neq) (And.intro (@AM.ex_tuple) (And.intro (@AM.op_binOp) (And.intro (@AM.op_call) (And.intro (@AM.op_extract) (And.intro (@AM.op_len) (And.intro (@AM.resL_two) (AM.str_len ul_9)))))))))) := And.intro (@AM.bin_gtr) (And.intro (@AM.bin_mul) (And.intro (@AM.bin_neq) (And.intro (@AM.ex_tuple) (And.intro (@AM.op_binOp) (And.intro (@AM.op_call) (And.intro (@AM.op_extract) (And.intro (@AM.op_len) (And.intro (@AM.resL_two) (AM.str_len ul_9)))))))))


theorem both_w (l : List UInt8) (M : Nat) (hM : M ≤ 1000) {h : AHeap} (hl : h.low ≤ h.next) {Q : VQ}
    (hno : ∀ h', Fr none' h h' → Q (.tuple #[.pointer none, .pointer none]) h')
    (hok : ∀ L p kv q lv h', verd l = .ok L → L.flatten.length ≤ M → Mp h' p kv L.length (L.getD 0 []).length L.flatten tl0 → Rp h' q lv L → Fr none' h h' → h.next ≤ p → (∀ id, idOf kv id → h.next ≤ id) → q ≠ p → (∀ id, idOf lv id → id ≠ p) → Q (.tuple #[pv p, pv q]) h') : W 38 [strV l, .int .i64 M] h Q := by
  have d100 : decide ((10 : Int) = 0) = false := rfl
  have d00 : decide ((0 : Int) = 0) = true := rfl
  refine AM.enter hp (fn := Tryd.f38) (rs := [.tmp 4, .tmp 5]) (nt := 46) (by kernel_rfl) Tryd.func38 rfl rfl rfl (by kernel_rfl) ?_
  by_cases hlen : (2 * M : Int) < l.length
  · (first | (simp (maxSteps := 1000000) (disch := first | omega | (simp only [AM.DB, List.length_set, List.length_map]; first | done | omega)) only [AM.RB, Nat.reduceAdd, Nat.reduceMul, Nat.reduceEqDiff, reduceCtorEq, b38_PC11, AM.wrap_i64, decide_eq_true hlen]) | skip)
    exact hno _ (Fr.refl _ _)
  (first | (simp (maxSteps := 1000000) (disch := first | omega | (simp only [AM.DB, List.length_set, List.length_map]; first | done | omega)) only [AM.RB, Nat.reduceAdd, Nat.reduceMul, Nat.reduceEqDiff, reduceCtorEq, b38_PC11, AM.wrap_i64, decide_eq_false hlen]) | skip)
  refine refV_w l (by omega) hl (fun a' b' hv h1 fr1 => ?_) (fun L hv q lv h1 r1 fr1 hq1 hid1 => ?_)
  · (first | (simp (maxSteps := 1000000) (disch := first | omega | (simp only [AM.DB, List.length_set, List.length_map]; first | done | omega)) only [AM.RB, Nat.reduceAdd, Nat.reduceMul, Nat.reduceEqDiff, reduceCtorEq, b38_PC11, d100]) | skip)
    exact hno _ fr1
  have G := verd_good hv
  have hbd : L.length ≤ 4000000 ∧ (L.getD 0 []).length ≤ 4000000 := by have := G.fit.r32; have := G.fit.c32; omega
  have flen := G.fit.len
  have nx1 := fr1.next
  have lw1 := fr1.low
  (first | (simp (maxSteps := 1000000) (disch := first | omega | (simp only [AM.DB, List.length_set, List.length_map]; first | done | omega)) only [AM.RB, Nat.reduceAdd, Nat.reduceMul, Nat.reduceEqDiff, reduceCtorEq, b38_PC11, d00]) | skip)
  refine refCells_w r1 G.rows hbd ?_
  by_cases hc : (M : Int) < ((L.length * (L.getD 0 []).length : Nat) : Int)
  · (first | (simp (maxSteps := 1000000) (disch := first | omega | (simp only [AM.DB, List.length_set, List.length_map]; first | done | omega)) only [AM.RB, Nat.reduceAdd, Nat.reduceMul, Nat.reduceEqDiff, reduceCtorEq, b38_PC11, decide_eq_true hc]) | skip)
    exact hno _ fr1
  (first | (simp (maxSteps := 1000000) (disch := first | omega | (simp only [AM.DB, List.length_set, List.length_map]; first | done | omega)) only [AM.RB, Nat.reduceAdd, Nat.reduceMul, Nat.reduceEqDiff, reduceCtorEq, b38_PC11, decide_eq_false hc]) | skip)
  refine parseV_w l (by omega) (by omega) (fun a' b' hv' h2 fr2 => by rw [hv] at hv'; cases hv') (fun L' hv' p kv h2 m2 fr2 hp2 hid2 => ?_)
  rw [hv] at hv'
  cases hv'
  (first | (simp (maxSteps := 1000000) (disch := first | omega | (simp only [AM.DB, List.length_set, List.length_map]; first | done | omega)) only [AM.RB, Nat.reduceAdd, Nat.reduceMul, Nat.reduceEqDiff, reduceCtorEq, b38_PC11, d00]) | skip)
  have ltq := AM.get_some_lt r1.1
  exact hok L p kv q lv h2 hv (by omega) m2 (r1.fr0 fr2) (fr1.trans fr2) (by omega) (fun id q => by have := hid2 id q; omega) (by omega) (fun id q => by have := r1.2.1.lt q; omega)

end Go.Proofs.YtbaohngkapmhlaaDoor

namespace Go.Proofs.YtbaohngkapmhlaaDoor
open Go.AM
set_option maxRecDepth 8000
theorem b8_PR5 : type_of% (And.intro (@Option.isNone_none.{0}) (And.intro (@Option.isNone_some.{0}) (And.intro (@AM.alK_some) (And.intro (@al_59) (And.intro (@AM.bin_add) (And.intro (AM.bin_beq ul_4) (And.intro (AM.bin_bne ul_4) (And.intro (@AM.bin_eql) (And.intro (@AM.bin_gtr) (And.intro (@AM.bin_lss) (And.intro (@AM.bin_neq) (And.intro (AM.bin_pnil ul_26) (And.intro (AM.bin_pnil ul_45) (And.intro (@AM.ex_tuple) (And.intro (@AM.iaO_ok) (And.intro (AM.ia_slice el_70) (And.intro (@AM.ldO_agg) (And.intro (@AM.ldO_one) (And.intro (@AM.ld_ptr) (And.intro (AM.len_slice ul_22) (And.intro (AM.len_slice ul_70) (And.intro (@lk_59) (And.intro (@lk_65) (And.intro (@AM.op_alloc) (And.intro (@AM.op_binOp) (And.intro (@AM.op_call) (And.intro (@AM.op_extract) (And.intro (@AM.op_indexAddr) (And.intro (@AM.op_len) (And.intro (@AM.op_load) (And.intro (@AM.op_store) (And.intro (@AM.op_unOp) (And.intro (@AM.stO_agg) (And.intro (@AM.stO_bool) (And.intro (@AM.stO_int) (And.intro (@AM.stO_map) (And.intro (@AM.stO_pointer) (And.intro (@AM.stO_slice) (And.intro (@AM.stO_string) (And.intro (@AM.st_ptr) (And.intro (@sz_59) (And.intro (@AM.un_neg) (@AM.un_not))))))))))))))))))))))))))))))))))))))))))) := And.intro (@Option.isNone_none.{0}) (And.intro (@Option.isNone_some.{0}) (And.intro (@AM.alK_some) (And.intro (@al_59) (And.intro (@AM.bin_add) (And.intro (AM.bin_beq ul_4) (And.intro (AM.bin_bne ul_4) (And.intro (@AM.bin_eql) (And.intro (@AM.bin_gtr) (And.intro (@AM.bin_lss) (And.intro (@AM.bin_neq) (And.intro (AM.bin_pnil ul_26) (And.intro (AM.bin_pnil ul_45) (And.intro (@AM.ex_tuple) (And.intro (@AM.iaO_ok) (And.intro (AM.ia_slice el_70) (And.intro (@AM.ldO_agg) (And.intro (@AM.ldO_one) (And.intro (@AM.ld_ptr) (And.intro (AM.len_slice ul_22) (And.intro (AM.len_slice ul_70) (And.intro (@lk_59) (And.intro (@lk_65) (And.intro (@AM.op_alloc) (And.intro (@AM.op_binOp) (And.intro (@AM.op_call) (And.intro (@AM.op_extract) (And.intro (@AM.op_indexAddr) (And.intro (@AM.op_len) (And.intro (@AM.op_load) (And.intro (@AM.op_store) (And.intro (@AM.op_unOp) (And.intro (@AM.stO_agg) (And.intro (@AM.stO_bool) (And.intro (@AM.stO_int) (And.intro (@AM.stO_map) (And.intro (@AM.stO_pointer) (And.intro (@AM.stO_slice) (And.intro (@AM.stO_string) (And.intro (@AM.st_ptr) (And.intro (@sz_59) (And.intro (@AM.un_neg) (@AM.un_not))))))))))))))))))))))))))))))))))))))))))


theorem runs_from (L : List (List UInt8)) (s : St) (S : List Sp) : ∀ n i, S.length - i = n → i ≤ S.length → (∀ j, j < i → may L (runK s S j) (S.getD j (0, 0, 0)) = true) → ∃ k, Runs L s S k
  | 0, i, e, hi, h => ⟨i, hi, h, fun q => by omega⟩
  | n + 1, i, e, hi, h => by
    cases hm : may L (runK s S i) (S.getD i (0, 0, 0)) with
    | false => exact ⟨i, hi, h, fun _ => hm⟩
    | true =>
      have h' : ∀ j, j < i + 1 → may L (runK s S j) (S.getD j (0, 0, 0)) = true := by
        intro j hj
        by_cases ej : j = i
        · subst ej; exact hm
        · exact h j (by omega)
      exact runs_from L s S n (i + 1) (by omega) (by omega) h'
theorem runs_ex (L : List (List UInt8)) (s : St) (S : List Sp) : ∃ k, Runs L s S k := runs_from L s S S.length 0 (by omega) (by omega) fun j hj => by omega
theorem runs_le {L : List (List UInt8)} {s : St} {S : List Sp} {k i : Nat} (r : Runs L s S k) (hi : i ≤ k) (hl : i < S.length) : may L (runK s S i) (S.getD i (0, 0, 0)) = decide (i < k) := by
  obtain ⟨r1, r2, r3⟩ := r
  by_cases h : i < k
  · rw [r2 i h, decide_eq_true h]
  · obtain rfl : i = k := by omega
    rw [r3 hl, decide_eq_false h]
/-- A state in a box that nothing but it names. -/
def Bx (h : AHeap) (b : Nat) (N : Nat → Prop) (s : St) : Prop := ∃ x1 n1 c1 x2 n2 c2, h.get b = some (.cells [.slice x1 n1 c1, .slice x2 n2 c2] 59 false) ∧ StR h (.agg #[.slice x1 n1 c1, .slice x2 n2 c2]) s ∧ ∀ id, idOf (.slice x1 n1 c1) id ∨ idOf (.slice x2 n2 c2) id → ¬ N id
theorem Bx.fr {h h' : AHeap} {b : Nat} {N T : Nat → Prop} {s : St} (x : Bx h b N s) (fr : Fr T h h') (hb : ¬ T b) (hT : ∀ id, T id → N id) : Bx h' b N s := by
  obtain ⟨x1, n1, c1, x2, n2, c2, g, st, hn⟩ := x
  refine ⟨x1, n1, c1, x2, n2, c2, fr.get g hb, st.frp (fun a b e => ?_) fr, hn⟩
  cases e
  exact ⟨fun id q t => hn id (.inl q) (hT id t), fun id q t => hn id (.inr q) (hT id t)⟩
theorem Bx.fr0 {h h' : AHeap} {b : Nat} {N : Nat → Prop} {s : St} (x : Bx h b N s) (fr : Fr none' h h') : Bx h' b N s := x.fr fr (fun q => q) (fun _ q => q.elim)
theorem stR_nil (h : AHeap) : StR h (.agg #[.slice none 0 0, .slice none 0 0]) ([], []) := ⟨_, _, rfl, AM.Rd.nil _ _ _, AM.Rd.nil _ _ _⟩
theorem chk_nil (K : List UInt8) : chk K ([], []) = false := by
  cases h : chk K ([], []) with
  | false => rfl
  | true => have := ((chk_iff _ _).1 h).l1; exact absurd this (by decide)
set_option maxHeartbeats 16000000 in
theorem runsLaw_w (l : List UInt8) {v lv : Value} {P : List Int} {S : List Sp} {h : AHeap} (hP : Rd h 3 1 v P.length (P.map (.int .i64))) (hS : Rd h 65 3 lv S.length (S.flatMap encS)) (hw0 : h.get GW = some (.cells waysC 166 false)) (hl0 : h.low = h.next) : W 8 [strV l, v, lv] h fun v _ => v = .bool true := by
  have hgl : GW < h.low := by have := AM.get_some_lt hw0; omega
  obtain ⟨pa, pc, rfl⟩ := hP.form
  obtain ⟨sa, sc, rfl⟩ := hS.form
  have d250 : decide ((250 : Int) = 0) = false := rfl
  have d251 : decide ((250 : Int) = 250) = true := rfl
  have d00 : decide ((0 : Int) = 0) = true := rfl
  refine AM.enter hp (fn := Tryd.f8) (rs := [.tmp 6]) (nt := 167) (by kernel_rfl) Tryd.func8 rfl rfl rfl (by kernel_rfl) ?_
  (repeat' (first | (simp (maxSteps := 1000000) (disch := first | omega | (simp only [AM.DB, List.length_set, List.length_map]; first | done | omega)) only [AM.RB, Nat.reduceAdd, Nat.reduceMul, Nat.reduceEqDiff, reduceCtorEq, b8_PR5]) | refine AM.drawW_fine (id := 17) hp (by kernel_rfl) (by kernel_rfl) (by kernel_rfl) ?_ | refine AM.drawW_fine (id := 18) hp (by kernel_rfl) (by kernel_rfl) (by kernel_rfl) ?_ | refine AM.drawW_fine (id := 19) hp (by kernel_rfl) (by kernel_rfl) (by kernel_rfl) ?_ | refine AM.drawW_loose (id := 24) hp (by kernel_rfl) (by kernel_rfl) ?_ | refine AM.opW_tied (by kernel_rfl) ?_ | refine AM.opW_untied (by kernel_rfl) ?_))
  refine both_w l 60 (by omega) (by omega) (fun h3 fr3 => ?_) (fun L p kv q rv h3 hv hcM m3 r3 fr3 hp3 hid3 hqp hlp => ?_)
  · (repeat' (first | (simp (maxSteps := 1000000) (disch := first | omega | (simp only [AM.DB, List.length_set, List.length_map]; first | done | omega)) only [AM.RB, Nat.reduceAdd, Nat.reduceMul, Nat.reduceEqDiff, reduceCtorEq, b8_PR5]) | refine AM.drawW_fine (id := 17) hp (by kernel_rfl) (by kernel_rfl) (by kernel_rfl) ?_ | refine AM.drawW_fine (id := 18) hp (by kernel_rfl) (by kernel_rfl) (by kernel_rfl) ?_ | refine AM.drawW_fine (id := 19) hp (by kernel_rfl) (by kernel_rfl) (by kernel_rfl) ?_ | refine AM.drawW_loose (id := 24) hp (by kernel_rfl) (by kernel_rfl) ?_ | refine AM.opW_tied (by kernel_rfl) ?_ | refine AM.opW_untied (by kernel_rfl) ?_))
  have G := verd_good hv
  have f := G.fit
  by_cases c1 : (10 : Int) < P.length
  · (repeat' (first | (simp (maxSteps := 1000000) (disch := first | omega | (simp only [AM.DB, List.length_set, List.length_map]; first | done | omega)) only [AM.RB, Nat.reduceAdd, Nat.reduceMul, Nat.reduceEqDiff, reduceCtorEq, b8_PR5, decide_eq_true c1]) | refine AM.drawW_fine (id := 17) hp (by kernel_rfl) (by kernel_rfl) (by kernel_rfl) ?_ | refine AM.drawW_fine (id := 18) hp (by kernel_rfl) (by kernel_rfl) (by kernel_rfl) ?_ | refine AM.drawW_fine (id := 19) hp (by kernel_rfl) (by kernel_rfl) (by kernel_rfl) ?_ | refine AM.drawW_loose (id := 24) hp (by kernel_rfl) (by kernel_rfl) ?_ | refine AM.opW_tied (by kernel_rfl) ?_ | refine AM.opW_untied (by kernel_rfl) ?_))
  by_cases c2 : (40 : Int) < S.length
  · (repeat' (first | (simp (maxSteps := 1000000) (disch := first | omega | (simp only [AM.DB, List.length_set, List.length_map]; first | done | omega)) only [AM.RB, Nat.reduceAdd, Nat.reduceMul, Nat.reduceEqDiff, reduceCtorEq, b8_PR5, decide_eq_false c1, decide_eq_true c2]) | refine AM.drawW_fine (id := 17) hp (by kernel_rfl) (by kernel_rfl) (by kernel_rfl) ?_ | refine AM.drawW_fine (id := 18) hp (by kernel_rfl) (by kernel_rfl) (by kernel_rfl) ?_ | refine AM.drawW_fine (id := 19) hp (by kernel_rfl) (by kernel_rfl) (by kernel_rfl) ?_ | refine AM.drawW_loose (id := 24) hp (by kernel_rfl) (by kernel_rfl) ?_ | refine AM.opW_tied (by kernel_rfl) ?_ | refine AM.opW_untied (by kernel_rfl) ?_))
  have nx3 := fr3.next
  have lw3 := fr3.low
  have plt := AM.get_some_lt m3.1
  have k3 : Mk h3 p L (fun id => id < h.next) := Mk.start m3 hp3 hid3 (by omega) (fun id q => q)
  (repeat' (first | (simp (maxSteps := 1000000) (disch := first | omega | (simp only [AM.DB, List.length_set, List.length_map]; first | done | omega)) only [AM.RB, Nat.reduceAdd, Nat.reduceMul, Nat.reduceEqDiff, reduceCtorEq, b8_PR5, decide_eq_false c1, decide_eq_false c2]) | refine AM.drawW_fine (id := 17) hp (by kernel_rfl) (by kernel_rfl) (by kernel_rfl) ?_ | refine AM.drawW_fine (id := 18) hp (by kernel_rfl) (by kernel_rfl) (by kernel_rfl) ?_ | refine AM.drawW_fine (id := 19) hp (by kernel_rfl) (by kernel_rfl) (by kernel_rfl) ?_ | refine AM.drawW_loose (id := 24) hp (by kernel_rfl) (by kernel_rfl) ?_ | refine AM.opW_tied (by kernel_rfl) ?_ | refine AM.opW_untied (by kernel_rfl) ?_))
  refine start_w k3 f (hP.fr0 fr3) (by omega) (by omega) fun a1 m1 e1 a2 m2 e2 h4 k4 fr4 st4 z4 => ?_
  have nx4 := fr4.next
  have lw4 := fr4.low
  (repeat' (first | (simp (maxSteps := 1000000) (disch := first | omega | (simp only [AM.DB, List.length_set, List.length_map]; first | done | omega)) only [AM.RB, Nat.reduceAdd, Nat.reduceMul, Nat.reduceEqDiff, reduceCtorEq, b8_PR5]) | refine AM.drawW_fine (id := 17) hp (by kernel_rfl) (by kernel_rfl) (by kernel_rfl) ?_ | refine AM.drawW_fine (id := 18) hp (by kernel_rfl) (by kernel_rfl) (by kernel_rfl) ?_ | refine AM.drawW_fine (id := 19) hp (by kernel_rfl) (by kernel_rfl) (by kernel_rfl) ?_ | refine AM.drawW_loose (id := 24) hp (by kernel_rfl) (by kernel_rfl) ?_ | refine AM.opW_tied (by kernel_rfl) ?_ | refine AM.opW_untied (by kernel_rfl) ?_))
  generalize hE_ : AHeap.put (AHeap.alloc h4 _) _ _ = h5; obtain ⟨g5, fr5, n5, l5⟩ := AM.box_get hE_ (by omega); clear hE_
  have nx5 := fr5.next
  have lw5 := fr5.low
  have fr35 := fr4.trans fr5
  refine refStart_w (r3.fr0 fr35) G (hP.fr0 (fr3.trans fr35)) (by omega) (by omega) fun b1 u1 d1 b2 u2 d2 h6 fr6 st6 z6 => ?_
  have nx6 := fr6.next
  have lw6 := fr6.low
  have hx_1 := g5.fr0 fr6
  (repeat' (first | (simp (maxSteps := 1000000) (disch := first | omega | (simp only [AM.DB, List.length_set, List.length_map]; first | done | omega)) only [AM.RB, Nat.reduceAdd, Nat.reduceMul, Nat.reduceEqDiff, reduceCtorEq, b8_PR5, hx_1]) | refine AM.drawW_fine (id := 17) hp (by kernel_rfl) (by kernel_rfl) (by kernel_rfl) ?_ | refine AM.drawW_fine (id := 18) hp (by kernel_rfl) (by kernel_rfl) (by kernel_rfl) ?_ | refine AM.drawW_fine (id := 19) hp (by kernel_rfl) (by kernel_rfl) (by kernel_rfl) ?_ | refine AM.drawW_loose (id := 24) hp (by kernel_rfl) (by kernel_rfl) ?_ | refine AM.opW_tied (by kernel_rfl) ?_ | refine AM.opW_untied (by kernel_rfl) ?_))
  generalize hE_ : AHeap.put (AHeap.alloc h6 _) _ _ = h7; obtain ⟨g7, fr7, n7, l7⟩ := AM.box_get hE_ (by omega); clear hE_
  have nx7 := fr7.next
  have lw7 := fr7.low
  have fr37 := (fr35.trans fr6).trans fr7
  have g57 := (g5.fr0 fr6).fr0 fr7
  have k7 := k3.fresh fr37
  have r7 := r3.fr0 fr37
  obtain ⟨s0, hs0⟩ : ∃ s, startS L.flatten P = s := ⟨_, rfl⟩
  rw [hs0] at st4 st6 z4 z6 ⊢
  cases hc : chk L.flatten s0
  · have z4 := z4 hc
    have z6 := z6 hc
    cases z4
    cases z6
    simp only [Bool.false_eq_true, if_false]
    (repeat' (first | (simp (maxSteps := 1000000) (disch := first | omega | (simp only [AM.DB, List.length_set, List.length_map]; first | done | omega)) only [AM.RB, Nat.reduceAdd, Nat.reduceMul, Nat.reduceEqDiff, reduceCtorEq, b8_PR5, g57, g7, eqself]) | refine AM.drawW_fine (id := 17) hp (by kernel_rfl) (by kernel_rfl) (by kernel_rfl) ?_ | refine AM.drawW_fine (id := 18) hp (by kernel_rfl) (by kernel_rfl) (by kernel_rfl) ?_ | refine AM.drawW_fine (id := 19) hp (by kernel_rfl) (by kernel_rfl) (by kernel_rfl) ?_ | refine AM.drawW_loose (id := 24) hp (by kernel_rfl) (by kernel_rfl) ?_ | refine AM.opW_tied (by kernel_rfl) ?_ | refine AM.opW_untied (by kernel_rfl) ?_))
    refine refSame_w (stR_nil _) (stR_nil _) (by decide) (by decide) fun h8 fr8 => ?_
    rw [decide_eq_true (rfl : (([], []) : St) = ([], []))]
    have nx8 := fr8.next
    have lw8 := fr8.low
    obtain ⟨_, _, mm8⟩ := (k7.fr0 fr8).mp
    have hx_2 := g57.fr0 fr8
    (repeat' (first | (simp (maxSteps := 1000000) (disch := first | omega | (simp only [AM.DB, List.length_set, List.length_map]; first | done | omega)) only [AM.RB, Nat.reduceAdd, Nat.reduceMul, Nat.reduceEqDiff, reduceCtorEq, b8_PR5, d250, hx_2]) | refine AM.drawW_fine (id := 17) hp (by kernel_rfl) (by kernel_rfl) (by kernel_rfl) ?_ | refine AM.drawW_fine (id := 18) hp (by kernel_rfl) (by kernel_rfl) (by kernel_rfl) ?_ | refine AM.drawW_fine (id := 19) hp (by kernel_rfl) (by kernel_rfl) (by kernel_rfl) ?_ | refine AM.drawW_loose (id := 24) hp (by kernel_rfl) (by kernel_rfl) ?_ | refine AM.opW_tied (by kernel_rfl) ?_ | refine AM.opW_untied (by kernel_rfl) ?_))
    refine check_w mm8 f (stR_nil _) (by omega) fun h9 fr9 => ?_
    rw [chk_nil]
    (repeat' (first | (simp (maxSteps := 1000000) (disch := first | omega | (simp only [AM.DB, List.length_set, List.length_map]; first | done | omega)) only [AM.RB, Nat.reduceAdd, Nat.reduceMul, Nat.reduceEqDiff, reduceCtorEq, b8_PR5, d251]) | refine AM.drawW_fine (id := 17) hp (by kernel_rfl) (by kernel_rfl) (by kernel_rfl) ?_ | refine AM.drawW_fine (id := 18) hp (by kernel_rfl) (by kernel_rfl) (by kernel_rfl) ?_ | refine AM.drawW_fine (id := 19) hp (by kernel_rfl) (by kernel_rfl) (by kernel_rfl) ?_ | refine AM.drawW_loose (id := 24) hp (by kernel_rfl) (by kernel_rfl) ?_ | refine AM.opW_tied (by kernel_rfl) ?_ | refine AM.opW_untied (by kernel_rfl) ?_))
  have st4 := st4 hc
  have st6 := st6 hc
  have ch := (chk_iff _ _).1 hc
  have hK := f.k1024
  have hln := ch.ln
  have hl64 := ch.l64
  simp only [if_true]
  have st47 := st4.fr0 ((fr5.trans fr6).trans fr7)
  have st67 := st6.fr0 fr7
  (repeat' (first | (simp (maxSteps := 1000000) (disch := first | omega | (simp only [AM.DB, List.length_set, List.length_map]; first | done | omega)) only [AM.RB, Nat.reduceAdd, Nat.reduceMul, Nat.reduceEqDiff, reduceCtorEq, b8_PR5, g57, g7, eqself]) | refine AM.drawW_fine (id := 17) hp (by kernel_rfl) (by kernel_rfl) (by kernel_rfl) ?_ | refine AM.drawW_fine (id := 18) hp (by kernel_rfl) (by kernel_rfl) (by kernel_rfl) ?_ | refine AM.drawW_fine (id := 19) hp (by kernel_rfl) (by kernel_rfl) (by kernel_rfl) ?_ | refine AM.drawW_loose (id := 24) hp (by kernel_rfl) (by kernel_rfl) ?_ | refine AM.opW_tied (by kernel_rfl) ?_ | refine AM.opW_untied (by kernel_rfl) ?_))
  refine refSame_w st47.rd st67.rd (by omega) (by omega) fun h8 fr8 => ?_
  rw [decide_eq_true (rfl : s0 = s0)]
  have nx8 := fr8.next
  have lw8 := fr8.low
  have hx_3 := g57.fr0 fr8
  (repeat' (first | (simp (maxSteps := 1000000) (disch := first | omega | (simp only [AM.DB, List.length_set, List.length_map]; first | done | omega)) only [AM.RB, Nat.reduceAdd, Nat.reduceMul, Nat.reduceEqDiff, reduceCtorEq, b8_PR5, d00, hx_3]) | refine AM.drawW_fine (id := 17) hp (by kernel_rfl) (by kernel_rfl) (by kernel_rfl) ?_ | refine AM.drawW_fine (id := 18) hp (by kernel_rfl) (by kernel_rfl) (by kernel_rfl) ?_ | refine AM.drawW_fine (id := 19) hp (by kernel_rfl) (by kernel_rfl) (by kernel_rfl) ?_ | refine AM.drawW_loose (id := 24) hp (by kernel_rfl) (by kernel_rfl) ?_ | refine AM.opW_tied (by kernel_rfl) ?_ | refine AM.opW_untied (by kernel_rfl) ?_))
  generalize hE_ : AHeap.put (AHeap.alloc h8 _) _ _ = h9; obtain ⟨g9, fr9, n9, l9⟩ := AM.box_get hE_ (by omega); clear hE_
  have nx9 := fr9.next
  have lw9 := fr9.low
  have fr79 := fr8.trans fr9
  have fr39 := fr37.trans fr79
  have k9 := k3.fresh fr39
  have rng4 : ∀ id, idOf (.slice a1 m1 e1) id ∨ idOf (.slice a2 m2 e2) id → h3.next ≤ id ∧ id < h4.next := fun id q => by
    obtain ⟨_, _, e, o1, o2, hid, _⟩ := st4
    cases e
    exact ⟨hid id q, q.elim (fun q => o1.lt q) (fun q => o2.lt q)⟩
  have rng6 : ∀ id, idOf (.slice b1 u1 d1) id ∨ idOf (.slice b2 u2 d2) id → h5.next ≤ id ∧ id < h6.next := fun id q => by
    obtain ⟨_, _, e, o1, o2, hid, _⟩ := st6
    cases e
    exact ⟨hid id q, q.elim (fun q => o1.lt q) (fun q => o2.lt q)⟩
  obtain ⟨N, hN⟩ : ∃ N : Nat → Prop, (fun id => id = p ∨ id = h4.next ∨ id = h6.next) = N := ⟨_, rfl⟩
  have hNi : ∀ id, N id ↔ (id = p ∨ id = h4.next ∨ id = h6.next) := fun id => by rw [← hN]
  have bx13 : Bx h9 h8.next N s0 := ⟨_, _, _, _, _, _, g9, (st47.fr0 fr79).rd, fun id q n => by have := rng4 id q; have := (hNi id).1 n; omega⟩
  have bx9 : Bx h9 h4.next N s0 := ⟨_, _, _, _, _, _, g57.fr0 fr79, (st47.fr0 fr79).rd, fun id q n => by have := rng4 id q; have := (hNi id).1 n; omega⟩
  have bx11 : Bx h9 h6.next N s0 := ⟨_, _, _, _, _, _, g7.fr0 fr79, (st67.fr0 fr79).rd, fun id q n => by have := rng6 id q; have := (hNi id).1 n; omega⟩
  have lt46 : h4.next < h5.next := AM.get_some_lt g5
  have lt67 : h6.next < h7.next := AM.get_some_lt g7
  have lt89 : h8.next < h9.next := AM.get_some_lt g9
  obtain ⟨k, hr⟩ := runs_ex L s0 S
  have hkl := hr.1
  clear g5 g57 g7 g9 st4 st6 st47 st67 z4 z6 k7 fr35 fr37 k4 r7 fr8 fr9 fr7 fr6 fr5
  (repeat' (first | (simp (maxSteps := 1000000) (disch := first | omega | (simp only [AM.DB, List.length_set, List.length_map]; first | done | omega)) only [AM.RB, Nat.reduceAdd, Nat.reduceMul, Nat.reduceEqDiff, reduceCtorEq, b8_PR5]) | refine AM.drawW_fine (id := 17) hp (by kernel_rfl) (by kernel_rfl) (by kernel_rfl) ?_ | refine AM.drawW_fine (id := 18) hp (by kernel_rfl) (by kernel_rfl) (by kernel_rfl) ?_ | refine AM.drawW_fine (id := 19) hp (by kernel_rfl) (by kernel_rfl) (by kernel_rfl) ?_ | refine AM.drawW_loose (id := 24) hp (by kernel_rfl) (by kernel_rfl) ?_ | refine AM.opW_tied (by kernel_rfl) ?_ | refine AM.opW_untied (by kernel_rfl) ?_))
  refine AM.loop_w hp 167 (fun i : Nat => [(2, .slice sa S.length sc), (7, pv p), (8, pv q), (9, pv h4.next), (11, pv h6.next), (13, pv h8.next), (14, .int .i64 i), (71, .int .i64 S.length), (72, .int .i64 i)])
    (fun i h' => i ≤ k ∧ Fr (fun id => id = p) h3 h' ∧ h9.next ≤ h'.next ∧ Mk h' p L (fun id => id < h.next ∨ (h3.next ≤ id ∧ id < h9.next)) ∧ Bx h' h8.next N s0 ∧ Bx h' h4.next N (runK s0 S i) ∧ Bx h' h6.next N (runK s0 S i)) (fun i => k - i) (by kernel_rfl) 0 ?_ ?_ ?_
  · simp (maxSteps := 1000000) (disch := first | omega | (simp only [AM.DB, List.length_set, List.length_map]; first | done | omega)) only [AM.RB, Nat.reduceAdd, Nat.reduceMul, Nat.reduceEqDiff, reduceCtorEq, b8_PR5]
    first | rfl | skip
  · exact ⟨Nat.zero_le _, fr39.mono fun _ _ q => q.elim, Nat.le_refl _, k9, bx13, bx9, bx11⟩
  rintro i hA ρ ⟨hi, fA, nA, kA, bf, bs, bt⟩
  have nxA := fA.next
  have lwA := fA.low
  have frA : Fr none' h hA := Fr.fresh fr3 fA (fun id e => by have e : id = p := e; omega)
  have rA := r3.fr fA hqp hlp
  have hwA := hw0.fr0 frA
  have sA := hS.fr0 frA
  have rl := runK_len s0 S i
  simp (maxSteps := 1000000) (disch := first | omega | (simp only [AM.DB, List.length_set, List.length_map]; first | done | omega)) only [AM.RB, Nat.reduceAdd, Nat.reduceMul, Nat.reduceEqDiff, reduceCtorEq, b8_PR5]
  refine AM.condV_split (fun hlt => ?body) (fun hlt => ?fin)
  case' body =>
    have hil : i < S.length := by omega
    have rch := runK_chk ch i (l := S) (fun j hj => hr.2.1 j (by omega))
    have rck := (chk_iff _ _).2 rch
    obtain ⟨x1, n1, c1', x2, n2, c2', gs, ss, ns⟩ := id bs
    obtain ⟨y1, v1, w1, y2, v2, w2, gt, ts, nt⟩ := id bt
    obtain ⟨x, hx⟩ : ∃ x, S.getD i (0, 0, 0) = x := ⟨_, rfl⟩
    have hmay := runs_le hr hi hil
    rw [hx] at hmay
    have ld := Rd.lds (f := encS) encS_len sA lk_65 rfl (0, 0, 0) i hil
    rw [hx] at ld
    (repeat' (first | (simp (maxSteps := 1000000) (disch := first | omega | (simp only [AM.DB, List.length_set, List.length_map]; first | done | omega)) only [AM.RB, Nat.reduceAdd, Nat.reduceMul, Nat.reduceEqDiff, reduceCtorEq, b8_PR5, gt, sA.ia el_70, ld, Int.toNat_natCast]) | refine AM.drawW_fine (id := 17) hp (by kernel_rfl) (by kernel_rfl) (by kernel_rfl) ?_ | refine AM.drawW_fine (id := 18) hp (by kernel_rfl) (by kernel_rfl) (by kernel_rfl) ?_ | refine AM.drawW_fine (id := 19) hp (by kernel_rfl) (by kernel_rfl) (by kernel_rfl) ?_ | refine AM.drawW_loose (id := 24) hp (by kernel_rfl) (by kernel_rfl) ?_ | refine AM.opW_tied (by kernel_rfl) ?_ | refine AM.opW_untied (by kernel_rfl) ?_))
    refine refDo_w (x := x) rA G ts (by omega) (by omega) (by omega) fun p1 p2 p3 p4 p5 p6 hB frB stB => ?_
    rw [rck, Bool.true_and] at stB ⊢
    have nxB := frB.next
    have lwB := frB.low
    have sB := sA.fr0 frB
    have gsB := gs.fr0 frB
    have hvp : ∀ {u w : Value}, (∀ id, idOf u id ∨ idOf w id → ¬ N id) → ∀ a b, Value.agg #[u, w] = .agg #[a, b] → ∀ id, idOf a id ∨ idOf b id → id ≠ p := fun hn a b e id q => by
      cases e
      exact fun ep => hn id q ((hNi id).2 (.inl ep))
    cases hm : may L (runK s0 S i) x
    all_goals (
      rw [hm] at stB hmay
      (repeat' (first | (simp (maxSteps := 1000000) (disch := first | omega | (simp only [AM.DB, List.length_set, List.length_map]; first | done | omega)) only [AM.RB, Nat.reduceAdd, Nat.reduceMul, Nat.reduceEqDiff, reduceCtorEq, b8_PR5, gsB, sB.ia el_70, Int.toNat_natCast]) | refine AM.drawW_fine (id := 17) hp (by kernel_rfl) (by kernel_rfl) (by kernel_rfl) ?_ | refine AM.drawW_fine (id := 18) hp (by kernel_rfl) (by kernel_rfl) (by kernel_rfl) ?_ | refine AM.drawW_fine (id := 19) hp (by kernel_rfl) (by kernel_rfl) (by kernel_rfl) ?_ | refine AM.drawW_loose (id := 24) hp (by kernel_rfl) (by kernel_rfl) ?_ | refine AM.opW_tied (by kernel_rfl) ?_ | refine AM.opW_untied (by kernel_rfl) ?_))
      generalize hE_ : AHeap.put (AHeap.alloc hB _) _ _ = hC; obtain ⟨gC, frC, nC, lC⟩ := AM.box_get hE_ (by omega); clear hE_
      have nxC := frC.next
      have lwC := frC.low
      have sC := sB.fr0 frC
      have ldC := Rd.lds (f := encS) encS_len sC lk_65 rfl (0, 0, 0) i hil
      rw [hx] at ldC
      have frAC := frB.trans frC
      (repeat' (first | (simp (maxSteps := 1000000) (disch := first | omega | (simp only [AM.DB, List.length_set, List.length_map]; first | done | omega)) only [AM.RB, Nat.reduceAdd, Nat.reduceMul, Nat.reduceEqDiff, reduceCtorEq, b8_PR5, ldC, Int.toNat_natCast]) | refine AM.drawW_fine (id := 17) hp (by kernel_rfl) (by kernel_rfl) (by kernel_rfl) ?_ | refine AM.drawW_fine (id := 18) hp (by kernel_rfl) (by kernel_rfl) (by kernel_rfl) ?_ | refine AM.drawW_fine (id := 19) hp (by kernel_rfl) (by kernel_rfl) (by kernel_rfl) ?_ | refine AM.drawW_loose (id := 24) hp (by kernel_rfl) (by kernel_rfl) ?_ | refine AM.opW_tied (by kernel_rfl) ?_ | refine AM.opW_untied (by kernel_rfl) ?_))
      refine pDo_w (x := x) (kA.fr0 frAC) f (hwA.fr0 frAC) (by omega) (by omega) (ss.fr0 frAC) (hvp ns) (by omega) (by omega) fun q1 q2 q3 q4 q5 q6 hD kD' frD stD => ?_
      have kD := kD'.sub (C := fun id => id < h.next ∨ (h3.next ≤ id ∧ id < h9.next)) (fun id q => .inl q)
      rw [rck, hm] at stD ⊢
      simp only [Bool.true_and, Bool.and_self, Bool.false_eq_true, if_true, if_false] at stD ⊢
      have nxD := frD.next
      have lwD := frD.low
      have frAD := (frAC.mono (T := fun id => id = p) fun _ _ q => q.elim).trans frD
      have gsD := frD.get (gsB.fr0 frC) (show ¬ h4.next = p by omega)
      have sD := sC.fr frD (fun id q1 q2 => by have := hS.lt q1; have q2 : id = p := q2; omega)
      (repeat' (first | (simp (maxSteps := 1000000) (disch := first | omega | (simp only [AM.DB, List.length_set, List.length_map]; first | done | omega)) only [AM.RB, Nat.reduceAdd, Nat.reduceMul, Nat.reduceEqDiff, reduceCtorEq, b8_PR5, d250, d00, gsD, sD.ia el_70, Int.toNat_natCast]) | refine AM.drawW_fine (id := 17) hp (by kernel_rfl) (by kernel_rfl) (by kernel_rfl) ?_ | refine AM.drawW_fine (id := 18) hp (by kernel_rfl) (by kernel_rfl) (by kernel_rfl) ?_ | refine AM.drawW_fine (id := 19) hp (by kernel_rfl) (by kernel_rfl) (by kernel_rfl) ?_ | refine AM.drawW_loose (id := 24) hp (by kernel_rfl) (by kernel_rfl) ?_ | refine AM.opW_tied (by kernel_rfl) ?_ | refine AM.opW_untied (by kernel_rfl) ?_))
      generalize hE_ : AHeap.put (AHeap.alloc hD _) _ _ = hE; obtain ⟨gE, frE, nE, lE⟩ := AM.box_get hE_ (by omega); clear hE_
      have nxE := frE.next
      have lwE := frE.low
      have sE := sD.fr0 frE
      have ldE := Rd.lds (f := encS) encS_len sE lk_65 rfl (0, 0, 0) i hil
      rw [hx] at ldE
      have frAE := frAD.trans (frE.mono fun _ _ q => q.elim)
      have nsT : ∀ {u w : Value}, (∀ id, idOf u id ∨ idOf w id → ¬ N id) → ∀ a b, Value.agg #[u, w] = .agg #[a, b] → (∀ id, idOf a id → ¬ id = p) ∧ ∀ id, idOf b id → ¬ id = p := fun hn a b e => by
        cases e
        exact ⟨fun id q ep => hn id (.inl q) ((hNi id).2 (.inl ep)), fun id q ep => hn id (.inr q) ((hNi id).2 (.inl ep))⟩
      have ssE := ss.frp (nsT ns) frAE
      have hwE := frAE.get hwA (show ¬ GW = p by omega)
      (repeat' (first | (simp (maxSteps := 1000000) (disch := first | omega | (simp only [AM.DB, List.length_set, List.length_map]; first | done | omega)) only [AM.RB, Nat.reduceAdd, Nat.reduceMul, Nat.reduceEqDiff, reduceCtorEq, b8_PR5, ldE, Int.toNat_natCast]) | refine AM.drawW_fine (id := 17) hp (by kernel_rfl) (by kernel_rfl) (by kernel_rfl) ?_ | refine AM.drawW_fine (id := 18) hp (by kernel_rfl) (by kernel_rfl) (by kernel_rfl) ?_ | refine AM.drawW_fine (id := 19) hp (by kernel_rfl) (by kernel_rfl) (by kernel_rfl) ?_ | refine AM.drawW_loose (id := 24) hp (by kernel_rfl) (by kernel_rfl) ?_ | refine AM.opW_tied (by kernel_rfl) ?_ | refine AM.opW_untied (by kernel_rfl) ?_))
      refine pMay_w (x := x) (kD.fr0 frE) f hwE (by omega) (by omega) ssE fun hF kF frF => ?_
      rw [rck, hm]
      simp only [Bool.true_and, Bool.and_self, Bool.false_eq_true, if_true, if_false]
      have nxF := frF.next
      have lwF := frF.low
      have frAF := frAE.trans frF)
    case' false =>
      have hik : i = k := by have := of_decide_eq_false hmay.symm; omega
      have fz := fA.trans frAF
      have kz := kF
      have bfz := bf.fr frAF (show ¬ h8.next = p by omega) (fun id e => (hNi id).2 (.inl e))
      have btz := bt.fr frAF (show ¬ h6.next = p by omega) (fun id e => (hNi id).2 (.inl e))
      (repeat' (first | (simp (maxSteps := 1000000) (disch := first | omega | (simp only [AM.DB, List.length_set, List.length_map]; first | done | omega)) only [AM.RB, Nat.reduceAdd, Nat.reduceMul, Nat.reduceEqDiff, reduceCtorEq, b8_PR5, d250, d251]) | refine AM.drawW_fine (id := 17) hp (by kernel_rfl) (by kernel_rfl) (by kernel_rfl) ?_ | refine AM.drawW_fine (id := 18) hp (by kernel_rfl) (by kernel_rfl) (by kernel_rfl) ?_ | refine AM.drawW_fine (id := 19) hp (by kernel_rfl) (by kernel_rfl) (by kernel_rfl) ?_ | refine AM.drawW_loose (id := 24) hp (by kernel_rfl) (by kernel_rfl) ?_ | refine AM.opW_tied (by kernel_rfl) ?_ | refine AM.opW_untied (by kernel_rfl) ?_))
    rotate_left
    · have hik : i < k := of_decide_eq_true hmay.symm
      have stU := stB rfl
      have stV := stD trivial
      have uId : ∀ id, idOf (.slice p1 p2 p3) id ∨ idOf (.slice p4 p5 p6) id → hA.next ≤ id ∧ id < hB.next := fun id q => by
        obtain ⟨_, _, e, o1, o2, hid, _⟩ := stU
        cases e
        exact ⟨hid id q, q.elim (fun q => o1.lt q) (fun q => o2.lt q)⟩
      have vId : ∀ id, idOf (.slice q1 q2 q3) id ∨ idOf (.slice q4 q5 q6) id → hC.next ≤ id ∧ id < hD.next := fun id q => by
        obtain ⟨_, _, e, o1, o2, hid, _⟩ := stV
        cases e
        exact ⟨hid id q, q.elim (fun q => o1.lt q) (fun q => o2.lt q)⟩
      have uN : ∀ id, idOf (.slice p1 p2 p3) id ∨ idOf (.slice p4 p5 p6) id → ¬ N id := fun id q n => by have := uId id q; have := (hNi id).1 n; omega
      have vN : ∀ id, idOf (.slice q1 q2 q3) id ∨ idOf (.slice q4 q5 q6) id → ¬ N id := fun id q n => by have := vId id q; have := (hNi id).1 n; omega
      have pltA : p < h9.next := by omega
      have ltB : hB.next < hC.next := AM.get_some_lt gC
      have ltD : hD.next < hE.next := AM.get_some_lt gE
      have frCF := (frD.trans (frE.mono fun _ _ q => q.elim)).trans frF
      have frEF := (frE.mono (T := fun id => id = p) fun _ _ q => q.elim).trans frF
      have uF := (stU.rd.fr0 frC).frp (nsT uN) frCF
      have vF := stV.rd.frp (nsT vN) frEF
      have sF := ss.frp (nsT ns) frAF
      have tF := ts.frp (nsT nt) frAF
      have gUF := frCF.get gC (show ¬ hB.next = p by omega)
      have gVF := frF.get gE (show ¬ hD.next = p by omega)
      have gsF := frAF.get gs (show ¬ h4.next = p by omega)
      have gtF := frAF.get gt (show ¬ h6.next = p by omega)
      have tl := turnS_len (runK s0 S i) x
      have dtt : decide (turnS (runK s0 S i) x = turnS (runK s0 S i) x) = true := decide_eq_true rfl
      have drr : decide (runK s0 S i = runK s0 S i) = true := decide_eq_true rfl
      (repeat' (first | (simp (maxSteps := 1000000) (disch := first | omega | (simp only [AM.DB, List.length_set, List.length_map]; first | done | omega)) only [AM.RB, Nat.reduceAdd, Nat.reduceMul, Nat.reduceEqDiff, reduceCtorEq, b8_PR5, d00, gUF, gVF]) | refine AM.drawW_fine (id := 17) hp (by kernel_rfl) (by kernel_rfl) (by kernel_rfl) ?_ | refine AM.drawW_fine (id := 18) hp (by kernel_rfl) (by kernel_rfl) (by kernel_rfl) ?_ | refine AM.drawW_fine (id := 19) hp (by kernel_rfl) (by kernel_rfl) (by kernel_rfl) ?_ | refine AM.drawW_loose (id := 24) hp (by kernel_rfl) (by kernel_rfl) ?_ | refine AM.opW_tied (by kernel_rfl) ?_ | refine AM.opW_untied (by kernel_rfl) ?_))
      refine refSame_w uF vF (by omega) (by omega) fun hG frG => ?_
      rw [dtt]
      have hx_4 := gsF.fr0 frG
      have hx_5 := gtF.fr0 frG
      (repeat' (first | (simp (maxSteps := 1000000) (disch := first | omega | (simp only [AM.DB, List.length_set, List.length_map]; first | done | omega)) only [AM.RB, Nat.reduceAdd, Nat.reduceMul, Nat.reduceEqDiff, reduceCtorEq, b8_PR5, hx_4, hx_5]) | refine AM.drawW_fine (id := 17) hp (by kernel_rfl) (by kernel_rfl) (by kernel_rfl) ?_ | refine AM.drawW_fine (id := 18) hp (by kernel_rfl) (by kernel_rfl) (by kernel_rfl) ?_ | refine AM.drawW_fine (id := 19) hp (by kernel_rfl) (by kernel_rfl) (by kernel_rfl) ?_ | refine AM.drawW_loose (id := 24) hp (by kernel_rfl) (by kernel_rfl) ?_ | refine AM.opW_tied (by kernel_rfl) ?_ | refine AM.opW_untied (by kernel_rfl) ?_))
      refine refSame_w (sF.fr0 frG) (tF.fr0 frG) (by omega) (by omega) fun hH frH => ?_
      rw [drr]
      have frFH := frG.trans frH
      have hx_6 := gUF.fr0 frFH
      have hx_7 := gVF.fr0 frFH
      (repeat' (first | (simp (maxSteps := 1000000) (disch := first | omega | (simp only [AM.DB, List.length_set, List.length_map]; first | done | omega)) only [AM.RB, Nat.reduceAdd, Nat.reduceMul, Nat.reduceEqDiff, reduceCtorEq, b8_PR5, hx_6, hx_7]) | refine AM.drawW_fine (id := 17) hp (by kernel_rfl) (by kernel_rfl) (by kernel_rfl) ?_ | refine AM.drawW_fine (id := 18) hp (by kernel_rfl) (by kernel_rfl) (by kernel_rfl) ?_ | refine AM.drawW_fine (id := 19) hp (by kernel_rfl) (by kernel_rfl) (by kernel_rfl) ?_ | refine AM.drawW_loose (id := 24) hp (by kernel_rfl) (by kernel_rfl) ?_ | refine AM.opW_tied (by kernel_rfl) ?_ | refine AM.opW_untied (by kernel_rfl) ?_))
      refine psame_w (uF.fr0 frFH) (vF.fr0 frFH) (by omega) (by omega) fun hI frI => ?_
      rw [dtt]
      have frFI := frFH.trans frI
      have nxI := frFI.next
      have lwI := frFI.low
      have gUI := gUF.fr0 frFI
      have gVI := gVF.fr0 frFI
      have gsI := gsF.fr0 frFI
      have gtI := gtF.fr0 frFI
      have uI := uF.fr0 frFI
      have vI := vF.fr0 frFI
      (repeat' (first | (simp (maxSteps := 1000000) (disch := first | omega | (simp only [AM.DB, List.length_set, List.length_map]; first | done | omega)) only [AM.RB, Nat.reduceAdd, Nat.reduceMul, Nat.reduceEqDiff, reduceCtorEq, b8_PR5, gUI, gVI, gsI, gtI]) | refine AM.drawW_fine (id := 17) hp (by kernel_rfl) (by kernel_rfl) (by kernel_rfl) ?_ | refine AM.drawW_fine (id := 18) hp (by kernel_rfl) (by kernel_rfl) (by kernel_rfl) ?_ | refine AM.drawW_fine (id := 19) hp (by kernel_rfl) (by kernel_rfl) (by kernel_rfl) ?_ | refine AM.drawW_loose (id := 24) hp (by kernel_rfl) (by kernel_rfl) ?_ | refine AM.opW_tied (by kernel_rfl) ?_ | refine AM.opW_untied (by kernel_rfl) ?_))
      generalize hE_ : AHeap.put hI _ _ = hJ; obtain ⟨gJ, frJ, nJ, lJ⟩ := AM.put_get hE_ (by omega); clear hE_
      generalize hE_ : AHeap.put hJ _ _ = hK; obtain ⟨gK, frK, nK, lK⟩ := AM.put_get hE_ (by omega); clear hE_
      have gUJ := frJ.get gUI (show ¬ hB.next = h4.next by omega)
      have gUK := frK.get gUJ (show ¬ hB.next = h6.next by omega)
      obtain ⟨w1, w2, ew, rw1, rw2⟩ := id uI
      cases ew
      refine ⟨AM.looseOk_by [(1, [0, 3])] (by kernel_rfl) ?_, ?_⟩
      · simp (maxSteps := 1000000) (disch := first | omega | (simp only [AM.DB, List.length_set, List.length_map]; first | done | omega)) only [AM.RB, Nat.reduceAdd, Nat.reduceMul, Nat.reduceEqDiff, reduceCtorEq, b8_PR5]
        all_goals ((repeat' apply And.intro) <;> (first | (refine AM.stable_len _ _ _ _ _ _ (fun _ => ?_); (simp (maxSteps := 1000000) (disch := first | omega | (simp only [AM.DB, List.length_set, List.length_map]; first | done | omega)) only [AM.RB, Nat.reduceAdd, Nat.reduceMul, Nat.reduceEqDiff, reduceCtorEq, b8_PR5, gUI, gUJ, gUK])) | (refine AM.stable_load _ _ _ _ _ _ ?_; (first | (simp (maxSteps := 1000000) (disch := first | omega | (simp only [AM.DB, List.length_set, List.length_map]; first | done | omega)) only [AM.RB, Nat.reduceAdd, Nat.reduceMul, Nat.reduceEqDiff, reduceCtorEq, b8_PR5, gUI, gUJ, gUK]) | skip); (first | (refine AM.stabL_agg2 rw1 rw2 (by omega) (by omega) ?_; (simp (maxSteps := 1000000) (disch := first | omega | (simp only [AM.DB, List.length_set, List.length_map]; first | done | omega)) only [AM.RB, Nat.reduceAdd, Nat.reduceMul, Nat.reduceEqDiff, reduceCtorEq, b8_PR5, gUI, gUJ, gUK])) | (refine AM.stabL_int (by omega) ?_; (simp (maxSteps := 1000000) (disch := first | omega | (simp only [AM.DB, List.length_set, List.length_map]; first | done | omega)) only [AM.RB, Nat.reduceAdd, Nat.reduceMul, Nat.reduceEqDiff, reduceCtorEq, b8_PR5, gUI, gUJ, gUK])) | (refine AM.stabL_ptr (by omega) (by omega) ?_; (simp (maxSteps := 1000000) (disch := first | omega | (simp only [AM.DB, List.length_set, List.length_map]; first | done | omega)) only [AM.RB, Nat.reduceAdd, Nat.reduceMul, Nat.reduceEqDiff, reduceCtorEq, b8_PR5, gUI, gUJ, gUK])) | (refine AM.stabL_string (by omega) ?_; (simp (maxSteps := 1000000) (disch := first | omega | (simp only [AM.DB, List.length_set, List.length_map]; first | done | omega)) only [AM.RB, Nat.reduceAdd, Nat.reduceMul, Nat.reduceEqDiff, reduceCtorEq, b8_PR5, gUI, gUJ, gUK])) | (refine AM.stabL_bool (by omega) ?_; (simp (maxSteps := 1000000) (disch := first | omega | (simp only [AM.DB, List.length_set, List.length_map]; first | done | omega)) only [AM.RB, Nat.reduceAdd, Nat.reduceMul, Nat.reduceEqDiff, reduceCtorEq, b8_PR5, gUI, gUJ, gUK]))))))
      have frFK : Fr (fun id => id = h4.next ∨ id = h6.next) hF hK := ((frFI.mono fun _ _ q => q.elim).trans (frJ.mono fun _ _ q => .inl q)).trans (frK.mono fun _ _ q => .inr q)
      have frIK : Fr (fun id => id = h4.next ∨ id = h6.next) hI hK := (frJ.mono fun _ _ q => .inl q).trans (frK.mono fun _ _ q => .inr q)
      have nsB : ∀ {u w : Value}, (∀ id, idOf u id ∨ idOf w id → ¬ N id) → ∀ a b, Value.agg #[u, w] = .agg #[a, b] → (∀ id, idOf a id → ¬ (id = h4.next ∨ id = h6.next)) ∧ ∀ id, idOf b id → ¬ (id = h4.next ∨ id = h6.next) := fun hn a b e => by
        cases e
        exact ⟨fun id q ep => hn id (.inl q) ((hNi id).2 (.inr ep)), fun id q ep => hn id (.inr q) ((hNi id).2 (.inr ep))⟩
      have bs' : Bx hK h4.next N (runK s0 S (i + 1)) := ⟨_, _, _, _, _, _, frK.get gJ (show ¬ h4.next = h6.next by omega), by rw [runK, hx]; exact vI.frp (nsB vN) frIK, vN⟩
      have bt' : Bx hK h6.next N (runK s0 S (i + 1)) := ⟨_, _, _, _, _, _, gK, by rw [runK, hx]; exact uI.frp (nsB uN) frIK, uN⟩
      have bf' : Bx hK h8.next N s0 := (bf.fr frAF (show ¬ h8.next = p by omega) (fun id e => (hNi id).2 (.inl e))).fr frFK (fun q => by omega) (fun id e => (hNi id).2 (.inr e))
      have kK := kF.frB frFK (fun id e => .inr (by omega))
      have fK : Fr (fun id => id = p) h3 hK := (fA.trans frAF).then frFK (fun id q e => by omega)
      (repeat' (first | (simp (maxSteps := 1000000) (disch := first | omega | (simp only [AM.DB, List.length_set, List.length_map]; first | done | omega)) only [AM.RB, Nat.reduceAdd, Nat.reduceMul, Nat.reduceEqDiff, reduceCtorEq, b8_PR5, AM.wrap_i64]) | refine AM.drawW_fine (id := 17) hp (by kernel_rfl) (by kernel_rfl) (by kernel_rfl) ?_ | refine AM.drawW_fine (id := 18) hp (by kernel_rfl) (by kernel_rfl) (by kernel_rfl) ?_ | refine AM.drawW_fine (id := 19) hp (by kernel_rfl) (by kernel_rfl) (by kernel_rfl) ?_ | refine AM.drawW_loose (id := 24) hp (by kernel_rfl) (by kernel_rfl) ?_ | refine AM.opW_tied (by kernel_rfl) ?_ | refine AM.opW_untied (by kernel_rfl) ?_))
      exact ⟨i + 1, by omega, ⟨congrArg _ (by omega), congrArg _ (by omega)⟩, by omega, fK, by have := frFK.next; omega, kK, bf', bs', bt'⟩
  case' fin =>
    have hik : i = k := by omega
    have fz := fA
    have kz := kA
    have bfz := bf
    have btz := bt
  all_goals (
    subst hik
    have nz := fz.next
    have lz := fz.low
    have frz := Fr.fresh fr3 fz (fun id e => by have e : id = p := e; omega)
    obtain ⟨f1, f2, f3, f4, f5, f6, gf, sf, nf⟩ := bfz
    obtain ⟨t1, t2, t3, t4, t5, t6, gtz, tz, ntz⟩ := btz
    have Sz := hS.fr0 frz
    (repeat' (first | (simp (maxSteps := 1000000) (disch := first | omega | (simp only [AM.DB, List.length_set, List.length_map]; first | done | omega)) only [AM.RB, Nat.reduceAdd, Nat.reduceMul, Nat.reduceEqDiff, reduceCtorEq, b8_PR5, gf]) | refine AM.drawW_fine (id := 17) hp (by kernel_rfl) (by kernel_rfl) (by kernel_rfl) ?_ | refine AM.drawW_fine (id := 18) hp (by kernel_rfl) (by kernel_rfl) (by kernel_rfl) ?_ | refine AM.drawW_fine (id := 19) hp (by kernel_rfl) (by kernel_rfl) (by kernel_rfl) ?_ | refine AM.drawW_loose (id := 24) hp (by kernel_rfl) (by kernel_rfl) ?_ | refine AM.opW_tied (by kernel_rfl) ?_ | refine AM.opW_untied (by kernel_rfl) ?_))
    refine run_w (s := s0) (l := S) (k := i) kz f (hw0.fr0 frz) (by omega) (by omega) sf hc Sz (by omega) (fun id q => by have := hS.lt q; omega) hr fun y1 y2 y3 y4 y5 y6 hy ky fry sty => ?_
    have nxy := fry.next
    have lwy := fry.low
    have gty := fry.get gtz (show ¬ h6.next = p by omega)
    have ty := tz.frp (fun a b e => by
      cases e
      exact ⟨fun id q ep => ntz id (.inl q) ((hNi id).2 (.inl ep)), fun id q ep => ntz id (.inr q) ((hNi id).2 (.inl ep))⟩) fry
    have dk : decide ((i : Int) = i) = true := decide_eq_true rfl
    have drr : decide (runK s0 S i = runK s0 S i) = true := decide_eq_true rfl
    have rlz := runK_len s0 S i
    by_cases ek : i = S.length
    · first
      | (exfalso; omega)
      | (have dk2 : decide ((i : Int) = S.length) = true := decide_eq_true (by omega)
         rw [if_pos ek]
         (repeat' (first | (simp (maxSteps := 1000000) (disch := first | omega | (simp only [AM.DB, List.length_set, List.length_map]; first | done | omega)) only [AM.RB, Nat.reduceAdd, Nat.reduceMul, Nat.reduceEqDiff, reduceCtorEq, b8_PR5, dk, dk2, d00, gty]) | refine AM.drawW_fine (id := 17) hp (by kernel_rfl) (by kernel_rfl) (by kernel_rfl) ?_ | refine AM.drawW_fine (id := 18) hp (by kernel_rfl) (by kernel_rfl) (by kernel_rfl) ?_ | refine AM.drawW_fine (id := 19) hp (by kernel_rfl) (by kernel_rfl) (by kernel_rfl) ?_ | refine AM.drawW_loose (id := 24) hp (by kernel_rfl) (by kernel_rfl) ?_ | refine AM.opW_tied (by kernel_rfl) ?_ | refine AM.opW_untied (by kernel_rfl) ?_))
         generalize hE_ : AHeap.put (AHeap.alloc hy _) _ _ = hyy; obtain ⟨gyy, fryy, nyy, lyy⟩ := AM.box_get hE_ (by omega); clear hE_
         refine refSame_w (sty.rd.fr0 fryy) (ty.fr0 fryy) (by omega) (by omega) fun hq frq => ?_
         rw [drr]
         (repeat' (first | (simp (maxSteps := 1000000) (disch := first | omega | (simp only [AM.DB, List.length_set, List.length_map]; first | done | omega)) only [AM.RB, Nat.reduceAdd, Nat.reduceMul, Nat.reduceEqDiff, reduceCtorEq, b8_PR5]) | refine AM.drawW_fine (id := 17) hp (by kernel_rfl) (by kernel_rfl) (by kernel_rfl) ?_ | refine AM.drawW_fine (id := 18) hp (by kernel_rfl) (by kernel_rfl) (by kernel_rfl) ?_ | refine AM.drawW_fine (id := 19) hp (by kernel_rfl) (by kernel_rfl) (by kernel_rfl) ?_ | refine AM.drawW_loose (id := 24) hp (by kernel_rfl) (by kernel_rfl) ?_ | refine AM.opW_tied (by kernel_rfl) ?_ | refine AM.opW_untied (by kernel_rfl) ?_)))
    · first
      | (exfalso; omega)
      | (have dk2 : decide ((i : Int) = S.length) = false := decide_eq_false (by omega)
         rw [if_neg ek]
         (repeat' (first | (simp (maxSteps := 1000000) (disch := first | omega | (simp only [AM.DB, List.length_set, List.length_map]; first | done | omega)) only [AM.RB, Nat.reduceAdd, Nat.reduceMul, Nat.reduceEqDiff, reduceCtorEq, b8_PR5, dk, dk2, d250, gty]) | refine AM.drawW_fine (id := 17) hp (by kernel_rfl) (by kernel_rfl) (by kernel_rfl) ?_ | refine AM.drawW_fine (id := 18) hp (by kernel_rfl) (by kernel_rfl) (by kernel_rfl) ?_ | refine AM.drawW_fine (id := 19) hp (by kernel_rfl) (by kernel_rfl) (by kernel_rfl) ?_ | refine AM.drawW_loose (id := 24) hp (by kernel_rfl) (by kernel_rfl) ?_ | refine AM.opW_tied (by kernel_rfl) ?_ | refine AM.opW_untied (by kernel_rfl) ?_))
         generalize hE_ : AHeap.put (AHeap.alloc hy _) _ _ = hyy; obtain ⟨gyy, fryy, nyy, lyy⟩ := AM.box_get hE_ (by omega); clear hE_
         refine refSame_w (sty.rd.fr0 fryy) (ty.fr0 fryy) (by omega) (by omega) fun hq frq => ?_
         rw [drr]
         (repeat' (first | (simp (maxSteps := 1000000) (disch := first | omega | (simp only [AM.DB, List.length_set, List.length_map]; first | done | omega)) only [AM.RB, Nat.reduceAdd, Nat.reduceMul, Nat.reduceEqDiff, reduceCtorEq, b8_PR5]) | refine AM.drawW_fine (id := 17) hp (by kernel_rfl) (by kernel_rfl) (by kernel_rfl) ?_ | refine AM.drawW_fine (id := 18) hp (by kernel_rfl) (by kernel_rfl) (by kernel_rfl) ?_ | refine AM.drawW_fine (id := 19) hp (by kernel_rfl) (by kernel_rfl) (by kernel_rfl) ?_ | refine AM.drawW_loose (id := 24) hp (by kernel_rfl) (by kernel_rfl) ?_ | refine AM.opW_tied (by kernel_rfl) ?_ | refine AM.opW_untied (by kernel_rfl) ?_))))

end Go.Proofs.YtbaohngkapmhlaaDoor
