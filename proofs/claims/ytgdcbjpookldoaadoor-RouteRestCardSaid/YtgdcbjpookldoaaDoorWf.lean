/- Walks of this claim's functions, and plain laws. -/
import Derived.Test.YtgdcbjpookldoaaDoorWe
set_option linter.unusedSimpArgs false
set_option linter.unusedVariables false
namespace Go.Proofs.YtgdcbjpookldoaaDoor
open Go.AM
set_option maxRecDepth 8000
theorem b6_RT21 : type_of% (And.intro (@AM.bin_add) (And.intro (@AM.bin_eql) (And.intro (@AM.bin_geq) (And.intro (@AM.bin_gtr) (And.intro (@AM.bin_leq) (And.intro (@AM.bin_lss) (And.intro (@AM.bin_neq) (And.intro (AM.bsW_int bs_22) (And.intro (AM.bsW_nil bs_22) (And.intro (AM.bsW_slice bs_22) (And.intro (AM.bsW_string bs_22) (And.intro (@AM.ex_tuple) (And.intro (@AM.iaO_ok) (And.intro (AM.ia_slice el_22) (And.intro (@AM.ldO_agg) (And.intro (@AM.ldO_one) (And.intro (@AM.ld_ptr) (And.intro (AM.len_slice ul_22) (And.intro (@lk_3) (And.intro (@AM.op_append) (And.intro (@AM.op_binOp) (And.intro (@AM.op_buildSlice) (And.intro (@AM.op_call) (And.intro (@AM.op_extract) (And.intro (@AM.op_indexAddr) (And.intro (@AM.op_len) (And.intro (@AM.op_load) (And.intro (@AM.op_slice) (And.intro (@AM.op_unOp) (And.intro (AM.str_len ul_9) (And.intro (@AM.un_neg) (@AM.un_not)))))))))))))))))))))))))))))))) := And.intro (@AM.bin_add) (And.intro (@AM.bin_eql) (And.intro (@AM.bin_geq) (And.intro (@AM.bin_gtr) (And.intro (@AM.bin_leq) (And.intro (@AM.bin_lss) (And.intro (@AM.bin_neq) (And.intro (AM.bsW_int bs_22) (And.intro (AM.bsW_nil bs_22) (And.intro (AM.bsW_slice bs_22) (And.intro (AM.bsW_string bs_22) (And.intro (@AM.ex_tuple) (And.intro (@AM.iaO_ok) (And.intro (AM.ia_slice el_22) (And.intro (@AM.ldO_agg) (And.intro (@AM.ldO_one) (And.intro (@AM.ld_ptr) (And.intro (AM.len_slice ul_22) (And.intro (@lk_3) (And.intro (@AM.op_append) (And.intro (@AM.op_binOp) (And.intro (@AM.op_buildSlice) (And.intro (@AM.op_call) (And.intro (@AM.op_extract) (And.intro (@AM.op_indexAddr) (And.intro (@AM.op_len) (And.intro (@AM.op_load) (And.intro (@AM.op_slice) (And.intro (@AM.op_unOp) (And.intro (AM.str_len ul_9) (And.intro (@AM.un_neg) (@AM.un_not)))))))))))))))))))))))))))))))


theorem rd_from {h : AHeap} {s : Value} {n : Nat} {X : List Int} (x : Rd h 3 1 s n (X.map (.int .i64))) (h0 : 0 < n) (i : Nat) (hi : i ≤ n) : ∃ v, AM.aSliceH Tryd.prog h 22 s (some (.int .i64 (i : Int))) none none = some v ∧ Rd h 3 1 v (n - i) ((X.drop i).map (.int .i64)) := by
  rcases x with ⟨_, q, _⟩ | ⟨id, off, cap, c, e', o, rfl, hnc, hg, hf, hd, he⟩
  · omega
  obtain rfl : e' = 3 := he.resolve_left (by omega)
  refine ⟨.slice (some ⟨id, off + i * 1, none⟩) (n - i) (cap - i), ?_, ?_⟩
  · rw [AM.slc el_22 hg, AM.slbs_lo (AM.slb (by omega) (by omega))]
    rw [Int.toNat_natCast]; rfl
  · refine .inr ⟨id, off + i * 1, cap - i, c, 3, o, rfl, by omega, hg, by omega, ?_, .inr rfl⟩
    rw [List.map_drop, ← hd, List.drop_take, List.drop_drop]
    rw [show n * 1 - i = (n - i) * 1 by omega, Nat.mul_one i]
theorem find_zero {L : List (List UInt8)} (f : Fit L) {B : List Int} {fr to b : Int} (hbig : (L.flatten.length : Int) ≤ b) (h : (findR L B fr to b).2 = 0) : bothF L fr to ∧ ∃ D : Nat, findR L B fr to b = (pathL L (dtoL L B fr to) fr D, 0) ∧ outB B fr to = false ∧ (dtoL L B fr to).getD fr.toNat 0 = D ∧ isD (nbB L B fr) to fr D := by
  by_cases hb : bothF L fr to
  · refine ⟨hb, ?_⟩
    rcases find_cases (B := B) f hb hbig with ⟨e, _⟩ | e
    · rw [e] at h; cases h
    · exact e
  · unfold findR at h; rw [if_pos hb] at h; cases h
/-- Those of a list that are far. -/
def farM (L : List (List UInt8)) (fr : Int) (D : Nat) (M : List Int) : List Int := M.filter fun x => decide (((D : Int) + 1) ≤ farL L fr x)
theorem farM_succ {L : List (List UInt8)} {fr : Int} {D : Nat} {M : List Int} {i : Nat} (hi : i < M.length) : farM L fr D (M.take (i + 1)) = farM L fr D (M.take i) ++ if ((D : Int) + 1) ≤ farL L fr (M.getD i 0) then [M.getD i 0] else [] := by
  unfold farM
  have e : M.getD i 0 = M[i] := by simp [List.getD, hi]
  rw [List.take_succ_eq_append_getElem hi, List.filter_append, e]
  by_cases h : ((D : Int) + 1) ≤ farL L fr M[i]
  · rw [if_pos h]; congr 1; exact List.filter_cons_of_pos (by simpa using h)
  · rw [if_neg h]; congr 1; exact List.filter_cons_of_neg (by simpa using h)

set_option maxHeartbeats 16000000 in
theorem restLaw_w (l : List UInt8) (hs : l.length ≤ 9223372036854775807) (fr to : Int) {vb vm : Value} {B M : List Int} {h : AHeap} (hB : Rd h 3 1 vb B.length (B.map (.int .i64))) (hM : Rd h 3 1 vm M.length (M.map (.int .i64))) (hw0 : h.get GW = some (.cells waysC 123 false)) (hl0 : h.low = h.next) : W 6 [strV l, .int .i64 fr, .int .i64 to, vb, vm] h fun v _ => v = .bool true := by
  have hgl : GW < h.low := by have := AM.get_some_lt hw0; omega
  obtain ⟨ba, bc, rfl⟩ := hB.form
  obtain ⟨ma, mc, rfl⟩ := hM.form
  have d00 : decide ((0 : Int) = 0) = true := rfl
  have d100 : decide ((10 : Int) = 0) = false := rfl
  refine AM.enter hp (fn := Tryd.f6) (rs := [.tmp 10]) (nt := 170) (by kernel_rfl) Tryd.func6 rfl rfl rfl (by kernel_rfl) ?_
  (repeat' (first | (simp (maxSteps := 1000000) (disch := first | omega | (simp only [AM.DB, List.length_set, List.length_map]; first | done | omega)) only [AM.RB, Nat.reduceAdd, Nat.reduceMul, Nat.reduceEqDiff, reduceCtorEq, b6_RT21]) | refine AM.drawW_loose (id := 11) hp (by kernel_rfl) (by kernel_rfl) ?_ | refine AM.opW_tied (by kernel_rfl) ?_ | refine AM.opW_untied (by kernel_rfl) ?_))
  refine alive4_w hw0 hgl (by omega) fun h0 fr0 => ?_
  have hw00 := hw0.fr0 fr0
  have lw0 := fr0.low
  have nx0 := fr0.next
  (repeat' (first | (simp (maxSteps := 1000000) (disch := first | omega | (simp only [AM.DB, List.length_set, List.length_map]; first | done | omega)) only [AM.RB, Nat.reduceAdd, Nat.reduceMul, Nat.reduceEqDiff, reduceCtorEq, b6_RT21]) | refine AM.drawW_loose (id := 11) hp (by kernel_rfl) (by kernel_rfl) ?_ | refine AM.opW_tied (by kernel_rfl) ?_ | refine AM.opW_untied (by kernel_rfl) ?_))
  refine parseV_w l hs (by omega) (fun a' b' hv h1 fr1 => ?_) (fun L hv p kv h1 m0 fr1 hp1 hid1 => ?_)
  · by_cases hlen : (600 : Int) < l.length
    · (repeat' (first | (simp (maxSteps := 1000000) (disch := first | omega | (simp only [AM.DB, List.length_set, List.length_map]; first | done | omega)) only [AM.RB, Nat.reduceAdd, Nat.reduceMul, Nat.reduceEqDiff, reduceCtorEq, b6_RT21, decide_eq_true hlen]) | refine AM.drawW_loose (id := 11) hp (by kernel_rfl) (by kernel_rfl) ?_ | refine AM.opW_tied (by kernel_rfl) ?_ | refine AM.opW_untied (by kernel_rfl) ?_))
    · by_cases hlb : (100 : Int) < B.length
      · (repeat' (first | (simp (maxSteps := 1000000) (disch := first | omega | (simp only [AM.DB, List.length_set, List.length_map]; first | done | omega)) only [AM.RB, Nat.reduceAdd, Nat.reduceMul, Nat.reduceEqDiff, reduceCtorEq, b6_RT21, decide_eq_false hlen, decide_eq_true hlb]) | refine AM.drawW_loose (id := 11) hp (by kernel_rfl) (by kernel_rfl) ?_ | refine AM.opW_tied (by kernel_rfl) ?_ | refine AM.opW_untied (by kernel_rfl) ?_))
      · by_cases hlm : (100 : Int) < M.length
        · (repeat' (first | (simp (maxSteps := 1000000) (disch := first | omega | (simp only [AM.DB, List.length_set, List.length_map]; first | done | omega)) only [AM.RB, Nat.reduceAdd, Nat.reduceMul, Nat.reduceEqDiff, reduceCtorEq, b6_RT21, decide_eq_false hlen, decide_eq_false hlb, decide_eq_true hlm]) | refine AM.drawW_loose (id := 11) hp (by kernel_rfl) (by kernel_rfl) ?_ | refine AM.opW_tied (by kernel_rfl) ?_ | refine AM.opW_untied (by kernel_rfl) ?_))
        · (repeat' (first | (simp (maxSteps := 1000000) (disch := first | omega | (simp only [AM.DB, List.length_set, List.length_map]; first | done | omega)) only [AM.RB, Nat.reduceAdd, Nat.reduceMul, Nat.reduceEqDiff, reduceCtorEq, b6_RT21, decide_eq_false hlen, decide_eq_false hlb, decide_eq_false hlm, d100]) | refine AM.drawW_loose (id := 11) hp (by kernel_rfl) (by kernel_rfl) ?_ | refine AM.opW_tied (by kernel_rfl) ?_ | refine AM.opW_untied (by kernel_rfl) ?_))
  by_cases hlen : (600 : Int) < l.length
  · (repeat' (first | (simp (maxSteps := 1000000) (disch := first | omega | (simp only [AM.DB, List.length_set, List.length_map]; first | done | omega)) only [AM.RB, Nat.reduceAdd, Nat.reduceMul, Nat.reduceEqDiff, reduceCtorEq, b6_RT21, decide_eq_true hlen]) | refine AM.drawW_loose (id := 11) hp (by kernel_rfl) (by kernel_rfl) ?_ | refine AM.opW_tied (by kernel_rfl) ?_ | refine AM.opW_untied (by kernel_rfl) ?_))
  by_cases hlb : (100 : Int) < B.length
  · (repeat' (first | (simp (maxSteps := 1000000) (disch := first | omega | (simp only [AM.DB, List.length_set, List.length_map]; first | done | omega)) only [AM.RB, Nat.reduceAdd, Nat.reduceMul, Nat.reduceEqDiff, reduceCtorEq, b6_RT21, decide_eq_false hlen, decide_eq_true hlb]) | refine AM.drawW_loose (id := 11) hp (by kernel_rfl) (by kernel_rfl) ?_ | refine AM.opW_tied (by kernel_rfl) ?_ | refine AM.opW_untied (by kernel_rfl) ?_))
  by_cases hlm : (100 : Int) < M.length
  · (repeat' (first | (simp (maxSteps := 1000000) (disch := first | omega | (simp only [AM.DB, List.length_set, List.length_map]; first | done | omega)) only [AM.RB, Nat.reduceAdd, Nat.reduceMul, Nat.reduceEqDiff, reduceCtorEq, b6_RT21, decide_eq_false hlen, decide_eq_false hlb, decide_eq_true hlm]) | refine AM.drawW_loose (id := 11) hp (by kernel_rfl) (by kernel_rfl) ?_ | refine AM.opW_tied (by kernel_rfl) ?_ | refine AM.opW_untied (by kernel_rfl) ?_))
  have G := verd_good hv
  have f := G.fit
  have hK := f.k1024
  have hbd : L.length ≤ 4000000 ∧ (L.getD 0 []).length ≤ 4000000 := by have := f.r32; have := f.c32; omega
  have hw1 := hw00.fr0 fr1
  have lw1 := fr1.low
  have nx1 := fr1.next
  have k1 : Mk h1 p L (fun id => id < h0.next) := Mk.start m0 hp1 hid1 (by omega) (fun id q => q)
  have lp1 := k1.lt
  have hgp : ¬ GW = p := by omega
  have hB1 := (hB.fr0 fr0).fr0 fr1
  have hM1 := (hM.fr0 fr0).fr0 fr1
  have hpB : ∀ id, idOf (.slice ba B.length bc) id → ¬ id = p := fun id e => by have := hB.lt e; omega
  have hpM : ∀ id, idOf (.slice ma M.length mc) id → ¬ id = p := fun id e => by have := hM.lt e; omega
  (repeat' (first | (simp (maxSteps := 1000000) (disch := first | omega | (simp only [AM.DB, List.length_set, List.length_map]; first | done | omega)) only [AM.RB, Nat.reduceAdd, Nat.reduceMul, Nat.reduceEqDiff, reduceCtorEq, b6_RT21, decide_eq_false hlen, decide_eq_false hlb, decide_eq_false hlm, d00]) | refine AM.drawW_loose (id := 11) hp (by kernel_rfl) (by kernel_rfl) ?_ | refine AM.opW_tied (by kernel_rfl) ?_ | refine AM.opW_untied (by kernel_rfl) ?_))
  refine cells_w m0 f.rows hbd _ ?_
  rw [← f.len]
  (repeat' (first | (simp (maxSteps := 1000000) (disch := first | omega | (simp only [AM.DB, List.length_set, List.length_map]; first | done | omega)) only [AM.RB, Nat.reduceAdd, Nat.reduceMul, Nat.reduceEqDiff, reduceCtorEq, b6_RT21]) | refine AM.drawW_loose (id := 11) hp (by kernel_rfl) (by kernel_rfl) ?_ | refine AM.opW_tied (by kernel_rfl) ?_ | refine AM.opW_untied (by kernel_rfl) ?_))
  refine find_w k1 f hw1 (by omega) hgp (by omega) fr to L.flatten.length hB1 (by omega) fun v2 h2 o2 k2 fr2 hid2 => ?_
  obtain ⟨a2, c2, rfl⟩ := o2.form
  by_cases hz : (findR L B fr to L.flatten.length).2 = 0
  case neg => (repeat' (first | (simp (maxSteps := 1000000) (disch := first | omega | (simp only [AM.DB, List.length_set, List.length_map]; first | done | omega)) only [AM.RB, Nat.reduceAdd, Nat.reduceMul, Nat.reduceEqDiff, reduceCtorEq, b6_RT21, decide_eq_false hz]) | refine AM.drawW_loose (id := 11) hp (by kernel_rfl) (by kernel_rfl) ?_ | refine AM.opW_tied (by kernel_rfl) ?_ | refine AM.opW_untied (by kernel_rfl) ?_))
  obtain ⟨hb, D, eF, ho, hD, dD⟩ := find_zero f (by omega) hz
  have hw2 := fr2.get hw1 hgp
  have lw2 := fr2.low
  have nx2 := fr2.next
  have hB2 := hB1.fr fr2 hpB
  have hM2 := hM1.fr fr2 hpM
  rw [eF] at o2 hid2 ⊢
  have pl := pathL_len L (dtoL L B fr to) D fr
  obtain ⟨p0, pn, pe⟩ := path_ok f (freeP_in hb.2) ho D fr (freeP_in hb.1) hD
  have DN := isD.bound (nbB_in f B fr) (freeP_in hb.2) dD
  have restf : ∀ i, 1 ≤ i → i ≤ D → findR L B ((pathL L (dtoL L B fr to) fr D).getD i 0) to L.flatten.length = ((pathL L (dtoL L B fr to) fr D).drop i, 0) := fun i h1 hi => by
    obtain ⟨j, rfl⟩ : ∃ j, i = j + 1 := ⟨i - 1, by omega⟩
    obtain ⟨q1, q2, q3⟩ := pe j (by omega)
    have e := edgeL_facts q1
    rw [path_drop _ _ _ _ _ hi]
    refine rest_ok f hb ho dD (n := D - (j + 1)) (by omega) e.2.2.2 q2 ?_ (by omega)
    exact (dto_iff f (freeP_in hb.2) ho e.1.2 _).1 (by rw [q3]; omega)
  have moref : ∀ M', (∀ x ∈ M', (D : Int) < farL L fr x) → findR L (B ++ M') fr to L.flatten.length = (pathL L (dtoL L B fr to) fr D, 0) := fun M' hM' => more_ok f hb ho dD hM' (by omega)
  have la := looks_all f hb ho L.flatten.length (Nat.le_refl _)
  have lp := looks_path f hb ho hD
  simp only at o2 hid2
  generalize pathL L (dtoL L B fr to) fr D = X at *
  have hpX : ∀ id, idOf (.slice a2 X.length c2) id → ¬ id = p := fun id e => by have := hid2 id e; omega
  (repeat' (first | (simp (maxSteps := 1000000) (disch := first | omega | (simp only [AM.DB, List.length_set, List.length_map]; first | done | omega)) only [AM.RB, Nat.reduceAdd, Nat.reduceMul, Nat.reduceEqDiff, reduceCtorEq, b6_RT21, d00]) | refine AM.drawW_loose (id := 11) hp (by kernel_rfl) (by kernel_rfl) ?_ | refine AM.opW_tied (by kernel_rfl) ?_ | refine AM.opW_untied (by kernel_rfl) ?_))
  refine AM.loop_w hp 170 (fun i : Nat => [(1, .int .i64 fr), (2, .int .i64 to), (3, .slice ba B.length bc), (4, .slice ma M.length mc), (11, .bool true), (12, pv p), (16, .slice a2 X.length c2), (18, .int .i64 (i + 1))])
    (fun i h' => i ≤ D ∧ Mk h' p L (fun id => id < h0.next) ∧ Fr (fun id => id = p) h2 h') (fun i => D - i) (by kernel_rfl) 0 ?_ ?_ ?_
  · simp (maxSteps := 1000000) (disch := first | omega | (simp only [AM.DB, List.length_set, List.length_map]; first | done | omega)) only [AM.RB, Nat.reduceAdd, Nat.reduceMul, Nat.reduceEqDiff, reduceCtorEq, b6_RT21]
    first | rfl | skip
  · exact ⟨Nat.zero_le _, k2, Fr.refl _ _⟩
  rintro i h3 ρ3 ⟨hi, k3, fr3⟩
  have hw3 := fr3.get hw2 hgp
  have lw3 := fr3.low
  have nx3 := fr3.next
  have o3 := o2.fr fr3 hpX
  have r3 := o3.rd
  have hB3 := hB2.fr fr3 hpB
  have hM3 := hM2.fr fr3 hpM
  have ti : ((i : Int) + 1).toNat = i + 1 := by omega
  (repeat' (first | (simp (maxSteps := 1000000) (disch := first | omega | (simp only [AM.DB, List.length_set, List.length_map]; first | done | omega)) only [AM.RB, Nat.reduceAdd, Nat.reduceMul, Nat.reduceEqDiff, reduceCtorEq, b6_RT21]) | refine AM.drawW_loose (id := 11) hp (by kernel_rfl) (by kernel_rfl) ?_ | refine AM.opW_tied (by kernel_rfl) ?_ | refine AM.opW_untied (by kernel_rfl) ?_))
  refine AM.condV_split (fun hit => ?_) (fun hit => ?_)
  · have hiD : i < D := by omega
    obtain ⟨kv3, tl3, mm3⟩ := k3.mp
    (repeat' (first | (simp (maxSteps := 1000000) (disch := first | omega | (simp only [AM.DB, List.length_set, List.length_map]; first | done | omega)) only [AM.RB, Nat.reduceAdd, Nat.reduceMul, Nat.reduceEqDiff, reduceCtorEq, b6_RT21, r3.ia el_22, Rd.ldi r3 lk_3, ti]) | refine AM.drawW_loose (id := 11) hp (by kernel_rfl) (by kernel_rfl) ?_ | refine AM.opW_tied (by kernel_rfl) ?_ | refine AM.opW_untied (by kernel_rfl) ?_))
    refine cells_w mm3 f.rows hbd _ ?_
    rw [← f.len]
    (repeat' (first | (simp (maxSteps := 1000000) (disch := first | omega | (simp only [AM.DB, List.length_set, List.length_map]; first | done | omega)) only [AM.RB, Nat.reduceAdd, Nat.reduceMul, Nat.reduceEqDiff, reduceCtorEq, b6_RT21]) | refine AM.drawW_loose (id := 11) hp (by kernel_rfl) (by kernel_rfl) ?_ | refine AM.opW_tied (by kernel_rfl) ?_ | refine AM.opW_untied (by kernel_rfl) ?_))
    refine find_w k3 f hw3 (by omega) hgp (by omega) (X.getD (i + 1) 0) to L.flatten.length hB3 (by omega) fun v4 h4 o4 k4 fr4 hid4 => ?_
    rw [restf (i + 1) (by omega) (by omega)] at o4 ⊢
    obtain ⟨a4, c4, rfl⟩ := o4.form
    have r4 := (o3.fr fr4 hpX).rd
    obtain ⟨v5, s5, r5⟩ := rd_from r4 (by omega) (i + 1) (by omega)
    have s5' : AM.aSliceH Tryd.prog h4 22 (.slice a2 X.length c2) (some (.int .i64 ((i : Int) + 1))) none none = some v5 := s5
    (repeat' (first | (simp (maxSteps := 1000000) (disch := first | omega | (simp only [AM.DB, List.length_set, List.length_map]; first | done | omega)) only [AM.RB, Nat.reduceAdd, Nat.reduceMul, Nat.reduceEqDiff, reduceCtorEq, b6_RT21]) | refine AM.drawW_loose (id := 11) hp (by kernel_rfl) (by kernel_rfl) ?_ | refine AM.opW_tied (by kernel_rfl) ?_ | refine AM.opW_untied (by kernel_rfl) ?_))
    refine ⟨AM.looseOk_by [(4, [0, 9])] (by kernel_rfl) ?_, ?_⟩
    · simp (maxSteps := 1000000) (disch := first | omega | (simp only [AM.DB, List.length_set, List.length_map]; first | done | omega)) only [AM.RB, Nat.reduceAdd, Nat.reduceMul, Nat.reduceEqDiff, reduceCtorEq, b6_RT21]
      (repeat' apply And.intro) <;> (first | (refine AM.stable_len _ _ _ _ _ _ (fun _ => ?_); (simp (maxSteps := 1000000) (disch := first | omega | (simp only [AM.DB, List.length_set, List.length_map]; first | done | omega)) only [AM.RB, Nat.reduceAdd, Nat.reduceMul, Nat.reduceEqDiff, reduceCtorEq, b6_RT21, r3.ia el_22, Rd.ldi r3 lk_3, r4.ia el_22, Rd.ldi r4 lk_3, ti])) | (refine AM.stable_load _ _ _ _ _ _ ?_; (first | (simp (maxSteps := 1000000) (disch := first | omega | (simp only [AM.DB, List.length_set, List.length_map]; first | done | omega)) only [AM.RB, Nat.reduceAdd, Nat.reduceMul, Nat.reduceEqDiff, reduceCtorEq, b6_RT21, r3.ia el_22, Rd.ldi r3 lk_3, r4.ia el_22, Rd.ldi r4 lk_3, ti]) | skip); (first | (refine AM.stabL_int (by omega) ?_; (simp (maxSteps := 1000000) (disch := first | omega | (simp only [AM.DB, List.length_set, List.length_map]; first | done | omega)) only [AM.RB, Nat.reduceAdd, Nat.reduceMul, Nat.reduceEqDiff, reduceCtorEq, b6_RT21, r3.ia el_22, Rd.ldi r3 lk_3, r4.ia el_22, Rd.ldi r4 lk_3, ti])) | (refine AM.stabL_ptr (by omega) (by omega) ?_; (simp (maxSteps := 1000000) (disch := first | omega | (simp only [AM.DB, List.length_set, List.length_map]; first | done | omega)) only [AM.RB, Nat.reduceAdd, Nat.reduceMul, Nat.reduceEqDiff, reduceCtorEq, b6_RT21, r3.ia el_22, Rd.ldi r3 lk_3, r4.ia el_22, Rd.ldi r4 lk_3, ti])) | (refine AM.stabL_string (by omega) ?_; (simp (maxSteps := 1000000) (disch := first | omega | (simp only [AM.DB, List.length_set, List.length_map]; first | done | omega)) only [AM.RB, Nat.reduceAdd, Nat.reduceMul, Nat.reduceEqDiff, reduceCtorEq, b6_RT21, r3.ia el_22, Rd.ldi r3 lk_3, r4.ia el_22, Rd.ldi r4 lk_3, ti])) | (refine AM.stabL_bool (by omega) ?_; (simp (maxSteps := 1000000) (disch := first | omega | (simp only [AM.DB, List.length_set, List.length_map]; first | done | omega)) only [AM.RB, Nat.reduceAdd, Nat.reduceMul, Nat.reduceEqDiff, reduceCtorEq, b6_RT21, r3.ia el_22, Rd.ldi r3 lk_3, r4.ia el_22, Rd.ldi r4 lk_3, ti])) | (refine AM.stabL_rd r3 (by omega) (by omega) ?_; (simp (maxSteps := 1000000) (disch := first | omega | (simp only [AM.DB, List.length_set, List.length_map]; first | done | omega)) only [AM.RB, Nat.reduceAdd, Nat.reduceMul, Nat.reduceEqDiff, reduceCtorEq, b6_RT21, r3.ia el_22, Rd.ldi r3 lk_3, r4.ia el_22, Rd.ldi r4 lk_3, ti])) | (refine AM.stabL_rd r4 (by omega) (by omega) ?_; (simp (maxSteps := 1000000) (disch := first | omega | (simp only [AM.DB, List.length_set, List.length_map]; first | done | omega)) only [AM.RB, Nat.reduceAdd, Nat.reduceMul, Nat.reduceEqDiff, reduceCtorEq, b6_RT21, r3.ia el_22, Rd.ldi r3 lk_3, r4.ia el_22, Rd.ldi r4 lk_3, ti])) | (refine AM.stabL_elS r3 (by omega) (by omega) ?_; (simp (maxSteps := 1000000) (disch := first | omega | (simp only [AM.DB, List.length_set, List.length_map]; first | done | omega)) only [AM.RB, Nat.reduceAdd, Nat.reduceMul, Nat.reduceEqDiff, reduceCtorEq, b6_RT21, r3.ia el_22, Rd.ldi r3 lk_3, r4.ia el_22, Rd.ldi r4 lk_3, ti])) | (refine AM.stabL_elI r3 (by omega) (by omega) ?_; (simp (maxSteps := 1000000) (disch := first | omega | (simp only [AM.DB, List.length_set, List.length_map]; first | done | omega)) only [AM.RB, Nat.reduceAdd, Nat.reduceMul, Nat.reduceEqDiff, reduceCtorEq, b6_RT21, r3.ia el_22, Rd.ldi r3 lk_3, r4.ia el_22, Rd.ldi r4 lk_3, ti])) | (refine AM.stabL_elS r4 (by omega) (by omega) ?_; (simp (maxSteps := 1000000) (disch := first | omega | (simp only [AM.DB, List.length_set, List.length_map]; first | done | omega)) only [AM.RB, Nat.reduceAdd, Nat.reduceMul, Nat.reduceEqDiff, reduceCtorEq, b6_RT21, r3.ia el_22, Rd.ldi r3 lk_3, r4.ia el_22, Rd.ldi r4 lk_3, ti])) | (refine AM.stabL_elI r4 (by omega) (by omega) ?_; (simp (maxSteps := 1000000) (disch := first | omega | (simp only [AM.DB, List.length_set, List.length_map]; first | done | omega)) only [AM.RB, Nat.reduceAdd, Nat.reduceMul, Nat.reduceEqDiff, reduceCtorEq, b6_RT21, r3.ia el_22, Rd.ldi r3 lk_3, r4.ia el_22, Rd.ldi r4 lk_3, ti])))))
    (repeat' (first | (simp (maxSteps := 1000000) (disch := first | omega | (simp only [AM.DB, List.length_set, List.length_map]; first | done | omega)) only [AM.RB, Nat.reduceAdd, Nat.reduceMul, Nat.reduceEqDiff, reduceCtorEq, b6_RT21, d00, s5']) | refine AM.drawW_loose (id := 11) hp (by kernel_rfl) (by kernel_rfl) ?_ | refine AM.opW_tied (by kernel_rfl) ?_ | refine AM.opW_untied (by kernel_rfl) ?_))
    refine same_w o4.rd r5 (by rw [List.length_drop]; omega) ?_
    rw [decide_eq_true rfl]
    (repeat' (first | (simp (maxSteps := 1000000) (disch := first | omega | (simp only [AM.DB, List.length_set, List.length_map]; first | done | omega)) only [AM.RB, Nat.reduceAdd, Nat.reduceMul, Nat.reduceEqDiff, reduceCtorEq, b6_RT21, AM.wrap_i64]) | refine AM.drawW_loose (id := 11) hp (by kernel_rfl) (by kernel_rfl) ?_ | refine AM.opW_tied (by kernel_rfl) ?_ | refine AM.opW_untied (by kernel_rfl) ?_))
    refine ⟨i + 1, by omega, ?_, by omega, k4, fr3.trans fr4⟩
    simp (maxSteps := 1000000) (disch := first | omega | (simp only [AM.DB, List.length_set, List.length_map]; first | done | omega)) only [AM.RB, Nat.reduceAdd, Nat.reduceMul, Nat.reduceEqDiff, reduceCtorEq, b6_RT21]
    first | rfl | skip
  obtain rfl : i = D := by omega
  (repeat' (first | (simp (maxSteps := 1000000) (disch := first | omega | (simp only [AM.DB, List.length_set, List.length_map]; first | done | omega)) only [AM.RB, Nat.reduceAdd, Nat.reduceMul, Nat.reduceEqDiff, reduceCtorEq, b6_RT21]) | refine AM.drawW_loose (id := 11) hp (by kernel_rfl) (by kernel_rfl) ?_ | refine AM.opW_tied (by kernel_rfl) ?_ | refine AM.opW_untied (by kernel_rfl) ?_))
  refine looks_w k3 f hw3 (by omega) hgp (by omega) fr to hB3 (by omega) fun h4 k4 fr4 => ?_
  have el : looksR L B fr to = (((looksN L (dtoL L B fr to) fr L.flatten.length : Nat) : Int), 0) := if_pos hb
  rw [el]
  have ln := looksN_le L (dtoL L B fr to) fr L.flatten.length
  have hw4 := fr4.get hw3 hgp
  have lw4 := fr4.low
  have nx4 := fr4.next
  have hB4 := hB3.fr fr4 hpB
  have hM4 := hM3.fr fr4 hpM
  have o4 := o3.fr fr4 hpX
  (repeat' (first | (simp (maxSteps := 1000000) (disch := first | omega | (simp only [AM.DB, List.length_set, List.length_map]; first | done | omega)) only [AM.RB, Nat.reduceAdd, Nat.reduceMul, Nat.reduceEqDiff, reduceCtorEq, b6_RT21]) | refine AM.drawW_loose (id := 11) hp (by kernel_rfl) (by kernel_rfl) ?_ | refine AM.opW_tied (by kernel_rfl) ?_ | refine AM.opW_untied (by kernel_rfl) ?_))
  generalize hE_ : AHeap.alloc h4 _ = h5; obtain ⟨g5, fr5, n5, l5⟩ := AM.new_get hE_; clear hE_
  have o5 : Ow h5 3 1 (.slice (some ⟨h4.next, 0, none⟩) 0 0) 0 [] := AM.Ow.whole (n := 0) g5 rfl (by omega)
  refine AM.appends_w ap_22 ap_22 o5 (hB4.fr0 fr5) (AM.ints_one _ _) (by omega) (AM.fits (by omega) (by omega)) (AM.fits' (by omega)) fun v6 h6 o6 fr6 hid6 => ?_
  have fr46 : Fr none' h4 h6 := fr5.fresh fr6 (fun id e => by have e : id = h4.next := e; omega)
  have id6 : ∀ id, idOf v6 id → h4.next ≤ id := fun id e => (hid6 id e).elim (fun e => by have e : id = h4.next := e; omega) (fun e => by omega)
  rw [Nat.zero_add, List.nil_append] at o6
  obtain ⟨a6, c6, rfl⟩ := o6.form
  (repeat' (first | (simp (maxSteps := 1000000) (disch := first | omega | (simp only [AM.DB, List.length_set, List.length_map]; first | done | omega)) only [AM.RB, Nat.reduceAdd, Nat.reduceMul, Nat.reduceEqDiff, reduceCtorEq, b6_RT21]) | refine AM.drawW_loose (id := 11) hp (by kernel_rfl) (by kernel_rfl) ?_ | refine AM.opW_tied (by kernel_rfl) ?_ | refine AM.opW_untied (by kernel_rfl) ?_))
  obtain ⟨kv4, tl4, mm4⟩ := k4.mp
  refine AM.loop_w hp 170 (fun z : Nat × Value => [(1, .int .i64 fr), (2, .int .i64 to), (4, .slice ma M.length mc), (11, .bool true), (12, pv p), (16, .slice a2 X.length c2), (21, .int .i64 (looksN L (dtoL L B fr to) fr L.flatten.length)), (22, .int .i64 0), (23, z.2), (24, .int .i64 z.1)])
    (fun z h' => z.1 ≤ M.length ∧ Ow h' 3 1 z.2 (B ++ farM L fr i (M.take z.1)).length ((B ++ farM L fr i (M.take z.1)).map (.int .i64)) ∧ Fr none' h4 h' ∧ ∀ id, idOf z.2 id → h4.next ≤ id) (fun z => M.length - z.1) (by kernel_rfl) (0, .slice a6 B.length c6) ?_ ?_ ?_
  · simp (maxSteps := 1000000) (disch := first | omega | (simp only [AM.DB, List.length_set, List.length_map]; first | done | omega)) only [AM.RB, Nat.reduceAdd, Nat.reduceMul, Nat.reduceEqDiff, reduceCtorEq, b6_RT21]
    first | rfl | skip
  · exact ⟨Nat.zero_le _, by simpa [farM] using o6, fr46, id6⟩
  rintro ⟨j, v⟩ h7 ρ7 ⟨hj, o7, fr7, hid7⟩
  simp only at hj o7 hid7
  have fml : (farM L fr i (M.take j)).length ≤ j := Nat.le_trans (List.length_filter_le _ _) (by simp; omega)
  have bml : (B ++ farM L fr i (M.take j)).length ≤ B.length + j := by rw [List.length_append]; omega
  obtain ⟨a7, c7, rfl⟩ := o7.form
  have hl7 := fr7.hl (show h4.low ≤ h4.next by omega)
  have k7 := k4.fr0 fr7
  have hM7 := hM4.fr0 fr7
  (repeat' (first | (simp (maxSteps := 1000000) (disch := first | omega | (simp only [AM.DB, List.length_set, List.length_map]; first | done | omega)) only [AM.RB, Nat.reduceAdd, Nat.reduceMul, Nat.reduceEqDiff, reduceCtorEq, b6_RT21]) | refine AM.drawW_loose (id := 11) hp (by kernel_rfl) (by kernel_rfl) ?_ | refine AM.opW_tied (by kernel_rfl) ?_ | refine AM.opW_untied (by kernel_rfl) ?_))
  refine AM.condV_split (fun hjt => ?_) (fun hjt => ?_)
  · have hjM : j < M.length := by omega
    have fs := farM_succ (L := L) (fr := fr) (D := i) hjM
    obtain ⟨x, hx⟩ : ∃ x, M.getD j 0 = x := ⟨_, rfl⟩
    rw [hx] at fs
    obtain ⟨kv7, tl7, mm7⟩ := k7.mp
    (repeat' (first | (simp (maxSteps := 1000000) (disch := first | omega | (simp only [AM.DB, List.length_set, List.length_map]; first | done | omega)) only [AM.RB, Nat.reduceAdd, Nat.reduceMul, Nat.reduceEqDiff, reduceCtorEq, b6_RT21, hM7.ia el_22, Rd.ldi hM7 lk_3, Int.toNat_natCast, hx]) | refine AM.drawW_loose (id := 11) hp (by kernel_rfl) (by kernel_rfl) ?_ | refine AM.opW_tied (by kernel_rfl) ?_ | refine AM.opW_untied (by kernel_rfl) ?_))
    refine far_w mm7 f fr x ?_
    by_cases c : ((i : Int) + 1) ≤ farL L fr x
    · rw [if_pos c] at fs
      have d1 : decide ((X.length : Int) ≤ farL L fr x) = true := decide_eq_true (by rw [pl]; omega)
      (repeat' (first | (simp (maxSteps := 1000000) (disch := first | omega | (simp only [AM.DB, List.length_set, List.length_map]; first | done | omega)) only [AM.RB, Nat.reduceAdd, Nat.reduceMul, Nat.reduceEqDiff, reduceCtorEq, b6_RT21, d1, hM7.ia el_22, Rd.ldi hM7 lk_3, Int.toNat_natCast, hx]) | refine AM.drawW_loose (id := 11) hp (by kernel_rfl) (by kernel_rfl) ?_ | refine AM.opW_tied (by kernel_rfl) ?_ | refine AM.opW_untied (by kernel_rfl) ?_))
      generalize hE_ : AHeap.alloc h7 _ = h8; obtain ⟨g8, fr8, n8, l8⟩ := AM.new_get hE_; clear hE_
      refine AM.appends_w ap_22 ap_22 (o7.fr0 fr8) (AM.Rd.whole (n := 1) (c := [.int .i64 x]) g8 rfl) rfl (by omega) (AM.fits (by omega) (by omega)) (AM.fits' (by omega)) fun v9 h9 o9 fr9 hid9 => ?_
      have n47 := fr7.next
      (repeat' (first | (simp (maxSteps := 1000000) (disch := first | omega | (simp only [AM.DB, List.length_set, List.length_map]; first | done | omega)) only [AM.RB, Nat.reduceAdd, Nat.reduceMul, Nat.reduceEqDiff, reduceCtorEq, b6_RT21, AM.wrap_i64]) | refine AM.drawW_loose (id := 11) hp (by kernel_rfl) (by kernel_rfl) ?_ | refine AM.opW_tied (by kernel_rfl) ?_ | refine AM.opW_untied (by kernel_rfl) ?_))
      refine ⟨(j + 1, v9), by simp only; omega, ?_, by simp only; omega, ?_, (fr7.trans fr8).fresh fr9 (fun id e => hid7 id e), fun id e => (hid9 id e).elim (hid7 id) (fun e => by omega)⟩
      · simp (maxSteps := 1000000) (disch := first | omega | (simp only [AM.DB, List.length_set, List.length_map]; first | done | omega)) only [AM.RB, Nat.reduceAdd, Nat.reduceMul, Nat.reduceEqDiff, reduceCtorEq, b6_RT21]
        first | rfl | skip
      · simp only
        rw [fs, ← List.append_assoc]
        simpa [Nat.add_assoc] using o9
    · rw [if_neg c, List.append_nil] at fs
      have d1 : decide ((X.length : Int) ≤ farL L fr x) = false := decide_eq_false (by rw [pl]; omega)
      (repeat' (first | (simp (maxSteps := 1000000) (disch := first | omega | (simp only [AM.DB, List.length_set, List.length_map]; first | done | omega)) only [AM.RB, Nat.reduceAdd, Nat.reduceMul, Nat.reduceEqDiff, reduceCtorEq, b6_RT21, d1, AM.wrap_i64]) | refine AM.drawW_loose (id := 11) hp (by kernel_rfl) (by kernel_rfl) ?_ | refine AM.opW_tied (by kernel_rfl) ?_ | refine AM.opW_untied (by kernel_rfl) ?_))
      refine ⟨(j + 1, _), by simp only; omega, ?_, by simp only; omega, ?_, fr7, hid7⟩
      · simp (maxSteps := 1000000) (disch := first | omega | (simp only [AM.DB, List.length_set, List.length_map]; first | done | omega)) only [AM.RB, Nat.reduceAdd, Nat.reduceMul, Nat.reduceEqDiff, reduceCtorEq, b6_RT21]
        first | rfl | skip
      · simp only
        rw [fs]; exact o7
  obtain rfl : j = M.length := by omega
  rw [List.take_length] at o7 bml hid7 ⊢
  have mf := moref (farM L fr i M) fun x hx => by
    have := of_decide_eq_true (List.mem_filter.1 hx).2
    omega
  generalize B ++ farM L fr i M = B9 at *
  have hw7 := hw4.fr0 fr7
  have lw7 := fr7.low
  have nx7 := fr7.next
  have o47 := o4.fr0 fr7
  obtain ⟨kv7, tl7, mm7⟩ := k7.mp
  (repeat' (first | (simp (maxSteps := 1000000) (disch := first | omega | (simp only [AM.DB, List.length_set, List.length_map]; first | done | omega)) only [AM.RB, Nat.reduceAdd, Nat.reduceMul, Nat.reduceEqDiff, reduceCtorEq, b6_RT21]) | refine AM.drawW_loose (id := 11) hp (by kernel_rfl) (by kernel_rfl) ?_ | refine AM.opW_tied (by kernel_rfl) ?_ | refine AM.opW_untied (by kernel_rfl) ?_))
  refine cells_w mm7 f.rows hbd _ ?_
  rw [← f.len]
  (repeat' (first | (simp (maxSteps := 1000000) (disch := first | omega | (simp only [AM.DB, List.length_set, List.length_map]; first | done | omega)) only [AM.RB, Nat.reduceAdd, Nat.reduceMul, Nat.reduceEqDiff, reduceCtorEq, b6_RT21]) | refine AM.drawW_loose (id := 11) hp (by kernel_rfl) (by kernel_rfl) ?_ | refine AM.opW_tied (by kernel_rfl) ?_ | refine AM.opW_untied (by kernel_rfl) ?_))
  refine find_w k7 f hw7 (by omega) hgp (by omega) fr to L.flatten.length o7.rd (by omega) fun v8 h8 o8 k8 fr8 hid8 => ?_
  rw [mf] at o8 ⊢
  obtain ⟨a8, c8, rfl⟩ := o8.form
  have o48 := o47.fr fr8 hpX
  have lw8 := fr8.low
  have nx8 := fr8.next
  obtain ⟨kv8, tl8, mm8⟩ := k8.mp
  have d2 : decide ((X.length : Int) ≤ (looksN L (dtoL L B fr to) fr L.flatten.length : Nat)) = true := decide_eq_true (by omega)
  have d3 : decide (((looksN L (dtoL L B fr to) fr L.flatten.length : Nat) : Int) ≤ ((allP L.flatten L.flatten.length).length : Nat)) = true := decide_eq_true (by omega)
  (repeat' (first | (simp (maxSteps := 1000000) (disch := first | omega | (simp only [AM.DB, List.length_set, List.length_map]; first | done | omega)) only [AM.RB, Nat.reduceAdd, Nat.reduceMul, Nat.reduceEqDiff, reduceCtorEq, b6_RT21, d00, d2]) | refine AM.drawW_loose (id := 11) hp (by kernel_rfl) (by kernel_rfl) ?_ | refine AM.opW_tied (by kernel_rfl) ?_ | refine AM.opW_untied (by kernel_rfl) ?_))
  refine all_w mm8 f.rows (by omega) (by omega) _ fun v9 h9 o9 fr9 hid9 => ?_
  obtain ⟨a9, c9, rfl⟩ := o9.form
  (repeat' (first | (simp (maxSteps := 1000000) (disch := first | omega | (simp only [AM.DB, List.length_set, List.length_map]; first | done | omega)) only [AM.RB, Nat.reduceAdd, Nat.reduceMul, Nat.reduceEqDiff, reduceCtorEq, b6_RT21, d00, d3]) | refine AM.drawW_loose (id := 11) hp (by kernel_rfl) (by kernel_rfl) ?_ | refine AM.opW_tied (by kernel_rfl) ?_ | refine AM.opW_untied (by kernel_rfl) ?_))
  refine same_w (o8.fr0 fr9).rd (o48.fr0 fr9).rd (by show X.length ≤ _; omega) ?_
  rw [decide_eq_true rfl]
  (repeat' (first | (simp (maxSteps := 1000000) (disch := first | omega | (simp only [AM.DB, List.length_set, List.length_map]; first | done | omega)) only [AM.RB, Nat.reduceAdd, Nat.reduceMul, Nat.reduceEqDiff, reduceCtorEq, b6_RT21]) | refine AM.drawW_loose (id := 11) hp (by kernel_rfl) (by kernel_rfl) ?_ | refine AM.opW_tied (by kernel_rfl) ?_ | refine AM.opW_untied (by kernel_rfl) ?_))
end Go.Proofs.YtgdcbjpookldoaaDoor
