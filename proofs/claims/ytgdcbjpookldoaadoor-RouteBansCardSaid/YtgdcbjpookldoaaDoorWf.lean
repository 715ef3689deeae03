/- Walks of this claim's functions, and plain laws. -/
import Derived.Test.YtgdcbjpookldoaaDoorWe
set_option linter.unusedSimpArgs false
set_option linter.unusedVariables false
namespace Go.Proofs.YtgdcbjpookldoaaDoor
open Go.AM
set_option maxRecDepth 8000
theorem b7_RT23 : type_of% (And.intro (@AM.bin_add) (And.intro (@AM.bin_eql) (And.intro (@AM.bin_gtr) (And.intro (@AM.bin_lss) (And.intro (@AM.bin_mul) (And.intro (@AM.bin_neq) (And.intro (@AM.bin_quo) (And.intro (@AM.bin_rem) (And.intro (AM.bsW_int bs_22) (And.intro (AM.bsW_nil bs_22) (And.intro (AM.bsW_slice bs_22) (And.intro (AM.bsW_string bs_22) (And.intro (@AM.cvW_slice) (And.intro (@AM.ex_tuple) (And.intro (@AM.iaO_ok) (And.intro (AM.ia_slice el_22) (And.intro (AM.ia_slice el_52) (And.intro (@AM.ldO_agg) (And.intro (@AM.ldO_one) (And.intro (@AM.ld_ptr) (And.intro (AM.len_slice ul_22) (And.intro (@lk_3) (And.intro (@AM.op_append) (And.intro (@AM.op_binOp) (And.intro (@AM.op_buildSlice) (And.intro (@AM.op_call) (And.intro (@AM.op_convert) (And.intro (@AM.op_extract) (And.intro (@AM.op_indexAddr) (And.intro (@AM.op_len) (And.intro (@AM.op_load) (And.intro (@AM.op_store) (And.intro (@AM.op_unOp) (And.intro (@AM.stO_agg) (And.intro (@AM.stO_bool) (And.intro (@AM.stO_int) (And.intro (@AM.stO_map) (And.intro (@AM.stO_pointer) (And.intro (@AM.stO_slice) (And.intro (@AM.stO_string) (And.intro (@AM.st_ptr) (And.intro (AM.str_len ul_9) (And.intro (@sz_5) (And.intro (@AM.un_neg) (@AM.un_not))))))))))))))))))))))))))))))))))))))))))))) := And.intro (@AM.bin_add) (And.intro (@AM.bin_eql) (And.intro (@AM.bin_gtr) (And.intro (@AM.bin_lss) (And.intro (@AM.bin_mul) (And.intro (@AM.bin_neq) (And.intro (@AM.bin_quo) (And.intro (@AM.bin_rem) (And.intro (AM.bsW_int bs_22) (And.intro (AM.bsW_nil bs_22) (And.intro (AM.bsW_slice bs_22) (And.intro (AM.bsW_string bs_22) (And.intro (@AM.cvW_slice) (And.intro (@AM.ex_tuple) (And.intro (@AM.iaO_ok) (And.intro (AM.ia_slice el_22) (And.intro (AM.ia_slice el_52) (And.intro (@AM.ldO_agg) (And.intro (@AM.ldO_one) (And.intro (@AM.ld_ptr) (And.intro (AM.len_slice ul_22) (And.intro (@lk_3) (And.intro (@AM.op_append) (And.intro (@AM.op_binOp) (And.intro (@AM.op_buildSlice) (And.intro (@AM.op_call) (And.intro (@AM.op_convert) (And.intro (@AM.op_extract) (And.intro (@AM.op_indexAddr) (And.intro (@AM.op_len) (And.intro (@AM.op_load) (And.intro (@AM.op_store) (And.intro (@AM.op_unOp) (And.intro (@AM.stO_agg) (And.intro (@AM.stO_bool) (And.intro (@AM.stO_int) (And.intro (@AM.stO_map) (And.intro (@AM.stO_pointer) (And.intro (@AM.stO_slice) (And.intro (@AM.stO_string) (And.intro (@AM.st_ptr) (And.intro (AM.str_len ul_9) (And.intro (@sz_5) (And.intro (@AM.un_neg) (@AM.un_not))))))))))))))))))))))))))))))))))))))))))))


theorem bsOf_bytes (l : List UInt8) : bsOf (l.map fun c => (c.toNat : Int)) = ⟨l.toArray⟩ := by
  have key : ∀ (l : List UInt8) (s : ByteArray), (l.map fun c => (c.toNat : Int)).foldl (fun s n => s.push (UInt8.ofNat n.toNat)) s = ⟨s.data ++ l.toArray⟩ := by
    intro l
    induction l with
    | nil => intro s; cases s; simp
    | cons c l ih =>
      intro s
      rw [List.map_cons, List.foldl_cons, ih, Int.toNat_natCast, UInt8.ofNat_toNat]
      cases s
      simp [ByteArray.push]
  unfold bsOf
  rw [key]
  simp
theorem bytes_ints (l : List UInt8) : l.map bV = (l.map fun c => (c.toNat : Int)).map (.int .u8) := by
  rw [List.map_map]; rfl
theorem bset (l : List UInt8) (i : Nat) (c : UInt8) : (l.map bV).set i (bV c) = (l.set i c).map bV := by rw [List.map_set]
theorem textL_len {L : List (List UInt8)} {C : Nat} (h : ∀ T ∈ L, T.length = C) : (textL L).length = L.length * (C + 1) := by
  unfold textL
  induction L with
  | nil => simp
  | cons T L ih =>
    rw [List.map_cons, List.flatten_cons, List.length_append, ih (fun T hT => h T (List.mem_cons_of_mem _ hT)), List.length_append, h T (List.mem_cons_self ..)]
    simp only [List.length_cons, List.length_nil]
    rw [Nat.add_mul, Nat.one_mul]; omega

set_option maxHeartbeats 16000000 in
theorem bansLaw_w (l : List UInt8) (hs : l.length ≤ 9223372036854775807) (fr to : Int) {vs vm : Value} {S M : List Int} {h : AHeap} (hS : Rd h 3 1 vs S.length (S.map (.int .i64))) (hM : Rd h 3 1 vm M.length (M.map (.int .i64))) (hw0 : h.get GW = some (.cells waysC 123 false)) (hl0 : h.low = h.next) : W 7 [strV l, .int .i64 fr, .int .i64 to, vs, vm] h fun v _ => v = .bool true := by
  have hgl : GW < h.low := by have := AM.get_some_lt hw0; omega
  obtain ⟨sa, sc, rfl⟩ := hS.form
  obtain ⟨ma, mc, rfl⟩ := hM.form
  have d00 : decide ((0 : Int) = 0) = true := rfl
  have d22 : decide ((2 : Int) = 2) = true := rfl
  have d44 : decide ((40 : Int) = 40) = true := rfl
  have d100 : decide ((10 : Int) = 0) = false := rfl
  refine AM.enter hp (fn := Tryd.f7) (rs := [.tmp 10]) (nt := 195) (by kernel_rfl) Tryd.func7 rfl rfl rfl (by kernel_rfl) ?_
  (repeat' (first | (simp (maxSteps := 1000000) (disch := first | omega | (simp only [AM.DB, List.length_set, List.length_map]; first | done | omega)) only [AM.RB, Nat.reduceAdd, Nat.reduceMul, Nat.reduceEqDiff, reduceCtorEq, b7_RT23]) | refine AM.drawW_loose (id := 17) hp (by kernel_rfl) (by kernel_rfl) ?_ | refine AM.opW_tied (by kernel_rfl) ?_ | refine AM.opW_untied (by kernel_rfl) ?_))
  refine alive4_w hw0 hgl (by omega) fun h0 fr0 => ?_
  have hw00 := hw0.fr0 fr0
  have lw0 := fr0.low
  have nx0 := fr0.next
  (repeat' (first | (simp (maxSteps := 1000000) (disch := first | omega | (simp only [AM.DB, List.length_set, List.length_map]; first | done | omega)) only [AM.RB, Nat.reduceAdd, Nat.reduceMul, Nat.reduceEqDiff, reduceCtorEq, b7_RT23]) | refine AM.drawW_loose (id := 17) hp (by kernel_rfl) (by kernel_rfl) ?_ | refine AM.opW_tied (by kernel_rfl) ?_ | refine AM.opW_untied (by kernel_rfl) ?_))
  refine parseV_w l hs (by omega) (fun a' b' hv h1 fr1 => ?_) (fun L hv p kv h1 m0 fr1 hp1 hid1 => ?_)
  · by_cases hlen : (400 : Int) < l.length
    · (repeat' (first | (simp (maxSteps := 1000000) (disch := first | omega | (simp only [AM.DB, List.length_set, List.length_map]; first | done | omega)) only [AM.RB, Nat.reduceAdd, Nat.reduceMul, Nat.reduceEqDiff, reduceCtorEq, b7_RT23, decide_eq_true hlen]) | refine AM.drawW_loose (id := 17) hp (by kernel_rfl) (by kernel_rfl) ?_ | refine AM.opW_tied (by kernel_rfl) ?_ | refine AM.opW_untied (by kernel_rfl) ?_))
    · by_cases hlb : (60 : Int) < S.length
      · (repeat' (first | (simp (maxSteps := 1000000) (disch := first | omega | (simp only [AM.DB, List.length_set, List.length_map]; first | done | omega)) only [AM.RB, Nat.reduceAdd, Nat.reduceMul, Nat.reduceEqDiff, reduceCtorEq, b7_RT23, decide_eq_false hlen, decide_eq_true hlb]) | refine AM.drawW_loose (id := 17) hp (by kernel_rfl) (by kernel_rfl) ?_ | refine AM.opW_tied (by kernel_rfl) ?_ | refine AM.opW_untied (by kernel_rfl) ?_))
      · by_cases hlm : (60 : Int) < M.length
        · (repeat' (first | (simp (maxSteps := 1000000) (disch := first | omega | (simp only [AM.DB, List.length_set, List.length_map]; first | done | omega)) only [AM.RB, Nat.reduceAdd, Nat.reduceMul, Nat.reduceEqDiff, reduceCtorEq, b7_RT23, decide_eq_false hlen, decide_eq_false hlb, decide_eq_true hlm]) | refine AM.drawW_loose (id := 17) hp (by kernel_rfl) (by kernel_rfl) ?_ | refine AM.opW_tied (by kernel_rfl) ?_ | refine AM.opW_untied (by kernel_rfl) ?_))
        · (repeat' (first | (simp (maxSteps := 1000000) (disch := first | omega | (simp only [AM.DB, List.length_set, List.length_map]; first | done | omega)) only [AM.RB, Nat.reduceAdd, Nat.reduceMul, Nat.reduceEqDiff, reduceCtorEq, b7_RT23, decide_eq_false hlen, decide_eq_false hlb, decide_eq_false hlm, d100]) | refine AM.drawW_loose (id := 17) hp (by kernel_rfl) (by kernel_rfl) ?_ | refine AM.opW_tied (by kernel_rfl) ?_ | refine AM.opW_untied (by kernel_rfl) ?_))
  by_cases hlen : (400 : Int) < l.length
  · (repeat' (first | (simp (maxSteps := 1000000) (disch := first | omega | (simp only [AM.DB, List.length_set, List.length_map]; first | done | omega)) only [AM.RB, Nat.reduceAdd, Nat.reduceMul, Nat.reduceEqDiff, reduceCtorEq, b7_RT23, decide_eq_true hlen]) | refine AM.drawW_loose (id := 17) hp (by kernel_rfl) (by kernel_rfl) ?_ | refine AM.opW_tied (by kernel_rfl) ?_ | refine AM.opW_untied (by kernel_rfl) ?_))
  by_cases hlb : (60 : Int) < S.length
  · (repeat' (first | (simp (maxSteps := 1000000) (disch := first | omega | (simp only [AM.DB, List.length_set, List.length_map]; first | done | omega)) only [AM.RB, Nat.reduceAdd, Nat.reduceMul, Nat.reduceEqDiff, reduceCtorEq, b7_RT23, decide_eq_false hlen, decide_eq_true hlb]) | refine AM.drawW_loose (id := 17) hp (by kernel_rfl) (by kernel_rfl) ?_ | refine AM.opW_tied (by kernel_rfl) ?_ | refine AM.opW_untied (by kernel_rfl) ?_))
  by_cases hlm : (60 : Int) < M.length
  · (repeat' (first | (simp (maxSteps := 1000000) (disch := first | omega | (simp only [AM.DB, List.length_set, List.length_map]; first | done | omega)) only [AM.RB, Nat.reduceAdd, Nat.reduceMul, Nat.reduceEqDiff, reduceCtorEq, b7_RT23, decide_eq_false hlen, decide_eq_false hlb, decide_eq_true hlm]) | refine AM.drawW_loose (id := 17) hp (by kernel_rfl) (by kernel_rfl) ?_ | refine AM.opW_tied (by kernel_rfl) ?_ | refine AM.opW_untied (by kernel_rfl) ?_))
  have G := verd_good hv
  have f := G.fit
  have hK := f.k1024
  have hbd : L.length ≤ 4000000 ∧ (L.getD 0 []).length ≤ 4000000 := by have := f.r32; have := f.c32; omega
  have hw1 := hw00.fr0 fr1
  have lw1 := fr1.low
  have nx1 := fr1.next
  have k1 : Mk h1 p L none' := Mk.start m0 hp1 hid1 (by omega) (fun id q => q.elim)
  have lp1 := k1.lt
  have hgp : ¬ GW = p := by omega
  have hS1 := (hS.fr0 fr0).fr0 fr1
  have hM1 := (hM.fr0 fr0).fr0 fr1
  have hpS : ∀ id, idOf (.slice sa S.length sc) id → ¬ id = p := fun id e => by have := hS.lt e; omega
  (repeat' (first | (simp (maxSteps := 1000000) (disch := first | omega | (simp only [AM.DB, List.length_set, List.length_map]; first | done | omega)) only [AM.RB, Nat.reduceAdd, Nat.reduceMul, Nat.reduceEqDiff, reduceCtorEq, b7_RT23, decide_eq_false hlen, decide_eq_false hlb, decide_eq_false hlm, d00]) | refine AM.drawW_loose (id := 17) hp (by kernel_rfl) (by kernel_rfl) ?_ | refine AM.opW_tied (by kernel_rfl) ?_ | refine AM.opW_untied (by kernel_rfl) ?_))
  generalize hE_ : AHeap.alloc h1 _ = h2; obtain ⟨g2, fr2, n2, l2⟩ := AM.new_get hE_; clear hE_
  have o2 : Ow h2 3 1 (.slice (some ⟨h1.next, 0, none⟩) 0 0) 0 [] := AM.Ow.whole (n := 0) g2 rfl (by omega)
  refine AM.appends_w ap_22 ap_22 o2 (hS1.fr0 fr2) (AM.ints_one _ _) (by omega) (AM.fits (by omega) (by omega)) (AM.fits' (by omega)) fun v3 h3 o3 fr3 hid3 => ?_
  have id3 : ∀ id, idOf v3 id → h1.next ≤ id := fun id e => (hid3 id e).elim (fun e => by have e : id = h1.next := e; omega) (fun e => by omega)
  have fr13 : Fr none' h1 h3 := fr2.fresh fr3 (fun id e => by have e : id = h1.next := e; omega)
  have lw3 := fr13.low
  have nx3 := fr13.next
  rw [Nat.zero_add, List.nil_append] at o3
  obtain ⟨a3, c3, rfl⟩ := o3.form
  (repeat' (first | (simp (maxSteps := 1000000) (disch := first | omega | (simp only [AM.DB, List.length_set, List.length_map]; first | done | omega)) only [AM.RB, Nat.reduceAdd, Nat.reduceMul, Nat.reduceEqDiff, reduceCtorEq, b7_RT23]) | refine AM.drawW_loose (id := 17) hp (by kernel_rfl) (by kernel_rfl) ?_ | refine AM.opW_tied (by kernel_rfl) ?_ | refine AM.opW_untied (by kernel_rfl) ?_))
  refine AM.appends_w ap_22 ap_22 o3 (hM1.fr0 fr13) (AM.ints_one _ _) (by omega) (AM.fits (by omega) (by omega)) (AM.fits' (by omega)) fun v4 h4 o4 fr4 hid4 => ?_
  have id4 : ∀ id, idOf v4 id → h1.next ≤ id := fun id e => (hid4 id e).elim (fun e => id3 id e) (fun e => by omega)
  have fr14 : Fr none' h1 h4 := fr13.fresh fr4 (fun id e => id3 id e)
  have lw4 := fr14.low
  have nx4 := fr14.next
  obtain ⟨a4, c4, rfl⟩ := o4.form
  rw [← List.map_append] at o4
  have ml := fun (x : (distR L (S ++ M) fr to).2 = 0) => bans_mono f x
  obtain ⟨A, hA⟩ : ∃ A, S ++ M = A := ⟨_, rfl⟩
  have lA : A.length = S.length + M.length := by rw [← hA, List.length_append]
  rw [hA] at o4 ml
  rw [← lA] at o4 ⊢
  have hpA : ∀ id, idOf (.slice a4 A.length c4) id → ¬ id = p := fun id e => by have := id4 id (by rw [← lA]; exact e); omega
  have k4 := k1.fr0 fr14
  have hw4 := hw1.fr0 fr14
  have hS4 := hS1.fr0 fr14
  have a1 := distR_arg (L := L) (B := S) (fr := fr) (to := to)
  have a2 := distR_arg (L := L) (B := A) (fr := fr) (to := to)
  (repeat' (first | (simp (maxSteps := 1000000) (disch := first | omega | (simp only [AM.DB, List.length_set, List.length_map]; first | done | omega)) only [AM.RB, Nat.reduceAdd, Nat.reduceMul, Nat.reduceEqDiff, reduceCtorEq, b7_RT23]) | refine AM.drawW_loose (id := 17) hp (by kernel_rfl) (by kernel_rfl) ?_ | refine AM.opW_tied (by kernel_rfl) ?_ | refine AM.opW_untied (by kernel_rfl) ?_))
  refine dist_w k4 f hw4 (by omega) hgp (by omega) fr to hS4 (by omega) fun h5 k5 fr5 => ?_
  have hw5 := fr5.get hw4 hgp
  have lw5 := fr5.low
  have nx5 := fr5.next
  have o5 := o4.fr fr5 hpA
  (repeat' (first | (simp (maxSteps := 1000000) (disch := first | omega | (simp only [AM.DB, List.length_set, List.length_map]; first | done | omega)) only [AM.RB, Nat.reduceAdd, Nat.reduceMul, Nat.reduceEqDiff, reduceCtorEq, b7_RT23]) | refine AM.drawW_loose (id := 17) hp (by kernel_rfl) (by kernel_rfl) ?_ | refine AM.opW_tied (by kernel_rfl) ?_ | refine AM.opW_untied (by kernel_rfl) ?_))
  refine dist_w k5 f hw5 (by omega) hgp (by omega) fr to o5.rd (by omega) fun h6 k6 fr6 => ?_
  have hw6 := fr6.get hw5 hgp
  have lw6 := fr6.low
  have nx6 := fr6.next
  have o6 := o5.fr fr6 hpA
  generalize distR L S fr to = X at *
  generalize distR L A fr to = Y at *
  by_cases hb : bothF L fr to
  case neg =>
    have e1 := a1.2 hb
    have e2 := a2.2 hb
    have e3 : decide (X.2 = Y.2) = true := decide_eq_true (by rw [e1, e2])
    (repeat' (first | (simp (maxSteps := 1000000) (disch := first | omega | (simp only [AM.DB, List.length_set, List.length_map]; first | done | omega)) only [AM.RB, Nat.reduceAdd, Nat.reduceMul, Nat.reduceEqDiff, reduceCtorEq, b7_RT23, decide_eq_true e1, e3]) | refine AM.drawW_loose (id := 17) hp (by kernel_rfl) (by kernel_rfl) ?_ | refine AM.opW_tied (by kernel_rfl) ?_ | refine AM.opW_untied (by kernel_rfl) ?_))
  have e1 : decide (X.2 = 2) = false := decide_eq_false fun t => a1.1 t hb
  have e2 : decide (Y.2 = 2) = false := decide_eq_false fun t => a2.1 t hb
  obtain ⟨i8, hi8, hs8⟩ : ∃ i, Tryd.prog.info? 5 = some i ∧ i.size = 1 := by
    have h0 : (Tryd.prog.info? 5).map (·.size) = some 1 := by kernel_rfl
    obtain ⟨i, e1, e2⟩ := Option.map_eq_some_iff.1 h0
    exact ⟨i, e1, e2⟩
  have tx := G.text'
  have tl := textL_len G.all
  have hl0 : 0 < l.length := by
    rw [tx, tl]
    exact Nat.mul_pos G.rows (by omega)
  have ew : wallL L fr (A.take 0) = L := by rw [List.take_zero]; rfl
  rcases Classical.em (Y.2 = 0) with c3 | c3
  case' inl =>
    obtain ⟨m1, m2⟩ := ml c3
    have d4 : decide (Y.1 < X.1) = false := decide_eq_false (by omega)
    (repeat' (first | (simp (maxSteps := 1000000) (disch := first | omega | (simp only [AM.DB, List.length_set, List.length_map]; first | done | omega)) only [AM.RB, Nat.reduceAdd, Nat.reduceMul, Nat.reduceEqDiff, reduceCtorEq, b7_RT23, e1, e2, decide_eq_true c3, decide_eq_true m1, d4]) | refine AM.drawW_loose (id := 17) hp (by kernel_rfl) (by kernel_rfl) ?_ | refine AM.opW_tied (by kernel_rfl) ?_ | refine AM.opW_untied (by kernel_rfl) ?_))
  case' inr =>
    (repeat' (first | (simp (maxSteps := 1000000) (disch := first | omega | (simp only [AM.DB, List.length_set, List.length_map]; first | done | omega)) only [AM.RB, Nat.reduceAdd, Nat.reduceMul, Nat.reduceEqDiff, reduceCtorEq, b7_RT23, e1, e2, decide_eq_false c3]) | refine AM.drawW_loose (id := 17) hp (by kernel_rfl) (by kernel_rfl) ?_ | refine AM.opW_tied (by kernel_rfl) ?_ | refine AM.opW_untied (by kernel_rfl) ?_))
  all_goals
    rw [AM.cvW_new ul_9 ul_52 ul_5 hi8 hs8 hl0 (by omega)]
    (repeat' (first | (simp (maxSteps := 1000000) (disch := first | omega | (simp only [AM.DB, List.length_set, List.length_map]; first | done | omega)) only [AM.RB, Nat.reduceAdd, Nat.reduceMul, Nat.reduceEqDiff, reduceCtorEq, b7_RT23]) | refine AM.drawW_loose (id := 17) hp (by kernel_rfl) (by kernel_rfl) ?_ | refine AM.opW_tied (by kernel_rfl) ?_ | refine AM.opW_untied (by kernel_rfl) ?_))
    generalize hE_ : AHeap.alloc h6 _ = h7; obtain ⟨g7, fr7, n7, l7⟩ := AM.new_get hE_; clear hE_
    have o7 : Ow h7 5 1 (.slice (some ⟨h6.next, 0, none⟩) l.length l.length) l.length (l.map bV) := .inr ⟨_, _, _, _, _, rfl, Nat.le_refl _, g7, by simp, by rw [Nat.mul_one, List.drop_zero]; exact List.take_of_length_le (by rw [List.length_map]; exact Nat.le_refl _), by omega⟩
    have nb : ∀ id, idOf (.slice (some ⟨h6.next, 0, none⟩) l.length l.length) id → id = h6.next := fun id t => t
    have k7 := k6.fr0 fr7
    have hw7 := hw6.fr0 fr7
    have o67 := o6.fr0 fr7
    refine AM.loop_w hp 195 (fun i : Nat => [(1, .int .i64 fr), (2, .int .i64 to), (11, .bool true), (12, pv p), (16, .slice a4 A.length c4), (21, .slice (some ⟨h6.next, 0, none⟩) l.length l.length), (22, .int .i64 i)])
      (fun i h' => i ≤ A.length ∧ Ow h' 5 1 (.slice (some ⟨h6.next, 0, none⟩) l.length l.length) l.length ((textL (wallL L fr (A.take i))).map bV) ∧ Fr none' h6 h') (fun i => A.length - i) (by kernel_rfl) 0 ?_ ?_ ?_
    · simp (maxSteps := 1000000) (disch := first | omega | (simp only [AM.DB, List.length_set, List.length_map]; first | done | omega)) only [AM.RB, Nat.reduceAdd, Nat.reduceMul, Nat.reduceEqDiff, reduceCtorEq, b7_RT23]
      first | rfl | skip
    · exact ⟨Nat.zero_le _, by rw [ew, ← tx]; exact o7, fr7⟩
    rintro i h8 ρ8 ⟨hi, o8, fr8⟩
    have hl8 := fr8.hl (show h6.low ≤ h6.next by omega)
    have k8 := k6.fr0 fr8
    have oA8 := (o6.fr0 fr8).rd
    obtain ⟨kv8, tl8, mm8⟩ := k8.mp
    have wi := wallL_ok G fr A i hi
    (repeat' (first | (simp (maxSteps := 1000000) (disch := first | omega | (simp only [AM.DB, List.length_set, List.length_map]; first | done | omega)) only [AM.RB, Nat.reduceAdd, Nat.reduceMul, Nat.reduceEqDiff, reduceCtorEq, b7_RT23]) | refine AM.drawW_loose (id := 17) hp (by kernel_rfl) (by kernel_rfl) ?_ | refine AM.opW_tied (by kernel_rfl) ?_ | refine AM.opW_untied (by kernel_rfl) ?_))
    refine AM.condV_split (fun hlt => ?_) (fun hlt => ?_)
    · have hiA : i < A.length := by omega
      have wsu := wallL_succ L fr hiA
      obtain ⟨x, hx⟩ : ∃ x, A.getD i 0 = x := ⟨_, rfl⟩
      rw [hx] at wsu
      unfold wallS isW at wsu
      (repeat' (first | (simp (maxSteps := 1000000) (disch := first | omega | (simp only [AM.DB, List.length_set, List.length_map]; first | done | omega)) only [AM.RB, Nat.reduceAdd, Nat.reduceMul, Nat.reduceEqDiff, reduceCtorEq, b7_RT23, oA8.ia el_22, Rd.ldi oA8 lk_3, Int.toNat_natCast, hx]) | refine AM.drawW_loose (id := 17) hp (by kernel_rfl) (by kernel_rfl) ?_ | refine AM.opW_tied (by kernel_rfl) ?_ | refine AM.opW_untied (by kernel_rfl) ?_))
      refine free_w mm8 f.rows x _ ?_
      cases hfx : freeP L.flatten x with
      | false =>
        rw [hfx, Bool.false_and] at wsu
        simp only [Bool.false_eq_true, if_false] at wsu
        (repeat' (first | (simp (maxSteps := 1000000) (disch := first | omega | (simp only [AM.DB, List.length_set, List.length_map]; first | done | omega)) only [AM.RB, Nat.reduceAdd, Nat.reduceMul, Nat.reduceEqDiff, reduceCtorEq, b7_RT23, AM.wrap_i64]) | refine AM.drawW_loose (id := 17) hp (by kernel_rfl) (by kernel_rfl) ?_ | refine AM.opW_tied (by kernel_rfl) ?_ | refine AM.opW_untied (by kernel_rfl) ?_))
        refine ⟨i + 1, by omega, ?_, by omega, by rw [wsu]; exact o8, fr8⟩
        simp (maxSteps := 1000000) (disch := first | omega | (simp only [AM.DB, List.length_set, List.length_map]; first | done | omega)) only [AM.RB, Nat.reduceAdd, Nat.reduceMul, Nat.reduceEqDiff, reduceCtorEq, b7_RT23]
        first | rfl | skip
      | true =>
      rw [hfx, Bool.true_and] at wsu
      by_cases cx : x = fr
      · rw [decide_eq_true cx] at wsu
        simp only [Bool.not_true, Bool.false_eq_true, if_false] at wsu
        (repeat' (first | (simp (maxSteps := 1000000) (disch := first | omega | (simp only [AM.DB, List.length_set, List.length_map]; first | done | omega)) only [AM.RB, Nat.reduceAdd, Nat.reduceMul, Nat.reduceEqDiff, reduceCtorEq, b7_RT23, oA8.ia el_22, Rd.ldi oA8 lk_3, Int.toNat_natCast, hx, decide_eq_true cx, AM.wrap_i64]) | refine AM.drawW_loose (id := 17) hp (by kernel_rfl) (by kernel_rfl) ?_ | refine AM.opW_tied (by kernel_rfl) ?_ | refine AM.opW_untied (by kernel_rfl) ?_))
        refine ⟨i + 1, by omega, ?_, by omega, by rw [wsu]; exact o8, fr8⟩
        simp (maxSteps := 1000000) (disch := first | omega | (simp only [AM.DB, List.length_set, List.length_map]; first | done | omega)) only [AM.RB, Nat.reduceAdd, Nat.reduceMul, Nat.reduceEqDiff, reduceCtorEq, b7_RT23]
        first | rfl | skip
      rw [decide_eq_false cx] at wsu
      simp only [Bool.not_false, if_true] at wsu
      have hxr := freeP_in hfx
      obtain ⟨c, rfl⟩ := Int.eq_ofNat_of_zero_le hxr.1
      rw [Int.toNat_natCast] at wsu
      have hcN : c < L.flatten.length := by omega
      have q1 := tdiv_nat c (L.getD 0 []).length
      have q3 := tmod_nat c (L.getD 0 []).length
      have hrow : c / (L.getD 0 []).length < L.length := div_lt G.cols (by rw [← G.len]; exact hcN)
      have hcol := Nat.mod_lt c G.cols
      have r32 := G.r32
      have c32 := G.c32
      have hmul : c / (L.getD 0 []).length * ((L.getD 0 []).length + 1) ≤ 32 * 33 := Nat.mul_le_mul (by omega) (by omega)
      have w1 := wrap_nat (n := c / (L.getD 0 []).length) (by omega)
      have hnz : ((L.getD 0 []).length : Int) ≠ 0 := by have := G.cols; omega
      have hmi : ((c / (L.getD 0 []).length : Nat) : Int) * (((L.getD 0 []).length : Int) + 1) = ((c / (L.getD 0 []).length * ((L.getD 0 []).length + 1) : Nat) : Int) := by rw [Int.natCast_mul, Int.natCast_add]; rfl
      have hms : ((c / (L.getD 0 []).length * ((L.getD 0 []).length + 1) : Nat) : Int) + ((c % (L.getD 0 []).length : Nat) : Int) = ((c / (L.getD 0 []).length * ((L.getD 0 []).length + 1) + c % (L.getD 0 []).length : Nat) : Int) := by rw [Int.natCast_add]
      have tsc := text_setC (n := c) wi.all G.cols (by rw [wi.len]; exact hrow)
      have tli := textL_len wi.all
      have pin : c / (L.getD 0 []).length * ((L.getD 0 []).length + 1) + c % (L.getD 0 []).length < l.length := by
        have : l.length = L.length * ((L.getD 0 []).length + 1) := by rw [← tl, ← tx]
        rw [this]
        have := Nat.mul_le_mul_right ((L.getD 0 []).length + 1) (show c / (L.getD 0 []).length + 1 ≤ L.length by omega)
        rw [Nat.add_mul, Nat.one_mul] at this
        omega
      (repeat' (first | (simp (maxSteps := 1000000) (disch := first | omega | (simp only [AM.DB, List.length_set, List.length_map]; first | done | omega)) only [AM.RB, Nat.reduceAdd, Nat.reduceMul, Nat.reduceEqDiff, reduceCtorEq, b7_RT23, oA8.ia el_22, Rd.ldi oA8 lk_3, Int.toNat_natCast, hx, decide_eq_false cx]) | refine AM.drawW_loose (id := 17) hp (by kernel_rfl) (by kernel_rfl) ?_ | refine AM.opW_tied (by kernel_rfl) ?_ | refine AM.opW_untied (by kernel_rfl) ?_))
      refine cols_w mm8 f.rows _ ?_
      (repeat' (first | (simp (maxSteps := 1000000) (disch := first | omega | (simp only [AM.DB, List.length_set, List.length_map]; first | done | omega)) only [AM.RB, Nat.reduceAdd, Nat.reduceMul, Nat.reduceEqDiff, reduceCtorEq, b7_RT23, q1, w1]) | refine AM.drawW_loose (id := 17) hp (by kernel_rfl) (by kernel_rfl) ?_ | refine AM.opW_tied (by kernel_rfl) ?_ | refine AM.opW_untied (by kernel_rfl) ?_))
      refine cols_w mm8 f.rows _ ?_
      have wC : IntKind.i64.wrap (((L.getD 0 []).length : Int) + 1) = ((L.getD 0 []).length : Int) + 1 := AM.wrap_i64 (by omega) (by omega)
      have w2 := wrap_nat (n := c / (L.getD 0 []).length * ((L.getD 0 []).length + 1)) (by omega)
      have w3 := wrap_nat (n := c % (L.getD 0 []).length) (by omega)
      have w4 := wrap_nat (n := c / (L.getD 0 []).length * ((L.getD 0 []).length + 1) + c % (L.getD 0 []).length) (by omega)
      obtain ⟨pos, hpos⟩ : ∃ pos, c / (L.getD 0 []).length * ((L.getD 0 []).length + 1) + c % (L.getD 0 []).length = pos := ⟨_, rfl⟩
      rw [hpos] at hms w4 pin tsc
      (repeat' (first | (simp (maxSteps := 1000000) (disch := first | omega | (simp only [AM.DB, List.length_set, List.length_map]; first | done | omega)) only [AM.RB, Nat.reduceAdd, Nat.reduceMul, Nat.reduceEqDiff, reduceCtorEq, b7_RT23, wC, hmi, w2, oA8.ia el_22, Rd.ldi oA8 lk_3, Int.toNat_natCast, hx]) | refine AM.drawW_loose (id := 17) hp (by kernel_rfl) (by kernel_rfl) ?_ | refine AM.opW_tied (by kernel_rfl) ?_ | refine AM.opW_untied (by kernel_rfl) ?_))
      refine cols_w mm8 f.rows _ ?_
      (repeat' (first | (simp (maxSteps := 1000000) (disch := first | omega | (simp only [AM.DB, List.length_set, List.length_map]; first | done | omega)) only [AM.RB, Nat.reduceAdd, Nat.reduceMul, Nat.reduceEqDiff, reduceCtorEq, b7_RT23, q3, w3, hms, w4, o8.ia el_52, Int.toNat_natCast]) | refine AM.drawW_loose (id := 17) hp (by kernel_rfl) (by kernel_rfl) ?_ | refine AM.opW_tied (by kernel_rfl) ?_ | refine AM.opW_untied (by kernel_rfl) ?_))
      refine o8.st sz_5 (j := pos) (by omega) rfl rfl fun h9 o9 fr9 n9 => ?_
      rw [show (Value.int .u8 35) = bV 35 from rfl, bset, ← tsc, ← wsu] at o9
      have oA9 := oA8.fr fr9 (fun id e t => by have := nb id t; have := o6.lt e; omega)
      (repeat' (first | (simp (maxSteps := 1000000) (disch := first | omega | (simp only [AM.DB, List.length_set, List.length_map]; first | done | omega)) only [AM.RB, Nat.reduceAdd, Nat.reduceMul, Nat.reduceEqDiff, reduceCtorEq, b7_RT23]) | refine AM.drawW_loose (id := 17) hp (by kernel_rfl) (by kernel_rfl) ?_ | refine AM.opW_tied (by kernel_rfl) ?_ | refine AM.opW_untied (by kernel_rfl) ?_))
      refine ⟨AM.looseOk_by [(4, [0, 7, 10, 18]), (15, [0, 7, 10, 18])] (by kernel_rfl) ?_, ?_⟩
      · simp (maxSteps := 1000000) (disch := first | omega | (simp only [AM.DB, List.length_set, List.length_map]; first | done | omega)) only [AM.RB, Nat.reduceAdd, Nat.reduceMul, Nat.reduceEqDiff, reduceCtorEq, b7_RT23]
        (repeat' apply And.intro) <;> (first | (refine AM.stable_len _ _ _ _ _ _ (fun _ => ?_); (simp (maxSteps := 1000000) (disch := first | omega | (simp only [AM.DB, List.length_set, List.length_map]; first | done | omega)) only [AM.RB, Nat.reduceAdd, Nat.reduceMul, Nat.reduceEqDiff, reduceCtorEq, b7_RT23, oA8.ia el_22, Rd.ldi oA8 lk_3, oA9.ia el_22, Rd.ldi oA9 lk_3, Int.toNat_natCast, hx])) | (refine AM.stable_load _ _ _ _ _ _ ?_; (first | (simp (maxSteps := 1000000) (disch := first | omega | (simp only [AM.DB, List.length_set, List.length_map]; first | done | omega)) only [AM.RB, Nat.reduceAdd, Nat.reduceMul, Nat.reduceEqDiff, reduceCtorEq, b7_RT23, oA8.ia el_22, Rd.ldi oA8 lk_3, oA9.ia el_22, Rd.ldi oA9 lk_3, Int.toNat_natCast, hx]) | skip); (first | (refine AM.stabL_int (by omega) ?_; (simp (maxSteps := 1000000) (disch := first | omega | (simp only [AM.DB, List.length_set, List.length_map]; first | done | omega)) only [AM.RB, Nat.reduceAdd, Nat.reduceMul, Nat.reduceEqDiff, reduceCtorEq, b7_RT23, oA8.ia el_22, Rd.ldi oA8 lk_3, oA9.ia el_22, Rd.ldi oA9 lk_3, Int.toNat_natCast, hx])) | (refine AM.stabL_ptr (by omega) (by omega) ?_; (simp (maxSteps := 1000000) (disch := first | omega | (simp only [AM.DB, List.length_set, List.length_map]; first | done | omega)) only [AM.RB, Nat.reduceAdd, Nat.reduceMul, Nat.reduceEqDiff, reduceCtorEq, b7_RT23, oA8.ia el_22, Rd.ldi oA8 lk_3, oA9.ia el_22, Rd.ldi oA9 lk_3, Int.toNat_natCast, hx])) | (refine AM.stabL_string (by omega) ?_; (simp (maxSteps := 1000000) (disch := first | omega | (simp only [AM.DB, List.length_set, List.length_map]; first | done | omega)) only [AM.RB, Nat.reduceAdd, Nat.reduceMul, Nat.reduceEqDiff, reduceCtorEq, b7_RT23, oA8.ia el_22, Rd.ldi oA8 lk_3, oA9.ia el_22, Rd.ldi oA9 lk_3, Int.toNat_natCast, hx])) | (refine AM.stabL_bool (by omega) ?_; (simp (maxSteps := 1000000) (disch := first | omega | (simp only [AM.DB, List.length_set, List.length_map]; first | done | omega)) only [AM.RB, Nat.reduceAdd, Nat.reduceMul, Nat.reduceEqDiff, reduceCtorEq, b7_RT23, oA8.ia el_22, Rd.ldi oA8 lk_3, oA9.ia el_22, Rd.ldi oA9 lk_3, Int.toNat_natCast, hx])) | (refine AM.stabL_rd oA8 (by omega) (by omega) ?_; (simp (maxSteps := 1000000) (disch := first | omega | (simp only [AM.DB, List.length_set, List.length_map]; first | done | omega)) only [AM.RB, Nat.reduceAdd, Nat.reduceMul, Nat.reduceEqDiff, reduceCtorEq, b7_RT23, oA8.ia el_22, Rd.ldi oA8 lk_3, oA9.ia el_22, Rd.ldi oA9 lk_3, Int.toNat_natCast, hx])) | (refine AM.stabL_rd oA9 (by omega) (by omega) ?_; (simp (maxSteps := 1000000) (disch := first | omega | (simp only [AM.DB, List.length_set, List.length_map]; first | done | omega)) only [AM.RB, Nat.reduceAdd, Nat.reduceMul, Nat.reduceEqDiff, reduceCtorEq, b7_RT23, oA8.ia el_22, Rd.ldi oA8 lk_3, oA9.ia el_22, Rd.ldi oA9 lk_3, Int.toNat_natCast, hx])) | (refine AM.stabL_elS oA8 (by omega) (by omega) ?_; (simp (maxSteps := 1000000) (disch := first | omega | (simp only [AM.DB, List.length_set, List.length_map]; first | done | omega)) only [AM.RB, Nat.reduceAdd, Nat.reduceMul, Nat.reduceEqDiff, reduceCtorEq, b7_RT23, oA8.ia el_22, Rd.ldi oA8 lk_3, oA9.ia el_22, Rd.ldi oA9 lk_3, Int.toNat_natCast, hx])) | (refine AM.stabL_elI oA8 (by omega) (by omega) ?_; (simp (maxSteps := 1000000) (disch := first | omega | (simp only [AM.DB, List.length_set, List.length_map]; first | done | omega)) only [AM.RB, Nat.reduceAdd, Nat.reduceMul, Nat.reduceEqDiff, reduceCtorEq, b7_RT23, oA8.ia el_22, Rd.ldi oA8 lk_3, oA9.ia el_22, Rd.ldi oA9 lk_3, Int.toNat_natCast, hx])) | (refine AM.stabL_elS oA9 (by omega) (by omega) ?_; (simp (maxSteps := 1000000) (disch := first | omega | (simp only [AM.DB, List.length_set, List.length_map]; first | done | omega)) only [AM.RB, Nat.reduceAdd, Nat.reduceMul, Nat.reduceEqDiff, reduceCtorEq, b7_RT23, oA8.ia el_22, Rd.ldi oA8 lk_3, oA9.ia el_22, Rd.ldi oA9 lk_3, Int.toNat_natCast, hx])) | (refine AM.stabL_elI oA9 (by omega) (by omega) ?_; (simp (maxSteps := 1000000) (disch := first | omega | (simp only [AM.DB, List.length_set, List.length_map]; first | done | omega)) only [AM.RB, Nat.reduceAdd, Nat.reduceMul, Nat.reduceEqDiff, reduceCtorEq, b7_RT23, oA8.ia el_22, Rd.ldi oA8 lk_3, oA9.ia el_22, Rd.ldi oA9 lk_3, Int.toNat_natCast, hx])))))
      (repeat' (first | (simp (maxSteps := 1000000) (disch := first | omega | (simp only [AM.DB, List.length_set, List.length_map]; first | done | omega)) only [AM.RB, Nat.reduceAdd, Nat.reduceMul, Nat.reduceEqDiff, reduceCtorEq, b7_RT23, AM.wrap_i64]) | refine AM.drawW_loose (id := 17) hp (by kernel_rfl) (by kernel_rfl) ?_ | refine AM.opW_tied (by kernel_rfl) ?_ | refine AM.opW_untied (by kernel_rfl) ?_))
      refine ⟨i + 1, by omega, ?_, by omega, o9, fr8.fresh fr9 (fun id e => by have := nb id e; omega)⟩
      simp (maxSteps := 1000000) (disch := first | omega | (simp only [AM.DB, List.length_set, List.length_map]; first | done | omega)) only [AM.RB, Nat.reduceAdd, Nat.reduceMul, Nat.reduceEqDiff, reduceCtorEq, b7_RT23]
      first | rfl | skip
    obtain rfl : i = A.length := by omega
    rw [List.take_length] at wi o8
    have wv := wal_verd G wi hb.1
    generalize wallL L fr A = L' at *
    have cv := AM.cv_bytes ul_52 ul_5 ul_9 (l := (textL L').map fun c => (c.toNat : Int)) (by rw [← bytes_ints]; exact o8.rd)
    rw [bsOf_bytes] at cv
    have tl' := textL_len wi.all
    rw [wi.len, ← tl, ← tx] at tl'
    (repeat' (first | (simp (maxSteps := 1000000) (disch := first | omega | (simp only [AM.DB, List.length_set, List.length_map]; first | done | omega)) only [AM.RB, Nat.reduceAdd, Nat.reduceMul, Nat.reduceEqDiff, reduceCtorEq, b7_RT23, cv]) | refine AM.drawW_loose (id := 17) hp (by kernel_rfl) (by kernel_rfl) ?_ | refine AM.opW_tied (by kernel_rfl) ?_ | refine AM.opW_untied (by kernel_rfl) ?_))
    refine parseV_w (textL L') (by omega) hl8 (fun a' b' hv' h9 fr9 => ?_) (fun L2 hv' p2 kv2 h9 m9 fr9 hp9 hid9 => ?_)
    · rw [wv] at hv'; cases hv'
    rw [wv] at hv'; cases hv'
    have G' := verd_good wv
    have f' := G'.fit
    have hbd' : L'.length ≤ 4000000 ∧ (L'.getD 0 []).length ≤ 4000000 := by have := f'.r32; have := f'.c32; omega
    have nx8 := fr8.next
    have lw8 := fr8.low
    have nx9 := fr9.next
    have lw9 := fr9.low
    have lp2 := AM.get_some_lt m9.1
    have hw9 := (hw6.fr0 fr8).fr0 fr9
    have k2' : Mk h9 p2 L' none' := Mk.start m9 hp9 hid9 fr9.next (fun id e => e.elim)
    have k9 : Mk h9 p L (fun id => id = p2) := k8.more fr9 fun id e => .inr (by omega)
    have hgp2 : ¬ GW = p2 := by omega
    have oA9 := (o6.fr0 fr8).fr0 fr9
    have hpA2 : ∀ id, idOf (.slice a4 A.length c4) id → ¬ id = p2 := fun id e => by have := o6.lt e; omega
    (repeat' (first | (simp (maxSteps := 1000000) (disch := first | omega | (simp only [AM.DB, List.length_set, List.length_map]; first | done | omega)) only [AM.RB, Nat.reduceAdd, Nat.reduceMul, Nat.reduceEqDiff, reduceCtorEq, b7_RT23, d00]) | refine AM.drawW_loose (id := 17) hp (by kernel_rfl) (by kernel_rfl) ?_ | refine AM.opW_tied (by kernel_rfl) ?_ | refine AM.opW_untied (by kernel_rfl) ?_))
    refine cells_w m9 f'.rows hbd' _ ?_
    rw [← f'.len]
    (repeat' (first | (simp (maxSteps := 1000000) (disch := first | omega | (simp only [AM.DB, List.length_set, List.length_map]; first | done | omega)) only [AM.RB, Nat.reduceAdd, Nat.reduceMul, Nat.reduceEqDiff, reduceCtorEq, b7_RT23]) | refine AM.drawW_loose (id := 17) hp (by kernel_rfl) (by kernel_rfl) ?_ | refine AM.opW_tied (by kernel_rfl) ?_ | refine AM.opW_untied (by kernel_rfl) ?_))
    refine find_w k2' f' hw9 (by omega) hgp2 (by omega) fr to L'.flatten.length (B := []) (AM.Rd.nil _ _ _) (by omega) fun v10 h10 o10 k10' fr10 hid10 => ?_
    have fl10 := findR_len f' [] fr to L'.flatten.length
    obtain ⟨a10, c10, rfl⟩ := o10.form
    have k10 := k9.frB fr10 fun id e => e
    have hw10 := fr10.get hw9 hgp2
    have lw10 := fr10.low
    have nx10 := fr10.next
    have oA10 := oA9.fr fr10 hpA2
    obtain ⟨kv10, tl10, mm10⟩ := k10.mp
    (repeat' (first | (simp (maxSteps := 1000000) (disch := first | omega | (simp only [AM.DB, List.length_set, List.length_map]; first | done | omega)) only [AM.RB, Nat.reduceAdd, Nat.reduceMul, Nat.reduceEqDiff, reduceCtorEq, b7_RT23]) | refine AM.drawW_loose (id := 17) hp (by kernel_rfl) (by kernel_rfl) ?_ | refine AM.opW_tied (by kernel_rfl) ?_ | refine AM.opW_untied (by kernel_rfl) ?_))
    refine cells_w mm10 f.rows hbd _ ?_
    rw [← f.len]
    (repeat' (first | (simp (maxSteps := 1000000) (disch := first | omega | (simp only [AM.DB, List.length_set, List.length_map]; first | done | omega)) only [AM.RB, Nat.reduceAdd, Nat.reduceMul, Nat.reduceEqDiff, reduceCtorEq, b7_RT23]) | refine AM.drawW_loose (id := 17) hp (by kernel_rfl) (by kernel_rfl) ?_ | refine AM.opW_tied (by kernel_rfl) ?_ | refine AM.opW_untied (by kernel_rfl) ?_))
    refine find_w k10 f hw10 (by omega) hgp (by omega) fr to L.flatten.length oA10.rd (by omega) fun v11 h11 o11 k11 fr11 hid11 => ?_
    obtain ⟨a11, c11, rfl⟩ := o11.form
    have hp10 : ∀ id, idOf (.slice a10 (findR L' [] fr to L'.flatten.length).1.length c10) id → ¬ id = p := fun id e => by have := hid10 id e; omega
    have o10' := o10.fr fr11 hp10
    cases ho : outB A fr to with
    | true =>
      obtain ⟨r1, r2⟩ := wal_out G G' wi hb ho (b := L.flatten.length) (b' := L'.flatten.length) (by omega)
      (repeat' (first | (simp (maxSteps := 1000000) (disch := first | omega | (simp only [AM.DB, List.length_set, List.length_map]; first | done | omega)) only [AM.RB, Nat.reduceAdd, Nat.reduceMul, Nat.reduceEqDiff, reduceCtorEq, b7_RT23, decide_eq_true r1, decide_eq_true r2]) | refine AM.drawW_loose (id := 17) hp (by kernel_rfl) (by kernel_rfl) ?_ | refine AM.opW_tied (by kernel_rfl) ?_ | refine AM.opW_untied (by kernel_rfl) ?_))
    | false =>
      obtain ⟨_, r1⟩ := wal_find G G' wi hb ho (b := L.flatten.length) (b' := L'.flatten.length) (by omega) (by omega)
      have r2 : ¬ (findR L A fr to L.flatten.length).2 = 2 := by
        rcases find_cases (B := A) f hb (b := L.flatten.length) (by omega) with ⟨e, _⟩ | ⟨D, e, _⟩
        · rw [e]; simp
        · rw [e]; simp
      rw [r1] at o10' fl10 ⊢
      (repeat' (first | (simp (maxSteps := 1000000) (disch := first | omega | (simp only [AM.DB, List.length_set, List.length_map]; first | done | omega)) only [AM.RB, Nat.reduceAdd, Nat.reduceMul, Nat.reduceEqDiff, reduceCtorEq, b7_RT23, decide_eq_false r2, decide_eq_true (rfl : (findR L A fr to L.flatten.length).2 = (findR L A fr to L.flatten.length).2)]) | refine AM.drawW_loose (id := 17) hp (by kernel_rfl) (by kernel_rfl) ?_ | refine AM.opW_tied (by kernel_rfl) ?_ | refine AM.opW_untied (by kernel_rfl) ?_))
      refine same_w o10'.rd o11.rd (by omega) ?_
      rw [decide_eq_true rfl]
      (repeat' (first | (simp (maxSteps := 1000000) (disch := first | omega | (simp only [AM.DB, List.length_set, List.length_map]; first | done | omega)) only [AM.RB, Nat.reduceAdd, Nat.reduceMul, Nat.reduceEqDiff, reduceCtorEq, b7_RT23]) | refine AM.drawW_loose (id := 17) hp (by kernel_rfl) (by kernel_rfl) ?_ | refine AM.opW_tied (by kernel_rfl) ?_ | refine AM.opW_untied (by kernel_rfl) ?_))
end Go.Proofs.YtgdcbjpookldoaaDoor
