/- Walks of this claim's functions, and plain laws. -/
import Derived.Test.YtgdcbjpookldoaaDoorWe
set_option linter.unusedSimpArgs false
set_option linter.unusedVariables false
namespace Go.Proofs.YtgdcbjpookldoaaDoor
open Go.AM
set_option maxRecDepth 8000
theorem b34_RT17 : type_of% (And.intro (@AM.bin_add) (And.intro (@AM.bin_eql) (And.intro (@AM.bin_lss) (And.intro (@AM.iaO_ok) (And.intro (AM.ia_slice el_22) (And.intro (@AM.ldO_agg) (And.intro (@AM.ldO_one) (And.intro (@AM.ld_ptr) (And.intro (AM.len_slice ul_22) (And.intro (@lk_3) (And.intro (@AM.op_binOp) (And.intro (@AM.op_indexAddr) (And.intro (@AM.op_len) (@AM.op_load)))))))))))))) := And.intro (@AM.bin_add) (And.intro (@AM.bin_eql) (And.intro (@AM.bin_lss) (And.intro (@AM.iaO_ok) (And.intro (AM.ia_slice el_22) (And.intro (@AM.ldO_agg) (And.intro (@AM.ldO_one) (And.intro (@AM.ld_ptr) (And.intro (AM.len_slice ul_22) (And.intro (@lk_3) (And.intro (@AM.op_binOp) (And.intro (@AM.op_indexAddr) (And.intro (@AM.op_len) (@AM.op_load)))))))))))))
theorem b35_RT17 : type_of% (And.intro (@AM.bin_add) (And.intro (@AM.bin_lss) (And.intro (@AM.bin_neq) (And.intro (AM.bsW_int bs_22) (And.intro (AM.bsW_nil bs_22) (And.intro (AM.bsW_slice bs_22) (And.intro (AM.bsW_string bs_22) (And.intro (@AM.iaO_ok) (And.intro (AM.ia_slice el_22) (And.intro (@AM.ldO_agg) (And.intro (@AM.ldO_one) (And.intro (@AM.ld_ptr) (And.intro (AM.len_slice ul_22) (And.intro (@lk_3) (And.intro (@AM.op_append) (And.intro (@AM.op_binOp) (And.intro (@AM.op_buildSlice) (And.intro (@AM.op_indexAddr) (And.intro (@AM.op_len) (@AM.op_load)))))))))))))))))))) := And.intro (@AM.bin_add) (And.intro (@AM.bin_lss) (And.intro (@AM.bin_neq) (And.intro (AM.bsW_int bs_22) (And.intro (AM.bsW_nil bs_22) (And.intro (AM.bsW_slice bs_22) (And.intro (AM.bsW_string bs_22) (And.intro (@AM.iaO_ok) (And.intro (AM.ia_slice el_22) (And.intro (@AM.ldO_agg) (And.intro (@AM.ldO_one) (And.intro (@AM.ld_ptr) (And.intro (AM.len_slice ul_22) (And.intro (@lk_3) (And.intro (@AM.op_append) (And.intro (@AM.op_binOp) (And.intro (@AM.op_buildSlice) (And.intro (@AM.op_indexAddr) (And.intro (@AM.op_len) (@AM.op_load)))))))))))))))))))


/-! ### Forth and back -/
theorem out_self (B : List Int) (f : Int) : outB B f f = false := by unfold outB; simp
theorem nbA_iff {L : List (List UInt8)} (f : Fit L) {B : List Int} {fr a b : Int} : b ∈ nbA L B fr a ↔ edgeL L a b = true ∧ outB B fr b = false := by
  show b ∈ keptL B fr (nextL L a) ↔ _
  unfold keptL
  rw [List.mem_filter, nextL_iff f]
  simp
theorem nbB_iff {L : List (List UInt8)} (f : Fit L) {B : List Int} {fr a b : Int} : b ∈ nbB L B fr a ↔ edgeL L b a = true ∧ outB B fr b = false := by
  show b ∈ keptL B fr (backL L a) ↔ _
  unfold keptL
  rw [List.mem_filter, backL_iff f]
  simp
theorem wk_one {N : Int → List Int} {a b : Int} (h : b ∈ N a) : Wk N a 1 b := .step .zero h
theorem forth {L : List (List UInt8)} (f : Fit L) {B : List Int} {fr s : Int} {k : Nat} {z : Int} (hs : outB B fr s = false) (w : Wk (nbB L B fr) s k z) : outB B fr z = false ∧ Wk (nbA L B fr) z k s := by
  induction w with
  | zero => exact ⟨hs, .zero⟩
  | step w hc ih =>
    obtain ⟨i1, i2⟩ := ih
    obtain ⟨e, o⟩ := (nbB_iff f).1 hc
    refine ⟨o, ?_⟩
    have := (wk_one ((nbA_iff f).2 ⟨e, i1⟩)).trans i2
    rwa [Nat.add_comm] at this
theorem backw {L : List (List UInt8)} (f : Fit L) {B : List Int} {fr s : Int} {k : Nat} {z : Int} (hs : outB B fr s = false) (w : Wk (nbA L B fr) s k z) : outB B fr z = false ∧ Wk (nbB L B fr) z k s := by
  induction w with
  | zero => exact ⟨hs, .zero⟩
  | step w hc ih =>
    obtain ⟨i1, i2⟩ := ih
    obtain ⟨e, o⟩ := (nbA_iff f).1 hc
    refine ⟨o, ?_⟩
    have := (wk_one ((nbB_iff f).2 ⟨e, i1⟩)).trans i2
    rwa [Nat.add_comm] at this
/-! ### The path that Find tells -/
theorem kept_of_dist {L : List (List UInt8)} {B : List Int} {fr to x : Int} (ho : outB B fr to = false) {k : Nat} (w : Wk (nbB L B fr) to k x) : outB B fr x = false := by
  cases w with
  | zero => exact ho
  | step w hc => have := (List.mem_filter.1 hc).2; simpa using this
theorem path_ok {L : List (List UInt8)} (f : Fit L) {B : List Int} {fr to : Int} (ht : 0 ≤ to ∧ to < L.flatten.length) (ho : outB B fr to = false) : ∀ (n : Nat) (c : Int), (0 ≤ c ∧ c < L.flatten.length) → (dtoL L B fr to).getD c.toNat 0 = n →
    (pathL L (dtoL L B fr to) c n).getD 0 0 = c ∧ (pathL L (dtoL L B fr to) c n).getD n 0 = to ∧ ∀ i, i < n → edgeL L ((pathL L (dtoL L B fr to) c n).getD i 0) ((pathL L (dtoL L B fr to) c n).getD (i + 1) 0) = true ∧ outB B fr ((pathL L (dtoL L B fr to) c n).getD (i + 1) 0) = false ∧ (dtoL L B fr to).getD ((pathL L (dtoL L B fr to) c n).getD (i + 1) 0).toNat 0 = (n : Int) - (i + 1 : Nat)
  | 0, c, hc, h => by
    have D := dto_is f ht ho (fr := fr)
    have : c = to := D.self hc (by omega)
    refine ⟨rfl, ?_, fun i hi => by omega⟩
    rw [← this]; rfl
  | n + 1, c, hc, h => by
    have D := dto_is f ht ho (fr := fr)
    have nn := near_next f ht ho hc (by omega)
    rw [show (dtoL L B fr to).getD c.toNat 0 - 1 = (n : Int) by omega] at nn
    obtain ⟨a1, a2⟩ := atL_cons nn
    have e : nextTo L (dtoL L B fr to) c n = atL (hitP (dtoL L B fr to) n) (nextL L c) := rfl
    rw [← e] at a1 a2
    have a3 : (dtoL L B fr to).getD (nextTo L (dtoL L B fr to) c n).toNat 0 = n := of_decide_eq_true a2
    have a4 := nextL_in f a1
    have a5 := (nextL_iff f).1 a1
    have a6 := kept_of_dist ho (D.yes _ a4.1 a4.2 (by omega)).1
    obtain ⟨p0, pn, pe⟩ := path_ok f ht ho n _ a4 a3
    rw [pathL]
    generalize nextTo L (dtoL L B fr to) c n = x at *
    refine ⟨rfl, ?_, fun i hi => ?_⟩
    · rw [List.getD_cons_succ]; exact pn
    · rcases i with _ | i
      · rw [List.getD_cons_succ, p0]
        exact ⟨a5, a6, by rw [a3]; omega⟩
      · rw [List.getD_cons_succ, List.getD_cons_succ]
        obtain ⟨q1, q2, q3⟩ := pe i (by omega)
        exact ⟨q1, q2, by rw [q3]; omega⟩
/-- What Find says, when its budget suffices. -/
theorem find_cases {L : List (List UInt8)} (f : Fit L) {B : List Int} {fr to b : Int} (hb : bothF L fr to) (hbig : (L.flatten.length : Int) ≤ b) : (findR L B fr to b = ([], 40) ∧ ∀ k, ¬ (outB B fr to = false ∧ Wk (nbB L B fr) to k fr)) ∨ ∃ D : Nat, findR L B fr to b = (pathL L (dtoL L B fr to) fr D, 0) ∧ outB B fr to = false ∧ (dtoL L B fr to).getD fr.toNat 0 = D ∧ isD (nbB L B fr) to fr D := by
  have hK := f.k1024
  have ha := freeP_in hb.1
  have hbb := freeP_in hb.2
  have ln := looksN_le L (dtoL L B fr to) fr L.flatten.length
  unfold findR
  rw [if_neg (fun e => e hb), if_neg (by omega)]
  by_cases c : (dtoL L B fr to).getD fr.toNat 0 < 0
  · rw [if_pos c]
    refine .inl ⟨rfl, fun k w => ?_⟩
    exact ((dto_is f hbb w.1).no fr ha.1 ha.2 c).2 k w.2
  · rw [if_neg c]
    have ho : outB B fr to = false := by
      cases ho : outB B fr to with
      | false => rfl
      | true => have := (out_dto ha ho (L := L)).1; omega
    obtain ⟨D, hD⟩ := Int.eq_ofNat_of_zero_le (show 0 ≤ (dtoL L B fr to).getD fr.toNat 0 by omega)
    have d := (dto_is f hbb ho).yes fr ha.1 ha.2 (by omega)
    rw [hD, Int.toNat_natCast] at d
    exact .inr ⟨D, by rw [hD, Int.toNat_natCast], ho, hD, d⟩
/-- A list without a number. -/
def withoutL (B : List Int) (n : Int) : List Int := B.filter fun x => !decide (x = n)
theorem withoutL_succ {B : List Int} {n : Int} {i : Nat} (hi : i < B.length) : withoutL (B.take (i + 1)) n = withoutL (B.take i) n ++ if B.getD i 0 = n then [] else [B.getD i 0] := by
  unfold withoutL
  have e : B.getD i 0 = B[i] := by simp [List.getD, hi]
  rw [List.take_succ_eq_append_getElem hi, List.filter_append, e]
  by_cases h : B[i] = n <;> simp [h]
theorem withoutL_mem {B : List Int} {n x : Int} : x ∈ withoutL B n ↔ outB B n x = true := by
  unfold withoutL outB
  rw [List.mem_filter]; simp
theorem path_chk {L : List (List UInt8)} (f : Fit L) {B : List Int} {fr to : Int} (hb : bothF L fr to) (ho : outB B fr to = false) {D : Nat} (hD : (dtoL L B fr to).getD fr.toNat 0 = D) : chkR L (withoutL B fr) (pathL L (dtoL L B fr to) fr D) = 0 := by
  obtain ⟨p0, pn, pe⟩ := path_ok f (freeP_in hb.2) ho D fr (freeP_in hb.1) hD
  have pl := pathL_len L (dtoL L B fr to) D fr
  generalize pathL L (dtoL L B fr to) fr D = X at *
  unfold chkR
  rw [if_neg (by omega), pl, Nat.add_sub_cancel, p0, pn, if_pos ⟨hb.1, hb.2⟩, if_pos]
  unfold okN
  rw [List.all_eq_true]
  intro i hi
  obtain ⟨q1, q2, _⟩ := pe i (List.mem_range.1 hi)
  unfold okS
  rw [q1]
  have : ¬ X.getD (i + 1) 0 ∈ withoutL B fr := fun t => by rw [withoutL_mem, q2] at t; cases t
  simp only [Bool.true_and, Bool.not_eq_true', decide_eq_false_iff_not]
  exact this

theorem has_w {s : Value} {n : Nat} {l : List Int} {h : AHeap} (hs : Rd h 3 1 s n (l.map (.int .i64))) (hn : n ≤ 4000000) (x : Int) {Q : VQ} (hq : Q (.bool (decide (x ∈ l))) h) : W 34 [s, .int .i64 x] h Q := by
  obtain ⟨sa, sc, rfl⟩ := hs.form
  have hl : l.length = n := by have := hs.length; rw [List.length_map] at this; omega
  refine AM.enter hp (fn := Tryd.f34) (rs := [.tmp 4]) (nt := 18) (by kernel_rfl) Tryd.func34 rfl rfl rfl (by kernel_rfl) ?_
  (first | (simp (maxSteps := 1000000) (disch := first | omega | (simp only [AM.DB, List.length_set, List.length_map]; first | done | omega)) only [AM.RB, Nat.reduceAdd, Nat.reduceMul, Nat.reduceEqDiff, reduceCtorEq, b34_RT17]) | skip)
  refine AM.loop_w hp 18 (fun i : Nat => [(0, .slice sa n sc), (1, .int .i64 x), (5, .int .i64 i)])
    (fun i h' => h' = h ∧ i ≤ n ∧ decide (x ∈ l.take i) = false) (fun i => n - i) (by kernel_rfl) 0 ?_ ?_ ?_
  · simp (maxSteps := 1000000) (disch := first | omega | (simp only [AM.DB, List.length_set, List.length_map]; first | done | omega)) only [AM.RB, Nat.reduceAdd, Nat.reduceMul, Nat.reduceEqDiff, reduceCtorEq, b34_RT17]
    first | rfl | skip
  · exact ⟨rfl, Nat.zero_le _, by simp⟩
  rintro i h1 ρ ⟨rfl, hi, ho⟩
  (first | (simp (maxSteps := 1000000) (disch := first | omega | (simp only [AM.DB, List.length_set, List.length_map]; first | done | omega)) only [AM.RB, Nat.reduceAdd, Nat.reduceMul, Nat.reduceEqDiff, reduceCtorEq, b34_RT17]) | skip)
  refine AM.condV_split (fun hlt => ?_) (fun hlt => ?_)
  · have hin : i < l.length := by omega
    have tm := take_all_mem (l := l) (i := i) hin x
    rw [ho, Bool.false_or] at tm
    by_cases c : l.getD i 0 = x
    · have mem : x ∈ l := by
        rw [← c]
        have e : l.getD i 0 = l[i] := by simp [List.getD, hin]
        rw [e]; exact List.getElem_mem _
      rw [decide_eq_true mem] at hq
      (first | (simp (maxSteps := 1000000) (disch := first | omega | (simp only [AM.DB, List.length_set, List.length_map]; first | done | omega)) only [AM.RB, Nat.reduceAdd, Nat.reduceMul, Nat.reduceEqDiff, reduceCtorEq, b34_RT17, hs.ia el_22, Rd.ldi hs lk_3, Int.toNat_natCast, decide_eq_true c]) | skip)
      exact hq
    · rw [decide_eq_false c] at tm
      (first | (simp (maxSteps := 1000000) (disch := first | omega | (simp only [AM.DB, List.length_set, List.length_map]; first | done | omega)) only [AM.RB, Nat.reduceAdd, Nat.reduceMul, Nat.reduceEqDiff, reduceCtorEq, b34_RT17, hs.ia el_22, Rd.ldi hs lk_3, Int.toNat_natCast, decide_eq_false c, AM.wrap_i64]) | skip)
      refine ⟨i + 1, by omega, ?_, by omega, tm⟩
      simp (maxSteps := 1000000) (disch := first | omega | (simp only [AM.DB, List.length_set, List.length_map]; first | done | omega)) only [AM.RB, Nat.reduceAdd, Nat.reduceMul, Nat.reduceEqDiff, reduceCtorEq, b34_RT17]
      first | rfl | skip
  · obtain rfl : i = n := by omega
    rw [List.take_of_length_le (by omega)] at ho
    rw [ho] at hq
    (first | (simp (maxSteps := 1000000) (disch := first | omega | (simp only [AM.DB, List.length_set, List.length_map]; first | done | omega)) only [AM.RB, Nat.reduceAdd, Nat.reduceMul, Nat.reduceEqDiff, reduceCtorEq, b34_RT17]) | skip)
    exact hq
theorem without4_w {s : Value} {n : Nat} {l : List Int} {h : AHeap} (hs : Rd h 3 1 s n (l.map (.int .i64))) (hn : n ≤ 4000000) (hl : h.low ≤ h.next) (x : Int) {Q : VQ} (hq : ∀ v h', Ow h' 3 1 v (withoutL l x).length ((withoutL l x).map (.int .i64)) → Fr none' h h' → (∀ id, idOf v id → h.next ≤ id) → Q v h') : W 35 [s, .int .i64 x] h Q := by
  obtain ⟨sa, sc, rfl⟩ := hs.form
  have hll : l.length = n := by have := hs.length; rw [List.length_map] at this; omega
  refine AM.enter hp (fn := Tryd.f35) (rs := [.tmp 4]) (nt := 27) (by kernel_rfl) Tryd.func35 rfl rfl rfl (by kernel_rfl) ?_
  (first | (simp (maxSteps := 1000000) (disch := first | omega | (simp only [AM.DB, List.length_set, List.length_map]; first | done | omega)) only [AM.RB, Nat.reduceAdd, Nat.reduceMul, Nat.reduceEqDiff, reduceCtorEq, b35_RT17]) | skip)
  refine AM.loop_w hp 27 (fun z : Nat × Value => [(0, .slice sa n sc), (1, .int .i64 x), (5, z.2), (6, .int .i64 z.1)])
    (fun z h' => z.1 ≤ n ∧ Ow h' 3 1 z.2 (withoutL (l.take z.1) x).length ((withoutL (l.take z.1) x).map (.int .i64)) ∧ Fr none' h h' ∧ ∀ id, idOf z.2 id → h.next ≤ id) (fun z => n - z.1) (by kernel_rfl) (0, .slice none 0 0) ?_ ?_ ?_
  · simp (maxSteps := 1000000) (disch := first | omega | (simp only [AM.DB, List.length_set, List.length_map]; first | done | omega)) only [AM.RB, Nat.reduceAdd, Nat.reduceMul, Nat.reduceEqDiff, reduceCtorEq, b35_RT17]
    first | rfl | skip
  · exact ⟨Nat.zero_le _, Ow.nil _ _ _, Fr.refl _ _, fun _ t => t.elim⟩
  rintro ⟨i, v⟩ h1 ρ ⟨hi, o1, fr1, hid1⟩
  simp only at hi o1 hid1
  obtain ⟨va, vc, rfl⟩ := o1.form
  have hl1 := fr1.hl hl
  have r1 := hs.fr0 fr1
  (first | (simp (maxSteps := 1000000) (disch := first | omega | (simp only [AM.DB, List.length_set, List.length_map]; first | done | omega)) only [AM.RB, Nat.reduceAdd, Nat.reduceMul, Nat.reduceEqDiff, reduceCtorEq, b35_RT17]) | skip)
  refine AM.condV_split (fun hlt => ?_) (fun hlt => ?_)
  · have hin : i < l.length := by omega
    have ws := withoutL_succ (n := x) hin
    have wl : (withoutL (l.take i) x).length ≤ i := Nat.le_trans (List.length_filter_le _ _) (by simp; omega)
    obtain ⟨b, hb⟩ : ∃ b, l.getD i 0 = b := ⟨_, rfl⟩
    rw [hb] at ws
    by_cases c : b = x
    · rw [if_pos c, List.append_nil] at ws
      (first | (simp (maxSteps := 1000000) (disch := first | omega | (simp only [AM.DB, List.length_set, List.length_map]; first | done | omega)) only [AM.RB, Nat.reduceAdd, Nat.reduceMul, Nat.reduceEqDiff, reduceCtorEq, b35_RT17, r1.ia el_22, Rd.ldi r1 lk_3, Int.toNat_natCast, hb, decide_eq_true c, AM.wrap_i64]) | skip)
      refine ⟨(i + 1, _), by simp only; omega, ?_, by simp only; omega, ?_, fr1, hid1⟩
      · simp (maxSteps := 1000000) (disch := first | omega | (simp only [AM.DB, List.length_set, List.length_map]; first | done | omega)) only [AM.RB, Nat.reduceAdd, Nat.reduceMul, Nat.reduceEqDiff, reduceCtorEq, b35_RT17]
        first | rfl | skip
      · simp only
        rw [ws]; exact o1
    · rw [if_neg c] at ws
      (first | (simp (maxSteps := 1000000) (disch := first | omega | (simp only [AM.DB, List.length_set, List.length_map]; first | done | omega)) only [AM.RB, Nat.reduceAdd, Nat.reduceMul, Nat.reduceEqDiff, reduceCtorEq, b35_RT17, r1.ia el_22, Rd.ldi r1 lk_3, Int.toNat_natCast, hb, decide_eq_false c]) | skip)
      generalize hE_ : AHeap.alloc h1 _ = h3; obtain ⟨g3, fr3, n3, l3⟩ := AM.new_get hE_; clear hE_
      refine AM.appends_w ap_22 ap_22 (o1.fr0 fr3) (AM.Rd.whole (n := 1) (c := [.int .i64 b]) g3 rfl) rfl (by omega) (AM.fits (by omega) (by omega)) (AM.fits' (by omega)) fun v4 h4 o4 fr4 hid4 => ?_
      have n2 := fr1.next
      (first | (simp (maxSteps := 1000000) (disch := first | omega | (simp only [AM.DB, List.length_set, List.length_map]; first | done | omega)) only [AM.RB, Nat.reduceAdd, Nat.reduceMul, Nat.reduceEqDiff, reduceCtorEq, b35_RT17, AM.wrap_i64]) | skip)
      refine ⟨(i + 1, v4), by simp only; omega, ?_, by simp only; omega, ?_, (fr1.trans fr3).fresh fr4 (fun id t => hid1 id t), fun id t => (hid4 id t).elim (hid1 id) (fun t => by omega)⟩
      · simp (maxSteps := 1000000) (disch := first | omega | (simp only [AM.DB, List.length_set, List.length_map]; first | done | omega)) only [AM.RB, Nat.reduceAdd, Nat.reduceMul, Nat.reduceEqDiff, reduceCtorEq, b35_RT17]
        first | rfl | skip
      · simp only
        rw [ws]
        simpa using o4
  · obtain rfl : i = n := by omega
    rw [List.take_of_length_le (by omega)] at o1 hid1 ⊢
    (first | (simp (maxSteps := 1000000) (disch := first | omega | (simp only [AM.DB, List.length_set, List.length_map]; first | done | omega)) only [AM.RB, Nat.reduceAdd, Nat.reduceMul, Nat.reduceEqDiff, reduceCtorEq, b35_RT17]) | skip)
    exact hq _ _ o1 fr1 hid1
end Go.Proofs.YtgdcbjpookldoaaDoor

namespace Go.Proofs.YtgdcbjpookldoaaDoor
open Go.AM
set_option maxRecDepth 8000
theorem b8_RT18 : type_of% (And.intro (@AM.bin_eql) (And.intro (@AM.bin_gtr) (And.intro (@AM.bin_lss) (And.intro (@AM.bin_neq) (And.intro (@AM.bin_sub) (And.intro (@AM.ex_tuple) (And.intro (@AM.iaO_ok) (And.intro (AM.ia_slice el_22) (And.intro (@AM.ldO_agg) (And.intro (@AM.ldO_one) (And.intro (@AM.ld_ptr) (And.intro (AM.len_slice ul_22) (And.intro (@lk_3) (And.intro (@AM.op_binOp) (And.intro (@AM.op_call) (And.intro (@AM.op_extract) (And.intro (@AM.op_indexAddr) (And.intro (@AM.op_len) (And.intro (@AM.op_load) (And.intro (@AM.op_unOp) (And.intro (AM.str_len ul_9) (And.intro (@AM.un_neg) (@AM.un_not))))))))))))))))))))))) := And.intro (@AM.bin_eql) (And.intro (@AM.bin_gtr) (And.intro (@AM.bin_lss) (And.intro (@AM.bin_neq) (And.intro (@AM.bin_sub) (And.intro (@AM.ex_tuple) (And.intro (@AM.iaO_ok) (And.intro (AM.ia_slice el_22) (And.intro (@AM.ldO_agg) (And.intro (@AM.ldO_one) (And.intro (@AM.ld_ptr) (And.intro (AM.len_slice ul_22) (And.intro (@lk_3) (And.intro (@AM.op_binOp) (And.intro (@AM.op_call) (And.intro (@AM.op_extract) (And.intro (@AM.op_indexAddr) (And.intro (@AM.op_len) (And.intro (@AM.op_load) (And.intro (@AM.op_unOp) (And.intro (AM.str_len ul_9) (And.intro (@AM.un_neg) (@AM.un_not))))))))))))))))))))))


/-! ### RouteShort -/
/-- Cells around, as a list: what both say. -/
def arG (L : List (List UInt8)) (B : List Int) (fr far : Int) (l : List Int) : Prop := l.Pairwise (fun a b => a < b) ∧ ∀ x, x ∈ l ↔ freeP L.flatten x = true ∧ ∃ j : Nat, (j : Int) ≤ far ∧ Wk (nbA L B fr) fr j x
theorem aroundS_w {h : AHeap} {p n : Nat} {L : List (List UInt8)} {B0 : Nat → Prop} (m : Mk h p L B0) (f : Fit L) (hw : h.get GW = some (.cells waysC 123 false)) (hgl : GW < h.low) (hgp : ¬ GW = p) (hl : h.low ≤ h.next) (cell far : Int) {s : Value} {B : List Int} (hs : Rd h 3 1 s n (B.map (.int .i64))) (hB0 : ∀ id, idOf s id → B0 id) (hn : n ≤ 4000000) (hfr : freeP L.flatten cell = true) {Q : VQ}
    (hq : ∀ v (l : List Int) h', Ow h' 3 1 v l.length (l.map (.int .i64)) → l.length ≤ 1024 → arG L B cell far l → Mk h' p L B0 → Fr (fun id => id = p) h h' → Q v h') : W 20 [pv p, .int .i64 cell, s, .int .i64 far] h Q := by
  refine around_w m f hw hgl hgp hl cell far hs hB0 hn (fun hno => ?_) fun hf hfar v l h' o ps mem m' fr => ?_
  · have hneg : far < 0 := hno.resolve_left (by rw [hfr]; simp)
    exact hq _ [] h (Ow.nil _ _ _) (by simp) ⟨List.Pairwise.nil, fun x => by
      constructor
      · intro t; cases t
      · rintro ⟨_, j, hj, _⟩; omega⟩ m (Fr.refl _ _)
  · refine hq v l h' o ?_ ⟨ps, mem⟩ m' fr
    have ln : l.length ≤ L.flatten.length := AM.nodup_len (ps.imp fun h => by omega) fun x hx => freeP_in ((mem x).1 hx).1
    have := f.k1024; omega
theorem ar_mem {L : List (List UInt8)} (f : Fit L) {B : List Int} {fr to far : Int} {l : List Int} (g : arG L B fr far l) (hb : bothF L fr to) : to ∈ l ↔ ∃ j : Nat, (j : Int) ≤ far ∧ outB B fr to = false ∧ Wk (nbB L B fr) to j fr := by
  rw [g.2]
  constructor
  · rintro ⟨_, j, hj, w⟩
    obtain ⟨a, b⟩ := backw f (out_self B fr) w
    exact ⟨j, hj, a, b⟩
  · rintro ⟨j, hj, a, b⟩
    exact ⟨hb.2, j, hj, (forth f a b).2⟩

set_option maxHeartbeats 16000000 in
theorem shortLaw_w (l : List UInt8) (hs : l.length ≤ 9223372036854775807) (fr to : Int) {vb : Value} {B : List Int} {h : AHeap} (hB : Rd h 3 1 vb B.length (B.map (.int .i64))) (hw0 : h.get GW = some (.cells waysC 123 false)) (hl0 : h.low = h.next) : W 8 [strV l, .int .i64 fr, .int .i64 to, vb] h fun v _ => v = .bool true := by
  have hgl : GW < h.low := by have := AM.get_some_lt hw0; omega
  obtain ⟨ba, bc, rfl⟩ := hB.form
  have d00 : decide ((0 : Int) = 0) = true := rfl
  have d40 : decide ((40 : Int) = 0) = false := rfl
  have d44 : decide ((40 : Int) = 40) = true := rfl
  have d100 : decide ((10 : Int) = 0) = false := rfl
  refine AM.enter hp (fn := Tryd.f8) (rs := [.tmp 8]) (nt := 140) (by kernel_rfl) Tryd.func8 rfl rfl rfl (by kernel_rfl) ?_
  (first | (simp (maxSteps := 1000000) (disch := first | omega | (simp only [AM.DB, List.length_set, List.length_map]; first | done | omega)) only [AM.RB, Nat.reduceAdd, Nat.reduceMul, Nat.reduceEqDiff, reduceCtorEq, b8_RT18]) | skip)
  refine alive4_w hw0 hgl (by omega) fun h0 fr0 => ?_
  have hw00 := hw0.fr0 fr0
  have lw0 := fr0.low
  have nx0 := fr0.next
  (first | (simp (maxSteps := 1000000) (disch := first | omega | (simp only [AM.DB, List.length_set, List.length_map]; first | done | omega)) only [AM.RB, Nat.reduceAdd, Nat.reduceMul, Nat.reduceEqDiff, reduceCtorEq, b8_RT18]) | skip)
  refine parseV_w l hs (by omega) (fun a' b' hv h1 fr1 => ?_) (fun L hv p kv h1 m0 fr1 hp1 hid1 => ?_)
  · by_cases hlen : (600 : Int) < l.length
    · (first | (simp (maxSteps := 1000000) (disch := first | omega | (simp only [AM.DB, List.length_set, List.length_map]; first | done | omega)) only [AM.RB, Nat.reduceAdd, Nat.reduceMul, Nat.reduceEqDiff, reduceCtorEq, b8_RT18, decide_eq_true hlen]) | skip)
    · by_cases hlb : (100 : Int) < B.length
      · (first | (simp (maxSteps := 1000000) (disch := first | omega | (simp only [AM.DB, List.length_set, List.length_map]; first | done | omega)) only [AM.RB, Nat.reduceAdd, Nat.reduceMul, Nat.reduceEqDiff, reduceCtorEq, b8_RT18, decide_eq_false hlen, decide_eq_true hlb]) | skip)
      · (first | (simp (maxSteps := 1000000) (disch := first | omega | (simp only [AM.DB, List.length_set, List.length_map]; first | done | omega)) only [AM.RB, Nat.reduceAdd, Nat.reduceMul, Nat.reduceEqDiff, reduceCtorEq, b8_RT18, decide_eq_false hlen, decide_eq_false hlb, d100]) | skip)
  by_cases hlen : (600 : Int) < l.length
  · (first | (simp (maxSteps := 1000000) (disch := first | omega | (simp only [AM.DB, List.length_set, List.length_map]; first | done | omega)) only [AM.RB, Nat.reduceAdd, Nat.reduceMul, Nat.reduceEqDiff, reduceCtorEq, b8_RT18, decide_eq_true hlen]) | skip)
  by_cases hlb : (100 : Int) < B.length
  · (first | (simp (maxSteps := 1000000) (disch := first | omega | (simp only [AM.DB, List.length_set, List.length_map]; first | done | omega)) only [AM.RB, Nat.reduceAdd, Nat.reduceMul, Nat.reduceEqDiff, reduceCtorEq, b8_RT18, decide_eq_false hlen, decide_eq_true hlb]) | skip)
  have G := verd_good hv
  have f := G.fit
  have hK := f.k1024
  have hbd : L.length ≤ 4000000 ∧ (L.getD 0 []).length ≤ 4000000 := by have := f.r32; have := f.c32; omega
  have hw1 := hw00.fr0 fr1
  have lw1 := fr1.low
  have nx1 := fr1.next
  have k1 : Mk h1 p L (fun id => id < h0.next) := Mk.start m0 hp1 hid1 (by omega) (fun id q => q)
  have lp1 := k1.lt
  have hgp : ¬ GW = p := by omega
  (first | (simp (maxSteps := 1000000) (disch := first | omega | (simp only [AM.DB, List.length_set, List.length_map]; first | done | omega)) only [AM.RB, Nat.reduceAdd, Nat.reduceMul, Nat.reduceEqDiff, reduceCtorEq, b8_RT18, decide_eq_false hlen, decide_eq_false hlb, d00]) | skip)
  refine free_w m0 f.rows fr _ ?_
  cases hf1 : freeP L.flatten fr with
  | false => (first | (simp (maxSteps := 1000000) (disch := first | omega | (simp only [AM.DB, List.length_set, List.length_map]; first | done | omega)) only [AM.RB, Nat.reduceAdd, Nat.reduceMul, Nat.reduceEqDiff, reduceCtorEq, b8_RT18]) | skip)
  | true =>
  (first | (simp (maxSteps := 1000000) (disch := first | omega | (simp only [AM.DB, List.length_set, List.length_map]; first | done | omega)) only [AM.RB, Nat.reduceAdd, Nat.reduceMul, Nat.reduceEqDiff, reduceCtorEq, b8_RT18]) | skip)
  refine free_w m0 f.rows to _ ?_
  cases hf2 : freeP L.flatten to with
  | false => (first | (simp (maxSteps := 1000000) (disch := first | omega | (simp only [AM.DB, List.length_set, List.length_map]; first | done | omega)) only [AM.RB, Nat.reduceAdd, Nat.reduceMul, Nat.reduceEqDiff, reduceCtorEq, b8_RT18]) | skip)
  | true =>
  have hb : bothF L fr to := ⟨hf1, hf2⟩
  have hB1 := (hB.fr0 fr0).fr0 fr1
  have hpB : ∀ id, idOf (.slice ba B.length bc) id → ¬ id = p := fun id e => by have := hB.lt e; omega
  have hbB : ∀ id, idOf (.slice ba B.length bc) id → id < h0.next := fun id e => by have := hB.lt e; omega
  (first | (simp (maxSteps := 1000000) (disch := first | omega | (simp only [AM.DB, List.length_set, List.length_map]; first | done | omega)) only [AM.RB, Nat.reduceAdd, Nat.reduceMul, Nat.reduceEqDiff, reduceCtorEq, b8_RT18]) | skip)
  refine cells_w m0 f.rows hbd _ ?_
  rw [← f.len]
  (first | (simp (maxSteps := 1000000) (disch := first | omega | (simp only [AM.DB, List.length_set, List.length_map]; first | done | omega)) only [AM.RB, Nat.reduceAdd, Nat.reduceMul, Nat.reduceEqDiff, reduceCtorEq, b8_RT18]) | skip)
  refine find_w k1 f hw1 (by omega) hgp (by omega) fr to L.flatten.length hB1 (by omega) fun v2 h2 o2 k2 fr2 hid2 => ?_
  have fl := findR_len f B fr to L.flatten.length
  obtain ⟨a2, c2, rfl⟩ := o2.form
  have hw2 := fr2.get hw1 hgp
  have lw2 := fr2.low
  have nx2 := fr2.next
  have hB2 := hB1.fr fr2 hpB
  obtain ⟨kv2, tl2, mm2⟩ := k2.mp
  (first | (simp (maxSteps := 1000000) (disch := first | omega | (simp only [AM.DB, List.length_set, List.length_map]; first | done | omega)) only [AM.RB, Nat.reduceAdd, Nat.reduceMul, Nat.reduceEqDiff, reduceCtorEq, b8_RT18]) | skip)
  refine cells_w mm2 f.rows hbd _ ?_
  rw [← f.len]
  (first | (simp (maxSteps := 1000000) (disch := first | omega | (simp only [AM.DB, List.length_set, List.length_map]; first | done | omega)) only [AM.RB, Nat.reduceAdd, Nat.reduceMul, Nat.reduceEqDiff, reduceCtorEq, b8_RT18]) | skip)
  refine aroundS_w k2 f hw2 (by omega) hgp (by omega) fr L.flatten.length hB2 hbB (by omega) hf1 fun v3 l3 h3 o3 n3 g3 k3 fr3 => ?_
  obtain ⟨a3, c3, rfl⟩ := o3.form
  have hw3 := fr3.get hw2 hgp
  have lw3 := fr3.low
  have nx3 := fr3.next
  have hB3 := hB2.fr fr3 hpB
  have hp2 : ∀ id, idOf (.slice a2 (findR L B fr to L.flatten.length).1.length c2) id → ¬ id = p := fun id e => by have := hid2 id e; omega
  have o23 := o2.fr fr3 hp2
  have r3 := o3.rd
  have mm := ar_mem f g3 hb
  (first | (simp (maxSteps := 1000000) (disch := first | omega | (simp only [AM.DB, List.length_set, List.length_map]; first | done | omega)) only [AM.RB, Nat.reduceAdd, Nat.reduceMul, Nat.reduceEqDiff, reduceCtorEq, b8_RT18]) | skip)
  refine has_w r3 (by omega) to ?_
  have fc := find_cases (B := B) f hb (b := L.flatten.length) (by omega)
  generalize findR L B fr to L.flatten.length = X at *
  rcases fc with ⟨rfl, none⟩ | ⟨D, rfl, ho, hD, dD⟩
  · have hn : decide (to ∈ l3) = false := decide_eq_false fun t => by
      obtain ⟨j, _, w⟩ := mm.1 t
      exact none j w
    (first | (simp (maxSteps := 1000000) (disch := first | omega | (simp only [AM.DB, List.length_set, List.length_map]; first | done | omega)) only [AM.RB, Nat.reduceAdd, Nat.reduceMul, Nat.reduceEqDiff, reduceCtorEq, b8_RT18, hn, d40, d44]) | skip)
  have DN := isD.bound (nbB_in f B fr) (freeP_in hf2) dD
  have hn : decide (to ∈ l3) = true := decide_eq_true (mm.2 ⟨D, by omega, ho, dD.1⟩)
  have pl := pathL_len L (dtoL L B fr to) D fr
  obtain ⟨p0, pn, pe⟩ := path_ok f (freeP_in hf2) ho D fr (freeP_in hf1) hD
  have ck := path_chk f hb ho hD
  simp only at o23
  generalize pathL L (dtoL L B fr to) fr D = X at *
  have w1 : IntKind.i64.wrap ((X.length : Int) - 1) = D := by rw [AM.wrap_i64 (by omega) (by omega)]; omega
  have dn0 : decide ((D : Int) < 0) = false := decide_eq_false (by omega)
  have t0 : Int.toNat 0 = 0 := rfl
  have rx := o23.rd
  (first | (simp (maxSteps := 1000000) (disch := first | omega | (simp only [AM.DB, List.length_set, List.length_map]; first | done | omega)) only [AM.RB, Nat.reduceAdd, Nat.reduceMul, Nat.reduceEqDiff, reduceCtorEq, b8_RT18, hn, d00, w1, dn0, rx.ia el_22, Rd.ldi rx lk_3, t0, p0, Int.toNat_natCast, pn, decide_eq_true (rfl : fr = fr), decide_eq_true (rfl : to = to)]) | skip)
  refine without4_w hB3 (by omega) (by omega) fr fun v4 h4 o4 fr4 hid4 => ?_
  obtain ⟨a4, c4, rfl⟩ := o4.form
  have lw4 := fr4.low
  have nx4 := fr4.next
  have hp2' : ∀ id, idOf (.slice a2 X.length c2) id → ¬ id = p := fun id e => by have := hid2 id e; omega
  have hp4 : ∀ id, idOf (.slice a4 (withoutL B fr).length c4) id → ¬ id = p := fun id e => by have := hid4 id e; omega
  have wle : (withoutL B fr).length ≤ B.length := List.length_filter_le _ _
  (first | (simp (maxSteps := 1000000) (disch := first | omega | (simp only [AM.DB, List.length_set, List.length_map]; first | done | omega)) only [AM.RB, Nat.reduceAdd, Nat.reduceMul, Nat.reduceEqDiff, reduceCtorEq, b8_RT18]) | skip)
  refine check_w (k3.fr0 fr4) f (hw3.fr0 fr4) (by omega) hgp (by omega) (rx.fr0 fr4) hp2' o4.rd hp4 (by omega) (by omega) fun h5 k5 fr5 => ?_
  rw [ck]
  have hw5 := fr5.get (hw3.fr0 fr4) hgp
  have lw5 := fr5.low
  have nx5 := fr5.next
  have hB5 := (hB3.fr0 fr4).fr fr5 hpB
  (first | (simp (maxSteps := 1000000) (disch := first | omega | (simp only [AM.DB, List.length_set, List.length_map]; first | done | omega)) only [AM.RB, Nat.reduceAdd, Nat.reduceMul, Nat.reduceEqDiff, reduceCtorEq, b8_RT18, d00]) | skip)
  refine aroundS_w k5 f hw5 (by omega) hgp (by omega) fr D hB5 hbB (by omega) hf1 fun v6 l6 h6 o6 n6 g6 k6 fr6 => ?_
  obtain ⟨a6, c6, rfl⟩ := o6.form
  have hw6 := fr6.get hw5 hgp
  have lw6 := fr6.low
  have nx6 := fr6.next
  have hB6 := hB5.fr fr6 hpB
  have e6 : decide (to ∈ l6) = true := decide_eq_true ((ar_mem f g6 hb).2 ⟨D, by omega, ho, dD.1⟩)
  have r6 := o6.rd
  (first | (simp (maxSteps := 1000000) (disch := first | omega | (simp only [AM.DB, List.length_set, List.length_map]; first | done | omega)) only [AM.RB, Nat.reduceAdd, Nat.reduceMul, Nat.reduceEqDiff, reduceCtorEq, b8_RT18]) | skip)
  refine has_w r6 (by omega) to ?_
  have w2 : IntKind.i64.wrap ((D : Int) - 1) = D - 1 := AM.wrap_i64 (by omega) (by omega)
  (first | (simp (maxSteps := 1000000) (disch := first | omega | (simp only [AM.DB, List.length_set, List.length_map]; first | done | omega)) only [AM.RB, Nat.reduceAdd, Nat.reduceMul, Nat.reduceEqDiff, reduceCtorEq, b8_RT18, e6, w2]) | skip)
  refine aroundS_w k6 f hw6 (by omega) hgp (by omega) fr (D - 1) hB6 hbB (by omega) hf1 fun v7 l7 h7 o7 n7 g7 k7 fr7 => ?_
  obtain ⟨a7, c7, rfl⟩ := o7.form
  have e7 : decide (to ∈ l7) = false := decide_eq_false fun t => by
    obtain ⟨j, hj, _, w⟩ := (ar_mem f g7 hb).1 t
    have := dD.le w
    omega
  have r7 := o7.rd
  (first | (simp (maxSteps := 1000000) (disch := first | omega | (simp only [AM.DB, List.length_set, List.length_map]; first | done | omega)) only [AM.RB, Nat.reduceAdd, Nat.reduceMul, Nat.reduceEqDiff, reduceCtorEq, b8_RT18]) | skip)
  refine has_w r7 (by omega) to ?_
  (first | (simp (maxSteps := 1000000) (disch := first | omega | (simp only [AM.DB, List.length_set, List.length_map]; first | done | omega)) only [AM.RB, Nat.reduceAdd, Nat.reduceMul, Nat.reduceEqDiff, reduceCtorEq, b8_RT18, e7]) | skip)
end Go.Proofs.YtgdcbjpookldoaaDoor
