/- A text of this claim: walks, or plain law. -/
import Derived.Test.YtiigibhnjobcaaaC1
set_option linter.unusedSimpArgs false
set_option linter.unusedVariables false
namespace Go.Proofs.Ytiigibhnjobcaaa
open Go.AM
theorem b19_C2 : type_of% (And.intro (@AM.ex_tuple) (And.intro (@AM.fa_ptr) (And.intro (@fd_37_0) (And.intro (@fd_45_1) (And.intro (@AM.iaO_ok) (And.intro (AM.ia_slice el_31) (And.intro (@AM.ldO_agg) (And.intro (@AM.ldO_one) (And.intro (@AM.ld_ptr) (And.intro (@lk_31) (And.intro (@lk_38) (And.intro (@AM.op_call) (And.intro (@AM.op_extract) (And.intro (@AM.op_fieldAddr) (And.intro (@AM.op_indexAddr) (And.intro (@AM.op_load) (And.intro (@AM.op_nilCheck) (And.intro (@AM.op_unOp) (And.intro (@AM.resL_two) (And.intro (@AM.un_neg) (@AM.un_not))))))))))))))))))))) := And.intro (@AM.ex_tuple) (And.intro (@AM.fa_ptr) (And.intro (@fd_37_0) (And.intro (@fd_45_1) (And.intro (@AM.iaO_ok) (And.intro (AM.ia_slice el_31) (And.intro (@AM.ldO_agg) (And.intro (@AM.ldO_one) (And.intro (@AM.ld_ptr) (And.intro (@lk_31) (And.intro (@lk_38) (And.intro (@AM.op_call) (And.intro (@AM.op_extract) (And.intro (@AM.op_fieldAddr) (And.intro (@AM.op_indexAddr) (And.intro (@AM.op_load) (And.intro (@AM.op_nilCheck) (And.intro (@AM.op_unOp) (And.intro (@AM.resL_two) (And.intro (@AM.un_neg) (@AM.un_not))))))))))))))))))))
theorem b55_C2 : type_of% (And.intro (@Option.isNone_none.{0}) (And.intro (@Option.isNone_some.{0}) (And.intro (AM.bin_snil ul_31) (And.intro (AM.bsW_agg bs_31) (And.intro (AM.bsW_nil bs_31) (And.intro (@AM.op_append) (And.intro (@AM.op_binOp) (@AM.op_buildSlice)))))))) := And.intro (@Option.isNone_none.{0}) (And.intro (@Option.isNone_some.{0}) (And.intro (AM.bin_snil ul_31) (And.intro (AM.bsW_agg bs_31) (And.intro (AM.bsW_nil bs_31) (And.intro (@AM.op_append) (And.intro (@AM.op_binOp) (@AM.op_buildSlice)))))))
theorem b16_C2 : type_of% (And.intro (@Option.isNone_none.{0}) (And.intro (@Option.isNone_some.{0}) (And.intro (AM.bin_pnil ul_23) (And.intro (@AM.fa_ptr) (And.intro (@fd_37_0) (And.intro (@AM.ldO_agg) (And.intro (@AM.ldO_one) (And.intro (@AM.ld_ptr) (And.intro (@lk_31) (And.intro (@AM.op_binOp) (And.intro (@AM.op_call) (And.intro (@AM.op_fieldAddr) (And.intro (@AM.op_load) (@AM.op_nilCheck)))))))))))))) := And.intro (@Option.isNone_none.{0}) (And.intro (@Option.isNone_some.{0}) (And.intro (AM.bin_pnil ul_23) (And.intro (@AM.fa_ptr) (And.intro (@fd_37_0) (And.intro (@AM.ldO_agg) (And.intro (@AM.ldO_one) (And.intro (@AM.ld_ptr) (And.intro (@lk_31) (And.intro (@AM.op_binOp) (And.intro (@AM.op_call) (And.intro (@AM.op_fieldAddr) (And.intro (@AM.op_load) (@AM.op_nilCheck)))))))))))))
theorem b15_C2 : type_of% (And.intro (@AM.andO_some) (And.intro (@AM.bin_add) (And.intro (AM.bin_agg_neq se_45) (And.intro (@AM.bin_lss) (And.intro (@AM.bin_neq) (And.intro (@AM.eqL_cons) (And.intro (@AM.eqL_nil) (And.intro (@AM.eqS_bool) (And.intro (@AM.eqS_int) (And.intro (@AM.eqS_string) (And.intro (@AM.iaO_ok) (And.intro (AM.ia_slice el_31) (And.intro (@AM.ldO_agg) (And.intro (@AM.ldO_one) (And.intro (@AM.ld_ptr) (And.intro (AM.len_slice ul_31) (And.intro (@lk_45) (And.intro (@AM.op_binOp) (And.intro (@AM.op_indexAddr) (And.intro (@AM.op_len) (@AM.op_load))))))))))))))))))))) := And.intro (@AM.andO_some) (And.intro (@AM.bin_add) (And.intro (AM.bin_agg_neq se_45) (And.intro (@AM.bin_lss) (And.intro (@AM.bin_neq) (And.intro (@AM.eqL_cons) (And.intro (@AM.eqL_nil) (And.intro (@AM.eqS_bool) (And.intro (@AM.eqS_int) (And.intro (@AM.eqS_string) (And.intro (@AM.iaO_ok) (And.intro (AM.ia_slice el_31) (And.intro (@AM.ldO_agg) (And.intro (@AM.ldO_one) (And.intro (@AM.ld_ptr) (And.intro (AM.len_slice ul_31) (And.intro (@lk_45) (And.intro (@AM.op_binOp) (And.intro (@AM.op_indexAddr) (And.intro (@AM.op_len) (@AM.op_load))))))))))))))))))))


theorem encC_one (L : List Cm) : (L.flatMap encC).all (·.oneCell') = true := by
  rw [List.all_eq_true]
  intro x hx
  obtain ⟨c, _, hc⟩ := List.mem_flatMap.1 hx
  rcases List.mem_cons.1 hc with rfl | hc
  · rfl
  · rcases List.mem_cons.1 hc with rfl | hc
    · rfl
    · cases hc
theorem hasC_get (L : List Cm) (x : Int) : hasC L x = (getC L x).isSome := by
  unfold hasC getC
  induction L with
  | nil => rfl
  | cons p L ih =>
    rw [List.any_cons, List.find?_cons]
    cases h : p.1 == x <;> simp [h, ih]
theorem getC_at {L : List Cm} (hs : Srt L) {k : Nat} (hk : k < L.length) : getC L (L.getD k d0).1 = some (L.getD k d0).2 := by
  unfold getC
  induction L generalizing k with
  | nil => simp at hk
  | cons p L ih =>
    have hp := List.pairwise_cons.1 hs
    cases k with
    | zero => simp [List.find?_cons]
    | succ k =>
      simp only [List.length_cons] at hk
      have hk' : k < L.length := by omega
      have e : (p :: L).getD (k + 1) d0 = L.getD k d0 := rfl
      have hm : L.getD k d0 ∈ L := by simp [List.getD, hk']
      rw [e, List.find?_cons]
      have : (p.1 == (L.getD k d0).1) = false := by have := hp.1 _ hm; rw [beq_eq_false_iff_ne]; omega
      rw [this]
      exact ih hp.2 hk'
theorem posC_at {L : List Cm} (hs : Srt L) {x : Int} (hx : hasC L x = true) : posC L x < L.length ∧ (L.getD (posC L x) d0).1 = x := by
  unfold hasC at hx
  obtain ⟨p, hp, e⟩ := List.any_eq_true.1 hx
  obtain ⟨k, hk, rfl⟩ := List.getElem_of_mem hp
  have ek : L.getD k d0 = L[k] := by simp [List.getD, hk]
  have hx2 : (L.getD k d0).1 = x := by rw [ek]; exact beq_iff_eq.1 e
  clear e ek
  have : posC L x = k := posC_split L x k (by omega) (fun j hj => by have := hs.lt hj (by omega); omega) (fun j hj hj2 => by have := hs.le hj hj2; omega)
  rw [this]; exact ⟨hk, hx2⟩
theorem getC_pos {L : List Cm} (hs : Srt L) {x : Int} (hx : hasC L x = true) : getC L x = some (L.getD (posC L x) d0).2 := by
  obtain ⟨h1, h2⟩ := posC_at hs hx
  have := getC_at hs h1
  rwa [h2] at this

theorem gen_w {p : Nat} {v : Value} {L : List Cm} {x : Int} {h : AHeap} (hc : Cl h p v L) (hsrt : Srt L) (hn : L.length ≤ 4000000000) {Q : VQ}
    (hq : ∀ h', Fr none' h h' → Q (.tuple #[.int .u32 ((getC L x).getD 0), .bool (getC L x).isSome]) h') : W 19 [pv p, .int .i64 x] h Q := by
  refine AM.enter hp (fn := Try.f19) (rs := [.tmp 4, .tmp 5]) (nt := 24) (by kernel_rfl) Try.func19 rfl rfl rfl (by kernel_rfl) ?_
  (first | (simp (disch := first | omega | (simp only [AM.DB, List.length_set, List.length_map]; done) | (simp only [AM.DB, List.length_set, List.length_map]; omega)) only [AM.RB, Nat.reduceAdd, Nat.reduceMul, Nat.reduceEqDiff, reduceCtorEq, b19_C2]) | skip); (repeat' (first | (refine AM.drawW_fine hp (by kernel_rfl) (by kernel_rfl) ?_; simp (disch := first | omega | (simp only [AM.DB, List.length_set, List.length_map]; done) | (simp only [AM.DB, List.length_set, List.length_map]; omega)) only [AM.RB, Nat.reduceAdd, Nat.reduceMul, Nat.reduceEqDiff, reduceCtorEq, b19_C2]) | (refine AM.opW_tied (by kernel_rfl) ?_; simp (disch := first | omega | (simp only [AM.DB, List.length_set, List.length_map]; done) | (simp only [AM.DB, List.length_set, List.length_map]; omega)) only [AM.RB, Nat.reduceAdd, Nat.reduceMul, Nat.reduceEqDiff, reduceCtorEq, b19_C2]) | (refine AM.opW_untied (by kernel_rfl) ?_; simp (disch := first | omega | (simp only [AM.DB, List.length_set, List.length_map]; done) | (simp only [AM.DB, List.length_set, List.length_map]; omega)) only [AM.RB, Nat.reduceAdd, Nat.reduceMul, Nat.reduceEqDiff, reduceCtorEq, b19_C2]) | (refine AM.build_w ?_; simp (disch := first | omega | (simp only [AM.DB, List.length_set, List.length_map]; done) | (simp only [AM.DB, List.length_set, List.length_map]; omega)) only [AM.RB, Nat.reduceAdd, Nat.reduceMul, Nat.reduceEqDiff, reduceCtorEq, b19_C2])))
  refine find_w hc hsrt hn fun h1 fr1 => ?_
  have hc1 := hc.fr0 fr1
  have hg := hc1.1
  obtain ⟨a, cap, rfl⟩ := hc.2.1.form
  have hr := hc1.2.1.rd
  (first | (simp (disch := first | omega | (simp only [AM.DB, List.length_set, List.length_map]; done) | (simp only [AM.DB, List.length_set, List.length_map]; omega)) only [AM.RB, Nat.reduceAdd, Nat.reduceMul, Nat.reduceEqDiff, reduceCtorEq, b19_C2]) | skip); (repeat' (first | (refine AM.drawW_fine hp (by kernel_rfl) (by kernel_rfl) ?_; simp (disch := first | omega | (simp only [AM.DB, List.length_set, List.length_map]; done) | (simp only [AM.DB, List.length_set, List.length_map]; omega)) only [AM.RB, Nat.reduceAdd, Nat.reduceMul, Nat.reduceEqDiff, reduceCtorEq, b19_C2]) | (refine AM.opW_tied (by kernel_rfl) ?_; simp (disch := first | omega | (simp only [AM.DB, List.length_set, List.length_map]; done) | (simp only [AM.DB, List.length_set, List.length_map]; omega)) only [AM.RB, Nat.reduceAdd, Nat.reduceMul, Nat.reduceEqDiff, reduceCtorEq, b19_C2]) | (refine AM.opW_untied (by kernel_rfl) ?_; simp (disch := first | omega | (simp only [AM.DB, List.length_set, List.length_map]; done) | (simp only [AM.DB, List.length_set, List.length_map]; omega)) only [AM.RB, Nat.reduceAdd, Nat.reduceMul, Nat.reduceEqDiff, reduceCtorEq, b19_C2]) | (refine AM.build_w ?_; simp (disch := first | omega | (simp only [AM.DB, List.length_set, List.length_map]; done) | (simp only [AM.DB, List.length_set, List.length_map]; omega)) only [AM.RB, Nat.reduceAdd, Nat.reduceMul, Nat.reduceEqDiff, reduceCtorEq, b19_C2])))
  refine AM.condV_bool (fun hb => ?_) (fun hb => ?_)
  · have hp := posC_at hsrt hb
    have hp1 := hp.1
    have hge := getC_pos hsrt hb
    (first | (simp (disch := first | omega | (simp only [AM.DB, List.length_set, List.length_map]; done) | (simp only [AM.DB, List.length_set, List.length_map]; omega)) only [AM.RB, Nat.reduceAdd, Nat.reduceMul, Nat.reduceEqDiff, reduceCtorEq, b19_C2, hg, hr.ia el_31, hr.fa fd_45_1, hr.ldsF encC_len lk_38 rfl d0, encC, Int.toNat_natCast]) | skip); (repeat' (first | (refine AM.drawW_fine hp (by kernel_rfl) (by kernel_rfl) ?_; simp (disch := first | omega | (simp only [AM.DB, List.length_set, List.length_map]; done) | (simp only [AM.DB, List.length_set, List.length_map]; omega)) only [AM.RB, Nat.reduceAdd, Nat.reduceMul, Nat.reduceEqDiff, reduceCtorEq, b19_C2, hg, hr.ia el_31, hr.fa fd_45_1, hr.ldsF encC_len lk_38 rfl d0, encC, Int.toNat_natCast]) | (refine AM.opW_tied (by kernel_rfl) ?_; simp (disch := first | omega | (simp only [AM.DB, List.length_set, List.length_map]; done) | (simp only [AM.DB, List.length_set, List.length_map]; omega)) only [AM.RB, Nat.reduceAdd, Nat.reduceMul, Nat.reduceEqDiff, reduceCtorEq, b19_C2, hg, hr.ia el_31, hr.fa fd_45_1, hr.ldsF encC_len lk_38 rfl d0, encC, Int.toNat_natCast]) | (refine AM.opW_untied (by kernel_rfl) ?_; simp (disch := first | omega | (simp only [AM.DB, List.length_set, List.length_map]; done) | (simp only [AM.DB, List.length_set, List.length_map]; omega)) only [AM.RB, Nat.reduceAdd, Nat.reduceMul, Nat.reduceEqDiff, reduceCtorEq, b19_C2, hg, hr.ia el_31, hr.fa fd_45_1, hr.ldsF encC_len lk_38 rfl d0, encC, Int.toNat_natCast]) | (refine AM.build_w ?_; simp (disch := first | omega | (simp only [AM.DB, List.length_set, List.length_map]; done) | (simp only [AM.DB, List.length_set, List.length_map]; omega)) only [AM.RB, Nat.reduceAdd, Nat.reduceMul, Nat.reduceEqDiff, reduceCtorEq, b19_C2, hg, hr.ia el_31, hr.fa fd_45_1, hr.ldsF encC_len lk_38 rfl d0, encC, Int.toNat_natCast])))
    rw [hge] at hq
    exact hq _ fr1
  · (first | (simp (disch := first | omega | (simp only [AM.DB, List.length_set, List.length_map]; done) | (simp only [AM.DB, List.length_set, List.length_map]; omega)) only [AM.RB, Nat.reduceAdd, Nat.reduceMul, Nat.reduceEqDiff, reduceCtorEq, b19_C2]) | skip); (repeat' (first | (refine AM.drawW_fine hp (by kernel_rfl) (by kernel_rfl) ?_; simp (disch := first | omega | (simp only [AM.DB, List.length_set, List.length_map]; done) | (simp only [AM.DB, List.length_set, List.length_map]; omega)) only [AM.RB, Nat.reduceAdd, Nat.reduceMul, Nat.reduceEqDiff, reduceCtorEq, b19_C2]) | (refine AM.opW_tied (by kernel_rfl) ?_; simp (disch := first | omega | (simp only [AM.DB, List.length_set, List.length_map]; done) | (simp only [AM.DB, List.length_set, List.length_map]; omega)) only [AM.RB, Nat.reduceAdd, Nat.reduceMul, Nat.reduceEqDiff, reduceCtorEq, b19_C2]) | (refine AM.opW_untied (by kernel_rfl) ?_; simp (disch := first | omega | (simp only [AM.DB, List.length_set, List.length_map]; done) | (simp only [AM.DB, List.length_set, List.length_map]; omega)) only [AM.RB, Nat.reduceAdd, Nat.reduceMul, Nat.reduceEqDiff, reduceCtorEq, b19_C2]) | (refine AM.build_w ?_; simp (disch := first | omega | (simp only [AM.DB, List.length_set, List.length_map]; done) | (simp only [AM.DB, List.length_set, List.length_map]; omega)) only [AM.RB, Nat.reduceAdd, Nat.reduceMul, Nat.reduceEqDiff, reduceCtorEq, b19_C2])))
    have : getC L x = none := by rw [hasC_get] at hb; simpa using hb
    rw [this] at hq
    exact hq _ fr1


theorem clone_w {s : Value} {n : Nat} {cs : List Value} {h : AHeap} (hs : Rd h 45 2 s n cs) (hc : cs.all (·.oneCell') = true) (hn : n ≤ 4000000000) (hl : h.low ≤ h.next) {Q : VQ}
    (hq : ∀ v h', Ow h' 45 2 v n cs → Fr none' h h' → (∀ id, idOf v id → h.next ≤ id) → Q v h') : W 55 [s] h Q := by
  obtain ⟨a, cap, rfl⟩ := hs.form
  refine AM.enter hp (fn := Try.f55) (rs := [.tmp 2]) (nt := 8) (by kernel_rfl) Try.func55 rfl rfl rfl (by kernel_rfl) ?_
  simp (disch := first | omega | (simp only [AM.DB, List.length_set, List.length_map]; done) | (simp only [AM.DB, List.length_set, List.length_map]; omega)) only [AM.RB, Nat.reduceAdd, Nat.reduceMul, Nat.reduceEqDiff, reduceCtorEq, b55_C2]
  cases a with
  | none =>
    simp (disch := first | omega | (simp only [AM.DB, List.length_set, List.length_map]; done) | (simp only [AM.DB, List.length_set, List.length_map]; omega)) only [AM.RB, Nat.reduceAdd, Nat.reduceMul, Nat.reduceEqDiff, reduceCtorEq, b55_C2, Option.isNone_none]
    rcases hs with ⟨e, rfl, rfl⟩ | ⟨id, off, cap', c, e', o, e, _⟩
    · exact hq _ _ (Ow.nil _ _ _) (Fr.refl _ _) (fun _ q => q.elim)
    · cases e
  | some a =>
    simp (disch := first | omega | (simp only [AM.DB, List.length_set, List.length_map]; done) | (simp only [AM.DB, List.length_set, List.length_map]; omega)) only [AM.RB, Nat.reduceAdd, Nat.reduceMul, Nat.reduceEqDiff, reduceCtorEq, b55_C2, Option.isNone_some]
    have fr0 : Fr none' h (h.alloc (.cells [] 45 false)) := (Fr.refl _ _).alloc _
    have ow0 : Ow (h.alloc (.cells [] 45 false)) 45 2 (.slice (some ⟨h.next, 0, none⟩) 0 0) 0 [] := AM.Ow.whole (n := 0) (AM.get_alloc_self rfl) rfl hl
    have hl1 : (h.alloc (.cells [] 45 false)).low ≤ (h.alloc (.cells [] 45 false)).next := by simp only [AHeap.next_alloc, AHeap.low_alloc]; omega
    refine AM.appends_w ap_31 ap_31 ow0 (hs.fr0 fr0) hc hl1 (AM.fits (by omega) (by omega)) (AM.fits' (by omega)) ?_
    intro v h' how fr hid
    simp (disch := first | omega | (simp only [AM.DB, List.length_set, List.length_map]; done) | (simp only [AM.DB, List.length_set, List.length_map]; omega)) only [AM.RB, Nat.reduceAdd, Nat.reduceMul, Nat.reduceEqDiff, reduceCtorEq, b55_C2]
    rw [Nat.zero_add] at how
    refine hq _ _ how (fr0.then fr fun id h1 h2 => ?_) (fun id q => ?_)
    · have : id = h.next := h2
      omega
    · rcases hid id q with h2 | h2
      · have : id = h.next := h2
        omega
      · have : h.next + 1 ≤ id := h2
        omega

theorem all_w {p : Nat} {v : Value} {L : List Cm} {h : AHeap} (hc : Cl h p v L) (hn : L.length ≤ 4000000000) (hl : h.low ≤ h.next) {Q : VQ}
    (hq : ∀ v' h', Ow h' 45 2 v' L.length (L.flatMap encC) → Fr none' h h' → (∀ id, idOf v' id → h.next ≤ id) → Q v' h') : W 16 [pv p] h Q := by
  have hg := hc.1
  refine AM.enter hp (fn := Try.f16) (rs := [.tmp 2]) (nt := 10) (by kernel_rfl) Try.func16 rfl rfl rfl (by kernel_rfl) ?_
  (first | (simp (disch := first | omega | (simp only [AM.DB, List.length_set, List.length_map]; done) | (simp only [AM.DB, List.length_set, List.length_map]; omega)) only [AM.RB, Nat.reduceAdd, Nat.reduceMul, Nat.reduceEqDiff, reduceCtorEq, b16_C2, hg]) | skip); (repeat' (first | (refine AM.drawW_fine hp (by kernel_rfl) (by kernel_rfl) ?_; simp (disch := first | omega | (simp only [AM.DB, List.length_set, List.length_map]; done) | (simp only [AM.DB, List.length_set, List.length_map]; omega)) only [AM.RB, Nat.reduceAdd, Nat.reduceMul, Nat.reduceEqDiff, reduceCtorEq, b16_C2, hg]) | (refine AM.opW_tied (by kernel_rfl) ?_; simp (disch := first | omega | (simp only [AM.DB, List.length_set, List.length_map]; done) | (simp only [AM.DB, List.length_set, List.length_map]; omega)) only [AM.RB, Nat.reduceAdd, Nat.reduceMul, Nat.reduceEqDiff, reduceCtorEq, b16_C2, hg]) | (refine AM.opW_untied (by kernel_rfl) ?_; simp (disch := first | omega | (simp only [AM.DB, List.length_set, List.length_map]; done) | (simp only [AM.DB, List.length_set, List.length_map]; omega)) only [AM.RB, Nat.reduceAdd, Nat.reduceMul, Nat.reduceEqDiff, reduceCtorEq, b16_C2, hg]) | (refine AM.build_w ?_; simp (disch := first | omega | (simp only [AM.DB, List.length_set, List.length_map]; done) | (simp only [AM.DB, List.length_set, List.length_map]; omega)) only [AM.RB, Nat.reduceAdd, Nat.reduceMul, Nat.reduceEqDiff, reduceCtorEq, b16_C2, hg])))
  refine clone_w hc.2.1.rd (encC_one L) hn hl fun v' h1 ho fr hid => ?_
  (first | (simp (disch := first | omega | (simp only [AM.DB, List.length_set, List.length_map]; done) | (simp only [AM.DB, List.length_set, List.length_map]; omega)) only [AM.RB, Nat.reduceAdd, Nat.reduceMul, Nat.reduceEqDiff, reduceCtorEq, b16_C2]) | skip); (repeat' (first | (refine AM.drawW_fine hp (by kernel_rfl) (by kernel_rfl) ?_; simp (disch := first | omega | (simp only [AM.DB, List.length_set, List.length_map]; done) | (simp only [AM.DB, List.length_set, List.length_map]; omega)) only [AM.RB, Nat.reduceAdd, Nat.reduceMul, Nat.reduceEqDiff, reduceCtorEq, b16_C2]) | (refine AM.opW_tied (by kernel_rfl) ?_; simp (disch := first | omega | (simp only [AM.DB, List.length_set, List.length_map]; done) | (simp only [AM.DB, List.length_set, List.length_map]; omega)) only [AM.RB, Nat.reduceAdd, Nat.reduceMul, Nat.reduceEqDiff, reduceCtorEq, b16_C2]) | (refine AM.opW_untied (by kernel_rfl) ?_; simp (disch := first | omega | (simp only [AM.DB, List.length_set, List.length_map]; done) | (simp only [AM.DB, List.length_set, List.length_map]; omega)) only [AM.RB, Nat.reduceAdd, Nat.reduceMul, Nat.reduceEqDiff, reduceCtorEq, b16_C2]) | (refine AM.build_w ?_; simp (disch := first | omega | (simp only [AM.DB, List.length_set, List.length_map]; done) | (simp only [AM.DB, List.length_set, List.length_map]; omega)) only [AM.RB, Nat.reduceAdd, Nat.reduceMul, Nat.reduceEqDiff, reduceCtorEq, b16_C2])))
  exact hq _ _ ho fr hid

theorem same_w {sa sb : Value} {na nb : Nat} {la lb : List Cm} {h : AHeap} (ha : Rd h 45 2 sa na (la.flatMap encC)) (hla : la.length = na) (hb : Rd h 45 2 sb nb (lb.flatMap encC)) (hlb : lb.length = nb) (hn : na ≤ 4000000000) {Q : VQ}
    (hq : Q (.bool (decide (la = lb))) h) : W 15 [sa, sb] h Q := by
  obtain ⟨aa, ca, rfl⟩ := ha.form
  obtain ⟨ab, cb, rfl⟩ := hb.form
  refine AM.enter hp (fn := Try.f15) (rs := [.tmp 4]) (nt := 26) (by kernel_rfl) Try.func15 rfl rfl rfl (by kernel_rfl) ?_
  (first | (simp (disch := first | omega | (simp only [AM.DB, List.length_set, List.length_map]; done) | (simp only [AM.DB, List.length_set, List.length_map]; omega)) only [AM.RB, Nat.reduceAdd, Nat.reduceMul, Nat.reduceEqDiff, reduceCtorEq, b15_C2]) | skip); (repeat' (first | (refine AM.drawW_fine hp (by kernel_rfl) (by kernel_rfl) ?_; simp (disch := first | omega | (simp only [AM.DB, List.length_set, List.length_map]; done) | (simp only [AM.DB, List.length_set, List.length_map]; omega)) only [AM.RB, Nat.reduceAdd, Nat.reduceMul, Nat.reduceEqDiff, reduceCtorEq, b15_C2]) | (refine AM.opW_tied (by kernel_rfl) ?_; simp (disch := first | omega | (simp only [AM.DB, List.length_set, List.length_map]; done) | (simp only [AM.DB, List.length_set, List.length_map]; omega)) only [AM.RB, Nat.reduceAdd, Nat.reduceMul, Nat.reduceEqDiff, reduceCtorEq, b15_C2]) | (refine AM.opW_untied (by kernel_rfl) ?_; simp (disch := first | omega | (simp only [AM.DB, List.length_set, List.length_map]; done) | (simp only [AM.DB, List.length_set, List.length_map]; omega)) only [AM.RB, Nat.reduceAdd, Nat.reduceMul, Nat.reduceEqDiff, reduceCtorEq, b15_C2]) | (refine AM.build_w ?_; simp (disch := first | omega | (simp only [AM.DB, List.length_set, List.length_map]; done) | (simp only [AM.DB, List.length_set, List.length_map]; omega)) only [AM.RB, Nat.reduceAdd, Nat.reduceMul, Nat.reduceEqDiff, reduceCtorEq, b15_C2])))
  refine AM.condV_split (fun he => ?_) (fun he => ?_)
  case' refine_2 =>
    simp (disch := first | omega | (simp only [AM.DB, List.length_set, List.length_map]; done) | (simp only [AM.DB, List.length_set, List.length_map]; omega)) only [AM.RB, Nat.reduceAdd, Nat.reduceMul, Nat.reduceEqDiff, reduceCtorEq, b15_C2]
    have : decide (la = lb) = false := by
      rw [decide_eq_false_iff_not]; rintro rfl; omega
    rw [this] at hq; exact hq
  have he' : na = nb := by omega
  subst he'
  simp (disch := first | omega | (simp only [AM.DB, List.length_set, List.length_map]; done) | (simp only [AM.DB, List.length_set, List.length_map]; omega)) only [AM.RB, Nat.reduceAdd, Nat.reduceMul, Nat.reduceEqDiff, reduceCtorEq, b15_C2]
  refine AM.loop_w hp 26 (fun i : Nat => [(0, .slice aa na ca), (1, .slice ab na cb), (5, .int .i64 i)])
    (fun i h' => i ≤ na ∧ h' = h ∧ ∀ j, j < i → la.getD j d0 = lb.getD j d0) (fun i => na - i) (by kernel_rfl) 0 ?_ ?_ ?_
  · simp (disch := first | omega | (simp only [AM.DB, List.length_set, List.length_map]; done) | (simp only [AM.DB, List.length_set, List.length_map]; omega)) only [AM.RB, Nat.reduceAdd, Nat.reduceMul, Nat.reduceEqDiff, reduceCtorEq, b15_C2]
  · exact ⟨Nat.zero_le _, rfl, fun j hj => by omega⟩
  rintro i h1 ρ ⟨hi, rfl, hall⟩
  simp (disch := first | omega | (simp only [AM.DB, List.length_set, List.length_map]; done) | (simp only [AM.DB, List.length_set, List.length_map]; omega)) only [AM.RB, Nat.reduceAdd, Nat.reduceMul, Nat.reduceEqDiff, reduceCtorEq, b15_C2]
  refine AM.condV_split (fun hlt => ?_) (fun hlt => ?_)
  · (first | (simp (disch := first | omega | (simp only [AM.DB, List.length_set, List.length_map]; done) | (simp only [AM.DB, List.length_set, List.length_map]; omega)) only [AM.RB, Nat.reduceAdd, Nat.reduceMul, Nat.reduceEqDiff, reduceCtorEq, b15_C2, ha.ia el_31, ha.lds encC_len lk_45 hla d0, hb.ia el_31, hb.lds encC_len lk_45 hlb d0, encC, AM.wrap_i64, Int.toNat_natCast]) | skip); (repeat' (first | (refine AM.guard_spl ?_ ?_ <;> (intro hd hp_; simp (disch := first | omega | (simp only [AM.DB, List.length_set, List.length_map]; done) | (simp only [AM.DB, List.length_set, List.length_map]; omega)) only [AM.RB, Nat.reduceAdd, Nat.reduceMul, Nat.reduceEqDiff, reduceCtorEq, b15_C2, hd, ha.ia el_31, ha.lds encC_len lk_45 hla d0, hb.ia el_31, hb.lds encC_len lk_45 hlb d0, encC, AM.wrap_i64, Int.toNat_natCast])) | (refine AM.cond_spl ?_ ?_ <;> (intro hd hp_; simp (disch := first | omega | (simp only [AM.DB, List.length_set, List.length_map]; done) | (simp only [AM.DB, List.length_set, List.length_map]; omega)) only [AM.RB, Nat.reduceAdd, Nat.reduceMul, Nat.reduceEqDiff, reduceCtorEq, b15_C2, hd, ha.ia el_31, ha.lds encC_len lk_45 hla d0, hb.ia el_31, hb.lds encC_len lk_45 hlb d0, encC, AM.wrap_i64, Int.toNat_natCast])) | (refine AM.guard_b ?_ ?_ <;> (intro hd hp_; simp (disch := first | omega | (simp only [AM.DB, List.length_set, List.length_map]; done) | (simp only [AM.DB, List.length_set, List.length_map]; omega)) only [AM.RB, Nat.reduceAdd, Nat.reduceMul, Nat.reduceEqDiff, reduceCtorEq, b15_C2, hd, ha.ia el_31, ha.lds encC_len lk_45 hla d0, hb.ia el_31, hb.lds encC_len lk_45 hlb d0, encC, AM.wrap_i64, Int.toNat_natCast])) | (refine AM.cond_b ?_ ?_ <;> (intro hd hp_; simp (disch := first | omega | (simp only [AM.DB, List.length_set, List.length_map]; done) | (simp only [AM.DB, List.length_set, List.length_map]; omega)) only [AM.RB, Nat.reduceAdd, Nat.reduceMul, Nat.reduceEqDiff, reduceCtorEq, b15_C2, hd, ha.ia el_31, ha.lds encC_len lk_45 hla d0, hb.ia el_31, hb.lds encC_len lk_45 hlb d0, encC, AM.wrap_i64, Int.toNat_natCast])) | (refine AM.drawW_fine hp (by kernel_rfl) (by kernel_rfl) ?_; simp (disch := first | omega | (simp only [AM.DB, List.length_set, List.length_map]; done) | (simp only [AM.DB, List.length_set, List.length_map]; omega)) only [AM.RB, Nat.reduceAdd, Nat.reduceMul, Nat.reduceEqDiff, reduceCtorEq, b15_C2, ha.ia el_31, ha.lds encC_len lk_45 hla d0, hb.ia el_31, hb.lds encC_len lk_45 hlb d0, encC, AM.wrap_i64, Int.toNat_natCast]) | (refine AM.opW_tied (by kernel_rfl) ?_; simp (disch := first | omega | (simp only [AM.DB, List.length_set, List.length_map]; done) | (simp only [AM.DB, List.length_set, List.length_map]; omega)) only [AM.RB, Nat.reduceAdd, Nat.reduceMul, Nat.reduceEqDiff, reduceCtorEq, b15_C2, ha.ia el_31, ha.lds encC_len lk_45 hla d0, hb.ia el_31, hb.lds encC_len lk_45 hlb d0, encC, AM.wrap_i64, Int.toNat_natCast]) | (refine AM.opW_untied (by kernel_rfl) ?_; simp (disch := first | omega | (simp only [AM.DB, List.length_set, List.length_map]; done) | (simp only [AM.DB, List.length_set, List.length_map]; omega)) only [AM.RB, Nat.reduceAdd, Nat.reduceMul, Nat.reduceEqDiff, reduceCtorEq, b15_C2, ha.ia el_31, ha.lds encC_len lk_45 hla d0, hb.ia el_31, hb.lds encC_len lk_45 hlb d0, encC, AM.wrap_i64, Int.toNat_natCast]) | (refine AM.build_w ?_; simp (disch := first | omega | (simp only [AM.DB, List.length_set, List.length_map]; done) | (simp only [AM.DB, List.length_set, List.length_map]; omega)) only [AM.RB, Nat.reduceAdd, Nat.reduceMul, Nat.reduceEqDiff, reduceCtorEq, b15_C2, ha.ia el_31, ha.lds encC_len lk_45 hla d0, hb.ia el_31, hb.lds encC_len lk_45 hlb d0, encC, AM.wrap_i64, Int.toNat_natCast])))
    · simp only [Bool.and_true, Bool.and_eq_true, decide_eq_true_eq] at hp_
      refine ⟨i + 1, by omega, by simp, by omega, fun j hj => ?_⟩
      by_cases e : j = i
      · subst e; exact Prod.ext hp_.1 hp_.2
      · exact hall j (by omega)
    · have : decide (la = lb) = false := by
        rw [decide_eq_false_iff_not]; rintro rfl; simp at hp_
      rw [this] at hq; exact hq
  · simp (disch := first | omega | (simp only [AM.DB, List.length_set, List.length_map]; done) | (simp only [AM.DB, List.length_set, List.length_map]; omega)) only [AM.RB, Nat.reduceAdd, Nat.reduceMul, Nat.reduceEqDiff, reduceCtorEq, b15_C2]
    have : decide (la = lb) = true := by
      rw [decide_eq_true_iff]
      refine List.ext_getElem (by omega) fun j h2 h3 => ?_
      have := hall j (by omega)
      simpa [List.getD, h2, h3] using this
    rw [this] at hq; exact hq

end Go.Proofs.Ytiigibhnjobcaaa
