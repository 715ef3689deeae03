/- Walks of this claim's functions, and plain laws. -/
import Derived.Test.YtodcnfabnlojdaaWa
set_option linter.unusedSimpArgs false
set_option linter.unusedVariables false
namespace Go.AM
variable {P : Program}
theorem len_enc {h : AHeap} {t k e : TypeId} (hu : P.underlying t = some (.map k e)) {id : Nat} {l : List (Int × Value)} (hg : h.get id = some (.map (encM l))) : aLen P h t (.map (some id)) = some (.int .i64 l.length) := by
  unfold aLen; rw [hu]; simp [hg, encM]
end Go.AM
namespace Go.Proofs.Ytodcnfabnlojdaa
open Go.AM
set_option maxRecDepth 8000
theorem b65_IY9 : type_of% (And.intro (@List.map_toArray.{0,0}) (And.intro (@AM.boxK_agg) (And.intro (@AM.boxK_bool) (And.intro (@AM.boxK_func) (And.intro (@AM.boxK_int) (And.intro (@AM.boxK_map) (And.intro (@AM.boxK_pointer) (And.intro (@AM.boxK_slice) (And.intro (@AM.boxK_string) (And.intro (@AM.op_box) (@AM.op_makeFunc))))))))))) := And.intro (@List.map_toArray.{0,0}) (And.intro (@AM.boxK_agg) (And.intro (@AM.boxK_bool) (And.intro (@AM.boxK_func) (And.intro (@AM.boxK_int) (And.intro (@AM.boxK_map) (And.intro (@AM.boxK_pointer) (And.intro (@AM.boxK_slice) (And.intro (@AM.boxK_string) (And.intro (@AM.op_box) (@AM.op_makeFunc))))))))))
theorem b29_IY9 : type_of% (And.intro (@Option.isNone_none.{0}) (And.intro (@Option.isNone_some.{0}) (And.intro (@AM.aMax_int) (And.intro (@AM.aMin_int) (And.intro (@AM.bin_add) (And.intro (@AM.bin_geq) (And.intro (@AM.bin_gtr) (And.intro (@AM.bin_lss) (And.intro (AM.bin_pnil ul_55) (And.intro (@AM.bin_sub) (And.intro (@AM.ex_tuple) (And.intro (@AM.fa_ptr) (And.intro (@fd_58_0) (And.intro (@AM.ldO_agg) (And.intro (@AM.ldO_one) (And.intro (@AM.ld_ptr) (And.intro (@lk_56) (And.intro (@AM.op_binOp) (And.intro (@AM.op_call) (And.intro (@AM.op_extract) (And.intro (@AM.op_fieldAddr) (And.intro (@AM.op_len) (And.intro (@AM.op_load) (And.intro (@AM.op_lookup) (And.intro (@AM.op_mapUpdate) (And.intro (@AM.op_max2) (And.intro (@AM.op_min2) (And.intro (@AM.op_nilCheck) (And.intro (@AM.op_store) (And.intro (@AM.op_unOp) (And.intro (@AM.stO_agg) (And.intro (@AM.stO_bool) (And.intro (@AM.stO_int) (And.intro (@AM.stO_map) (And.intro (@AM.stO_pointer) (And.intro (@AM.stO_slice) (And.intro (@AM.stO_string) (And.intro (@AM.st_ptr) (And.intro (@sz_56) (And.intro (@AM.un_neg) (@AM.un_not))))))))))))))))))))))))))))))))))))))))) := And.intro (@Option.isNone_none.{0}) (And.intro (@Option.isNone_some.{0}) (And.intro (@AM.aMax_int) (And.intro (@AM.aMin_int) (And.intro (@AM.bin_add) (And.intro (@AM.bin_geq) (And.intro (@AM.bin_gtr) (And.intro (@AM.bin_lss) (And.intro (AM.bin_pnil ul_55) (And.intro (@AM.bin_sub) (And.intro (@AM.ex_tuple) (And.intro (@AM.fa_ptr) (And.intro (@fd_58_0) (And.intro (@AM.ldO_agg) (And.intro (@AM.ldO_one) (And.intro (@AM.ld_ptr) (And.intro (@lk_56) (And.intro (@AM.op_binOp) (And.intro (@AM.op_call) (And.intro (@AM.op_extract) (And.intro (@AM.op_fieldAddr) (And.intro (@AM.op_len) (And.intro (@AM.op_load) (And.intro (@AM.op_lookup) (And.intro (@AM.op_mapUpdate) (And.intro (@AM.op_max2) (And.intro (@AM.op_min2) (And.intro (@AM.op_nilCheck) (And.intro (@AM.op_store) (And.intro (@AM.op_unOp) (And.intro (@AM.stO_agg) (And.intro (@AM.stO_bool) (And.intro (@AM.stO_int) (And.intro (@AM.stO_map) (And.intro (@AM.stO_pointer) (And.intro (@AM.stO_slice) (And.intro (@AM.stO_string) (And.intro (@AM.st_ptr) (And.intro (@sz_56) (And.intro (@AM.un_neg) (@AM.un_not))))))))))))))))))))))))))))))))))))))))


theorem vU_len (L : IL) : (vU L).length = L.length := by simp [vU]
theorem all_w {h : AHeap} {p : Nat} {now : Int} {Q : VQ} (hq : ∀ h2, h2.get h.next = some (.cells [pv p] 55 false) → h2.get (h.next + 1) = some (.cells [.int .u64 now] 29 false) → Fr none' h h2 → h2.next = h.next + 2 → h2.low = h.low →
    Q (.func (.func 76) #[] #[pv h.next, pv (h.next + 1)]) h2) : W 65 [pv p, .int .u64 now] h Q := by
  obtain ⟨h2, e2, ga, gb, fr2, n2, l2⟩ := two_new h [pv p] [.int .u64 now] 55 29
  refine AM.enter hp (fn := Try.f65) (rs := [.tmp 4]) (nt := 6) (by kernel_rfl) Try.func65 rfl rfl rfl (by kernel_rfl) ?_
  simp (maxSteps := 1000000) (disch := first | omega | (simp only [AM.DB, List.length_set, List.length_map]; first | done | omega)) only [AM.RB, Nat.reduceAdd, Nat.reduceMul, Nat.reduceEqDiff, reduceCtorEq, b65_IY9]
  rw [e2]
  exact hq h2 ga gb fr2 n2 l2
theorem collect_w {h : AHeap} {p a b : Nat} {mo : Option Nat} {L : IL} {now : Int} {ea eb : TypeId} (x : Bd h p mo L) (ok : okU L) (ga : h.get a = some (.cells [pv p] ea false)) (gb : h.get b = some (.cells [.int .u64 now] eb false)) (la : h.low ≤ a) (lb : h.low ≤ b) {Q : VQ}
    (hq : Q (.map (some h.next)) (h.alloc (.map (encM (vU (L.filter (onP now))))))) : W 64 [.func (.func 76) #[] #[pv a, pv b]] h Q := by
  obtain ⟨g, hl, hne, hm⟩ := x
  refine AM.callW_prim hp (p := pCollect) (by unfold prims; rfl) ⟨0, ?_⟩ hq
  show pCollect _ _ _ = _
  unfold pCollect
  cases mo with
  | none =>
    obtain rfl : L = [] := hm
    simp [pv, ga, gb, g, la, lb, hl, encM, vU]
  | some m =>
    simp only [Array.toList_empty, List.nil_append, List.append_nil, pv, ga, gb, g]
    simp only [List.getElem?_cons_zero, hm.1, hl, la, lb, ok.es, and_self, if_true, filt_vU]

/-- What Ban answers, and leaves. -/
def banP (now c t : Int) (L : IL) : Int × IL :=
  if ¬ (0 ≤ c ∧ c < 1024) then (2, L)
  else if getI (L.filter (onP now)) c = none ∧ 64 ≤ (L.filter (onP now)).length then (180, L.filter (onP now))
  else (0, if 0 < t then setI (L.filter (onP now)) c (max ((getI (L.filter (onP now)) c).getD 0) (now + min t (18446744073709551615 - now))) else L.filter (onP now))
theorem getI_fit {L : IL} (ok : okU L) (c : Int) : 0 ≤ (getI L c).getD 0 ∧ (getI L c).getD 0 < 18446744073709551616 := by
  cases hg : getI L c with
  | none => simp
  | some v => exact (ok.1 _ (getI_mem hg)).2
theorem banP_ok {L : IL} (ok : okU L) {now c t : Int} (hn : 0 ≤ now ∧ now < 18446744073709551616) (ht : 0 ≤ t) : okU (banP now c t L).2 := by
  unfold banP
  split
  · exact ok
  · rename_i hc
    split
    · exact ok.filter _
    · rename_i h
      simp only
      split
      · refine (ok.filter _).set ⟨by omega, ?_⟩ h
        have := getI_fit (ok.filter (onP now)) c
        simp only
        omega
      · exact ok.filter _

theorem ban_w {h : AHeap} {p : Nat} {mo : Option Nat} {L : IL} {now c t : Int} (x : Bd h p mo L) (ok : okU L) (hn : 0 ≤ now ∧ now < 18446744073709551616) (ht : 0 ≤ t ∧ t < 18446744073709551616) {Q : VQ}
    (hq : BdTo h p mo (banP now c t L).2 fun h' => Q (.int .i64 (banP now c t L).1) h') : W 29 [pv p, .int .u64 now, .int .i64 c, .int .u64 t] h Q := by
  have hlt0 := AM.get_some_lt x.1
  refine AM.enter hp (fn := Try.f29) (rs := [.tmp 8]) (nt := 67) (by kernel_rfl) Try.func29 rfl rfl rfl (by kernel_rfl) ?_
  by_cases c0 : c < 0
  · have d0 : decide (c < 0) = true := decide_eq_true c0
    (repeat' (first | (simp (maxSteps := 1000000) (disch := first | omega | (simp only [AM.DB, List.length_set, List.length_map]; first | done | omega)) only [AM.RB, Nat.reduceAdd, Nat.reduceMul, Nat.reduceEqDiff, reduceCtorEq, b29_IY9, d0]) | refine AM.drawW_fine hp (by kernel_rfl) (by kernel_rfl) (by kernel_rfl) ?_ | refine AM.opW_tied (by kernel_rfl) ?_ | refine AM.opW_untied (by kernel_rfl) ?_))
    rw [show banP now c t L = (2, L) by unfold banP; rw [if_pos (by omega)]] at hq
    exact hq _ mo x (Fr.refl _ _) (fun id e => .inl e)
  have d0 : decide (c < 0) = false := decide_eq_false c0
  by_cases c1 : 1024 ≤ c
  · have d1 : decide (1024 ≤ c) = true := decide_eq_true c1
    (repeat' (first | (simp (maxSteps := 1000000) (disch := first | omega | (simp only [AM.DB, List.length_set, List.length_map]; first | done | omega)) only [AM.RB, Nat.reduceAdd, Nat.reduceMul, Nat.reduceEqDiff, reduceCtorEq, b29_IY9, d0, d1]) | refine AM.drawW_fine hp (by kernel_rfl) (by kernel_rfl) (by kernel_rfl) ?_ | refine AM.opW_tied (by kernel_rfl) ?_ | refine AM.opW_untied (by kernel_rfl) ?_))
    rw [show banP now c t L = (2, L) by unfold banP; rw [if_pos (by omega)]] at hq
    exact hq _ mo x (Fr.refl _ _) (fun id e => .inl e)
  have d1 : decide (1024 ≤ c) = false := decide_eq_false c1
  (repeat' (first | (simp (maxSteps := 1000000) (disch := first | omega | (simp only [AM.DB, List.length_set, List.length_map]; first | done | omega)) only [AM.RB, Nat.reduceAdd, Nat.reduceMul, Nat.reduceEqDiff, reduceCtorEq, b29_IY9, d0, d1]) | refine AM.drawW_fine hp (by kernel_rfl) (by kernel_rfl) (by kernel_rfl) ?_ | refine AM.opW_tied (by kernel_rfl) ?_ | refine AM.opW_untied (by kernel_rfl) ?_))
  refine all_w fun h2 ga gb fr2 n2 l2 => ?_
  have x2 := x.fr0 fr2
  have lw := x.2.1
  (repeat' (first | (simp (maxSteps := 1000000) (disch := first | omega | (simp only [AM.DB, List.length_set, List.length_map]; first | done | omega)) only [AM.RB, Nat.reduceAdd, Nat.reduceMul, Nat.reduceEqDiff, reduceCtorEq, b29_IY9]) | refine AM.drawW_fine hp (by kernel_rfl) (by kernel_rfl) (by kernel_rfl) ?_ | refine AM.opW_tied (by kernel_rfl) ?_ | refine AM.opW_untied (by kernel_rfl) ?_))
  refine collect_w x2 ok ga gb (by omega) (by omega) ?_
  have g2 := x2.1
  have gn : (h2.alloc (.map (encM (vU (L.filter (onP now)))))).get p = some (.cells [.map mo] 58 false) := by rw [AM.get_alloc_ne (Nat.ne_of_lt (AM.get_some_lt g2))]; exact g2
  have gm := AM.get_alloc_self (h := h2) (o := .map (encM (vU (L.filter (onP now))))) rfl
  have hlp : (h2.alloc (.map (encM (vU (L.filter (onP now)))))).low ≤ p := by rw [AHeap.low_alloc]; omega
  have hlm : (h2.alloc (.map (encM (vU (L.filter (onP now)))))).low ≤ h2.next := by rw [AHeap.low_alloc]; omega
  have frm : Fr none' h (h2.alloc (.map (encM (vU (L.filter (onP now)))))) := fr2.alloc _
  have nxm : (h2.alloc (.map (encM (vU (L.filter (onP now)))))).next = h2.next + 1 := rfl
  generalize h2.alloc (.map (encM (vU (L.filter (onP now))))) = h3 at *
  have lt3 := AM.get_some_lt gn
  obtain ⟨h4, e4⟩ : ∃ h4, h3.put p (some (.cells [.map (some h2.next)] 58 false)) = h4 := ⟨_, rfl⟩
  obtain ⟨gp, fr4, n4, l4⟩ := AM.put_get e4 lt3
  have hne : h2.next ≠ p := by omega
  have gm4 := fr4.get gm hne
  have lm4 : h4.low ≤ h2.next := by omega
  have lp4 : h4.low ≤ p := by omega
  have okF := ok.filter (onP now)
  have hc0 : ¬ ¬ (0 ≤ c ∧ c < 1024) := by omega
  unfold banP at hq
  rw [if_neg hc0] at hq
  generalize L.filter (onP now) = P at *
  have fr04 : Fr (own p mo) h h4 := frm.weak.then fr4 fun id _ q => .inl q
  have e1 : ∀ z, ((getI P z).map (Value.int .u64)).getD (.int .u64 0) = .int .u64 ((getI P z).getD 0) := fun z => by cases getI P z <;> rfl
  have bnd := getI_fit okF c
  have b4 : Bd h4 p (some h2.next) P := ⟨gp, lp4, fun e => hne (by cases e; rfl), gm4, lm4⟩
  have nw : ∀ id, some h2.next = some id → mo = some id ∨ h.next ≤ id := fun id e => .inr (by cases e; omega)
  (repeat' (first | (simp (maxSteps := 1000000) (disch := first | omega | (simp only [AM.DB, List.length_set, List.length_map]; first | done | omega)) only [AM.RB, Nat.reduceAdd, Nat.reduceMul, Nat.reduceEqDiff, reduceCtorEq, b29_IY9, gn]) | refine AM.drawW_fine hp (by kernel_rfl) (by kernel_rfl) (by kernel_rfl) ?_ | refine AM.opW_tied (by kernel_rfl) ?_ | refine AM.opW_untied (by kernel_rfl) ?_))
  rw [e4]
  have is1 : ((getI P c).map (Value.int .u64)).isSome = (getI P c).isSome := by cases getI P c <;> rfl
  by_cases hf : getI P c = none ∧ 64 ≤ P.length
  · have di : (getI P c).isSome = false := by rw [hf.1]; rfl
    have dl : decide ((64 : Int) ≤ P.length) = true := decide_eq_true (by omega)
    rw [if_pos hf] at hq
    (repeat' (first | (simp (maxSteps := 1000000) (disch := first | omega | (simp only [AM.DB, List.length_set, List.length_map]; first | done | omega)) only [AM.RB, Nat.reduceAdd, Nat.reduceMul, Nat.reduceEqDiff, reduceCtorEq, b29_IY9, gp, AM.lookup_enc2 mp_56 gm4, vU_get, e1, is1, di, AM.len_enc ul_56 gm4, vU_len, dl]) | refine AM.drawW_fine hp (by kernel_rfl) (by kernel_rfl) (by kernel_rfl) ?_ | refine AM.opW_tied (by kernel_rfl) ?_ | refine AM.opW_untied (by kernel_rfl) ?_))
    exact hq _ _ b4 fr04 nw
  rw [if_neg hf] at hq
  have m0 := AM.lookup_enc2 mp_56 gm4 c
  rw [vU_get, e1, is1] at m0
  have m1 := AM.lookup_enc mp_56 gm4 c
  rw [vU_get, e1] at m1
  have w1 : IntKind.u64.wrap (18446744073709551615 - now) = 18446744073709551615 - now := AM.wrap_u64 (by omega) (by omega)
  have mn : (if 18446744073709551615 - now < t then 18446744073709551615 - now else t) = min t (18446744073709551615 - now) := by split <;> omega
  have w2 : IntKind.u64.wrap (now + min t (18446744073709551615 - now)) = now + min t (18446744073709551615 - now) := AM.wrap_u64 (by omega) (by omega)
  have lt4 := AM.get_some_lt gm4
  have fin : ∀ P' : IL, Bd (h4.put h2.next (some (.map (encM (vU P'))))) p (some h2.next) P' ∧ Fr (own p mo) h (h4.put h2.next (some (.map (encM (vU P'))))) := fun P' =>
    ⟨⟨by rw [AM.get_put_ne (fun e => hne e.symm)]; exact gp, lp4, b4.2.2.1, AM.get_put_self rfl lt4, lm4⟩, fr04.put _ (.inl (by omega))⟩
  cases his : (getI P c).isSome with
  | true =>
    rw [his] at m0
    by_cases t0 : 0 < t
    · have dt : decide (0 < t) = true := decide_eq_true t0
      rw [if_pos t0] at hq
      (repeat' (first | (simp (maxSteps := 1000000) (disch := first | omega | (simp only [AM.DB, List.length_set, List.length_map]; first | done | omega)) only [AM.RB, Nat.reduceAdd, Nat.reduceMul, Nat.reduceEqDiff, reduceCtorEq, b29_IY9, gp, m0, dt, m1, w1, mn, w2, AM.update_enc mp_56 gm4 lm4, vU_set]) | refine AM.drawW_fine hp (by kernel_rfl) (by kernel_rfl) (by kernel_rfl) ?_ | refine AM.opW_tied (by kernel_rfl) ?_ | refine AM.opW_untied (by kernel_rfl) ?_))
      exact hq _ _ (fin _).1 (fin _).2 nw
    · have dt : decide (0 < t) = false := decide_eq_false t0
      rw [if_neg t0] at hq
      (repeat' (first | (simp (maxSteps := 1000000) (disch := first | omega | (simp only [AM.DB, List.length_set, List.length_map]; first | done | omega)) only [AM.RB, Nat.reduceAdd, Nat.reduceMul, Nat.reduceEqDiff, reduceCtorEq, b29_IY9, gp, m0, dt]) | refine AM.drawW_fine hp (by kernel_rfl) (by kernel_rfl) (by kernel_rfl) ?_ | refine AM.opW_tied (by kernel_rfl) ?_ | refine AM.opW_untied (by kernel_rfl) ?_))
      exact hq _ _ b4 fr04 nw
  | false =>
    rw [his] at m0
    have hn0 : getI P c = none := Option.isNone_iff_eq_none.1 (by rw [← Option.not_isSome, his]; rfl)
    have dl : decide ((64 : Int) ≤ P.length) = false := decide_eq_false (fun q => hf ⟨hn0, by omega⟩)
    by_cases t0 : 0 < t
    · have dt : decide (0 < t) = true := decide_eq_true t0
      rw [if_pos t0] at hq
      (repeat' (first | (simp (maxSteps := 1000000) (disch := first | omega | (simp only [AM.DB, List.length_set, List.length_map]; first | done | omega)) only [AM.RB, Nat.reduceAdd, Nat.reduceMul, Nat.reduceEqDiff, reduceCtorEq, b29_IY9, gp, m0, AM.len_enc ul_56 gm4, vU_len, dl, dt, m1, w1, mn, w2, AM.update_enc mp_56 gm4 lm4, vU_set]) | refine AM.drawW_fine hp (by kernel_rfl) (by kernel_rfl) (by kernel_rfl) ?_ | refine AM.opW_tied (by kernel_rfl) ?_ | refine AM.opW_untied (by kernel_rfl) ?_))
      exact hq _ _ (fin _).1 (fin _).2 nw
    · have dt : decide (0 < t) = false := decide_eq_false t0
      rw [if_neg t0] at hq
      (repeat' (first | (simp (maxSteps := 1000000) (disch := first | omega | (simp only [AM.DB, List.length_set, List.length_map]; first | done | omega)) only [AM.RB, Nat.reduceAdd, Nat.reduceMul, Nat.reduceEqDiff, reduceCtorEq, b29_IY9, gp, m0, AM.len_enc ul_56 gm4, vU_len, dl, dt]) | refine AM.drawW_fine hp (by kernel_rfl) (by kernel_rfl) (by kernel_rfl) ?_ | refine AM.opW_tied (by kernel_rfl) ?_ | refine AM.opW_untied (by kernel_rfl) ?_))
      exact hq _ _ b4 fr04 nw
end Go.Proofs.Ytodcnfabnlojdaa

namespace Go.Proofs.Ytodcnfabnlojdaa
open Go.AM
set_option maxRecDepth 8000
theorem b38_IY10 : type_of% (And.intro (@AM.bin_add) (And.intro (@AM.bin_lss) (And.intro (@AM.bin_neq) (And.intro (@AM.iaO_ok) (And.intro (AM.ia_slice el_22) (And.intro (@AM.ldO_agg) (And.intro (@AM.ldO_one) (And.intro (@AM.ld_ptr) (And.intro (AM.len_slice ul_22) (And.intro (@lk_3) (And.intro (@AM.op_binOp) (And.intro (@AM.op_indexAddr) (And.intro (@AM.op_len) (@AM.op_load)))))))))))))) := And.intro (@AM.bin_add) (And.intro (@AM.bin_lss) (And.intro (@AM.bin_neq) (And.intro (@AM.iaO_ok) (And.intro (AM.ia_slice el_22) (And.intro (@AM.ldO_agg) (And.intro (@AM.ldO_one) (And.intro (@AM.ld_ptr) (And.intro (AM.len_slice ul_22) (And.intro (@lk_3) (And.intro (@AM.op_binOp) (And.intro (@AM.op_indexAddr) (And.intro (@AM.op_len) (@AM.op_load)))))))))))))
theorem b22_IY10 : type_of% (And.intro (@AM.alK_some) (And.intro (@al_58) (And.intro (@AM.bin_eql) (And.intro (AM.bsW_int bs_22) (And.intro (AM.bsW_int2 bs_22) (And.intro (AM.bsW_nil bs_22) (And.intro (AM.bsW_slice bs_22) (And.intro (AM.bsW_string bs_22) (And.intro (@AM.ex_tuple) (And.intro (@AM.op_alloc) (And.intro (@AM.op_binOp) (And.intro (@AM.op_buildSlice) (And.intro (@AM.op_call) (@AM.op_extract)))))))))))))) := And.intro (@AM.alK_some) (And.intro (@al_58) (And.intro (@AM.bin_eql) (And.intro (AM.bsW_int bs_22) (And.intro (AM.bsW_int2 bs_22) (And.intro (AM.bsW_nil bs_22) (And.intro (AM.bsW_slice bs_22) (And.intro (AM.bsW_string bs_22) (And.intro (@AM.ex_tuple) (And.intro (@AM.op_alloc) (And.intro (@AM.op_binOp) (And.intro (@AM.op_buildSlice) (And.intro (@AM.op_call) (@AM.op_extract)))))))))))))


theorem sameY_w {sa sb : Value} {na nb : Nat} {la lb : List Int} {h : AHeap} (ha : Rd h 3 1 sa na (la.map (.int .i64))) (hb : Rd h 3 1 sb nb (lb.map (.int .i64))) (hn : na ≤ 4000000000) {Q : VQ}
    (hq : Q (.bool (decide (la = lb))) h) : W 38 [sa, sb] h Q := by
  obtain ⟨aa, ca, rfl⟩ := ha.form
  obtain ⟨ab, cb, rfl⟩ := hb.form
  have hla : la.length = na := by simpa using ha.length
  have hlb : lb.length = nb := by simpa using hb.length
  refine AM.enter hp (fn := Try.f38) (rs := [.tmp 4]) (nt := 26) (by kernel_rfl) Try.func38 rfl rfl rfl (by kernel_rfl) ?_
  simp (maxSteps := 1000000) (disch := first | omega | (simp only [AM.DB, List.length_set, List.length_map]; first | done | omega)) only [AM.RB, Nat.reduceAdd, Nat.reduceMul, Nat.reduceEqDiff, reduceCtorEq, b38_IY10]
  refine AM.condV_split (fun he => ?_) (fun he => ?_)
  case' refine_2 =>
    simp (maxSteps := 1000000) (disch := first | omega | (simp only [AM.DB, List.length_set, List.length_map]; first | done | omega)) only [AM.RB, Nat.reduceAdd, Nat.reduceMul, Nat.reduceEqDiff, reduceCtorEq, b38_IY10]
    have : decide (la = lb) = false := by
      rw [decide_eq_false_iff_not]; rintro rfl; omega
    rw [this] at hq; exact hq
  have he' : na = nb := by omega
  subst he'
  simp (maxSteps := 1000000) (disch := first | omega | (simp only [AM.DB, List.length_set, List.length_map]; first | done | omega)) only [AM.RB, Nat.reduceAdd, Nat.reduceMul, Nat.reduceEqDiff, reduceCtorEq, b38_IY10]
  refine AM.loop_w hp 26 (fun i : Nat => [(0, .slice aa na ca), (1, .slice ab na cb), (12, .int .i64 na), (13, .int .i64 i)])
    (fun i h' => i ≤ na ∧ h' = h ∧ ∀ j, j < i → la.getD j 0 = lb.getD j 0) (fun i => na - i) (by kernel_rfl) 0 ?_ ?_ ?_
  · simp (maxSteps := 1000000) (disch := first | omega | (simp only [AM.DB, List.length_set, List.length_map]; first | done | omega)) only [AM.RB, Nat.reduceAdd, Nat.reduceMul, Nat.reduceEqDiff, reduceCtorEq, b38_IY10]
  · exact ⟨Nat.zero_le _, rfl, fun j hj => by omega⟩
  · rintro i h1 ρ ⟨hi, rfl, hall⟩
    simp (maxSteps := 1000000) (disch := first | omega | (simp only [AM.DB, List.length_set, List.length_map]; first | done | omega)) only [AM.RB, Nat.reduceAdd, Nat.reduceMul, Nat.reduceEqDiff, reduceCtorEq, b38_IY10]
    refine AM.condV_split (fun hlt => ?_) (fun hlt => ?_)
    · simp (maxSteps := 1000000) (disch := first | omega | (simp only [AM.DB, List.length_set, List.length_map]; first | done | omega)) only [AM.RB, Nat.reduceAdd, Nat.reduceMul, Nat.reduceEqDiff, reduceCtorEq, b38_IY10]
      refine AM.drawW_fine hp (by kernel_rfl) (by kernel_rfl) (by kernel_rfl) ?_
      simp (maxSteps := 1000000) (disch := first | omega | (simp only [AM.DB, List.length_set, List.length_map]; first | done | omega)) only [AM.RB, Nat.reduceAdd, Nat.reduceMul, Nat.reduceEqDiff, reduceCtorEq, b38_IY10, ha.ia el_22, ha.ldi lk_3, hb.ia el_22, hb.ldi lk_3]
      refine AM.condV_split (fun heq => ?_) (fun heq => ?_)
      · simp (maxSteps := 1000000) (disch := first | omega | (simp only [AM.DB, List.length_set, List.length_map]; first | done | omega)) only [AM.RB, Nat.reduceAdd, Nat.reduceMul, Nat.reduceEqDiff, reduceCtorEq, b38_IY10, AM.wrap_i64]
        refine ⟨i + 1, by omega, ?_, by omega, fun j hj => ?_⟩
        · simp (maxSteps := 1000000) (disch := first | omega | (simp only [AM.DB, List.length_set, List.length_map]; first | done | omega)) only [AM.RB, Nat.reduceAdd, Nat.reduceMul, Nat.reduceEqDiff, reduceCtorEq, b38_IY10]
        · by_cases e : j = i
          · subst e; simpa using heq
          · exact hall j (by omega)
      · simp (maxSteps := 1000000) (disch := first | omega | (simp only [AM.DB, List.length_set, List.length_map]; first | done | omega)) only [AM.RB, Nat.reduceAdd, Nat.reduceMul, Nat.reduceEqDiff, reduceCtorEq, b38_IY10]
        have : decide (la = lb) = false := by
          rw [decide_eq_false_iff_not]; rintro rfl; exact heq rfl
        rw [this] at hq; exact hq
    · simp (maxSteps := 1000000) (disch := first | omega | (simp only [AM.DB, List.length_set, List.length_map]; first | done | omega)) only [AM.RB, Nat.reduceAdd, Nat.reduceMul, Nat.reduceEqDiff, reduceCtorEq, b38_IY10]
      have : decide (la = lb) = true := by
        rw [decide_eq_true_iff]
        refine List.ext_getElem (by omega) fun j h2 h3 => ?_
        have := hall j (by omega)
        simpa [List.getD, h2, h3] using this
      rw [this] at hq; exact hq

/-- Bans made since h0. -/
def Bz (h0 h : AHeap) (p : Nat) (mo : Option Nat) (L : IL) : Prop := Bd h p mo L ∧ Fr none' h0 h ∧ ∀ id, own p mo id → h0.next ≤ id
theorem Bz.step {h0 h : AHeap} {p : Nat} {mo : Option Nat} {L L' : IL} (x : Bz h0 h p mo L) {K : AHeap → Prop} (k : ∀ h' mo', Bz h0 h' p mo' L' → K h') : BdTo h p mo L' K :=
  fun h' mo' x' fr' hm => k h' mo' ⟨x', x.2.1.fresh fr' x.2.2, fun id q => q.elim (fun e => x.2.2 id (.inl e)) fun e => (hm id e).elim (fun e' => x.2.2 id (.inr e')) (fun e' => Nat.le_trans x.2.1.next e')⟩
theorem Bz.fr0 {h0 h h' : AHeap} {p : Nat} {mo : Option Nat} {L : IL} (x : Bz h0 h p mo L) (fr : Fr none' h h') : Bz h0 h' p mo L := ⟨x.1.fr0 fr, x.2.1.trans fr, x.2.2⟩
theorem Bz.new (h : AHeap) (hl : h.low ≤ h.next) : Bz h (h.alloc (.cells [.map none] 58 false)) h.next none [] :=
  ⟨⟨AM.get_alloc_self rfl, hl, by simp, rfl⟩, (Fr.refl _ _).alloc _, fun id q => q.elim (fun e => by omega) (fun e => by cases e)⟩

theorem banned37 : bannedL 12 [(7, 15), (3, 13)] = [3, 7] := by
  have h1 : bannedL 12 [(7, 15), (3, 13)] = bannedL 12 [(3, 13), (7, 15)] := Go.mergeSort_of_perm_i (List.Perm.swap _ _ _)
  rw [h1]
  exact List.mergeSort_of_pairwise (by simp)
theorem banned7 : bannedL 13 [(7, 15), (3, 13)] = [7] := List.mergeSort_of_pairwise (by simp)

/-- The chapter's first examples. -/
theorem aliveY_w {h : AHeap} (hl : h.low ≤ h.next) {Q : VQ} (hq : ∀ h', Fr none' h h' → Q (.bool true) h') : W 22 [] h Q := by
  refine AM.enter hp (fn := Try.f22) (rs := [.tmp 0]) (nt := 55) (by kernel_rfl) Try.func22 rfl rfl rfl (by kernel_rfl) ?_
  simp (maxSteps := 1000000) (disch := first | omega | (simp only [AM.DB, List.length_set, List.length_map]; first | done | omega)) only [AM.RB, Nat.reduceAdd, Nat.reduceMul, Nat.reduceEqDiff, reduceCtorEq, b22_IY10]
  have x0 := Bz.new h hl
  generalize h.alloc (.cells [.map none] 58 false) = h1 at x0
  have e1 : banP 10 7 5 [] = (0, [(7, 15)]) := by decide
  have e2 : banP 12 3 1 [(7, 15)] = (0, [(7, 15), (3, 13)]) := by decide
  have ok1 : okU [(7, 15)] := by have := banP_ok okU_nil (now := 10) (c := 7) (t := 5) (by omega) (by omega); rwa [e1] at this
  have ok2 : okU [(7, 15), (3, 13)] := by have := banP_ok ok1 (now := 12) (c := 3) (t := 1) (by omega) (by omega); rwa [e2] at this
  refine ban_w x0.1 okU_nil (by omega) (by omega) (x0.step fun h2 m2 x2 => ?_)
  rw [e1] at x2 ⊢
  (first | (simp (maxSteps := 1000000) (disch := first | omega | (simp only [AM.DB, List.length_set, List.length_map]; first | done | omega)) only [AM.RB, Nat.reduceAdd, Nat.reduceMul, Nat.reduceEqDiff, reduceCtorEq, b22_IY10]) | skip)
  refine ban_w x2.1 ok1 (by omega) (by omega) (x2.step fun h3 m3 x3 => ?_)
  rw [e2] at x3 ⊢
  (first | (simp (maxSteps := 1000000) (disch := first | omega | (simp only [AM.DB, List.length_set, List.length_map]; first | done | omega)) only [AM.RB, Nat.reduceAdd, Nat.reduceMul, Nat.reduceEqDiff, reduceCtorEq, b22_IY10]) | skip)
  refine next_w x3.1 ok2 ?_
  have e3 : nxtP ([((7 : Int), (15 : Int)), (3, 13)].filter (onP 12)) = (13, true) := by decide
  rw [e3]
  (first | (simp (maxSteps := 1000000) (disch := first | omega | (simp only [AM.DB, List.length_set, List.length_map]; first | done | omega)) only [AM.RB, Nat.reduceAdd, Nat.reduceMul, Nat.reduceEqDiff, reduceCtorEq, b22_IY10]) | skip)
  refine span_w _ _ _ ?_
  rw [show spanI 0 = 4 by decide]
  (first | (simp (maxSteps := 1000000) (disch := first | omega | (simp only [AM.DB, List.length_set, List.length_map]; first | done | omega)) only [AM.RB, Nat.reduceAdd, Nat.reduceMul, Nat.reduceEqDiff, reduceCtorEq, b22_IY10]) | skip)
  refine span_w _ _ _ ?_
  rw [show spanI 3 = 32 by decide]
  (first | (simp (maxSteps := 1000000) (disch := first | omega | (simp only [AM.DB, List.length_set, List.length_map]; first | done | omega)) only [AM.RB, Nat.reduceAdd, Nat.reduceMul, Nat.reduceEqDiff, reduceCtorEq, b22_IY10]) | skip)
  refine span_w _ _ _ ?_
  rw [show spanI 99 = 256 by decide]
  (first | (simp (maxSteps := 1000000) (disch := first | omega | (simp only [AM.DB, List.length_set, List.length_map]; first | done | omega)) only [AM.RB, Nat.reduceAdd, Nat.reduceMul, Nat.reduceEqDiff, reduceCtorEq, b22_IY10]) | skip)
  refine span_w _ _ _ ?_
  rw [show spanI (-1) = 4 by decide]
  (first | (simp (maxSteps := 1000000) (disch := first | omega | (simp only [AM.DB, List.length_set, List.length_map]; first | done | omega)) only [AM.RB, Nat.reduceAdd, Nat.reduceMul, Nat.reduceEqDiff, reduceCtorEq, b22_IY10]) | skip)
  refine backoff_w _ _ (by omega) _ _ ?_
  rw [show IntKind.u64.wrap (spanI 1 + Int.tmod 21 (spanI 1)) = 13 by decide]
  (first | (simp (maxSteps := 1000000) (disch := first | omega | (simp only [AM.DB, List.length_set, List.length_map]; first | done | omega)) only [AM.RB, Nat.reduceAdd, Nat.reduceMul, Nat.reduceEqDiff, reduceCtorEq, b22_IY10]) | skip)
  refine banned_w x3.1 ok2 fun v h5 ow fr5 _ => ?_
  rw [banned37] at ow
  have x5 := x3.fr0 fr5
  (first | (simp (maxSteps := 1000000) (disch := first | omega | (simp only [AM.DB, List.length_set, List.length_map]; first | done | omega)) only [AM.RB, Nat.reduceAdd, Nat.reduceMul, Nat.reduceEqDiff, reduceCtorEq, b22_IY10]) | skip)
  generalize hE_ : h5.alloc (.cells [.int .i64 3, .int .i64 7] 3 false) = h6
  have fr6 : Fr none' h5 h6 := by rw [← hE_]; exact (Fr.refl _ _).alloc _
  have g6 : h6.get h5.next = some (.cells [.int .i64 3, .int .i64 7] 3 false) := by rw [← hE_]; exact AM.get_alloc_self rfl
  refine sameY_w (la := [3, 7]) (lb := [3, 7]) (ow.rd.fr0 fr6) (.inr ⟨h5.next, 0, 2, _, _, false, rfl, Nat.le_refl _, g6, by simp, rfl, .inr rfl⟩) (by decide) ?_
  clear hE_
  have x6 := x5.fr0 fr6
  (first | (simp (maxSteps := 1000000) (disch := first | omega | (simp only [AM.DB, List.length_set, List.length_map]; first | done | omega)) only [AM.RB, Nat.reduceAdd, Nat.reduceMul, Nat.reduceEqDiff, reduceCtorEq, b22_IY10]) | skip)
  refine banned_w x6.1 ok2 fun v h7 ow fr7 _ => ?_
  rw [banned7] at ow
  have x7 := x6.fr0 fr7
  (first | (simp (maxSteps := 1000000) (disch := first | omega | (simp only [AM.DB, List.length_set, List.length_map]; first | done | omega)) only [AM.RB, Nat.reduceAdd, Nat.reduceMul, Nat.reduceEqDiff, reduceCtorEq, b22_IY10]) | skip)
  generalize hE_ : h7.alloc (.cells [.int .i64 7] 3 false) = h8
  have fr8 : Fr none' h7 h8 := by rw [← hE_]; exact (Fr.refl _ _).alloc _
  have g8 : h8.get h7.next = some (.cells [.int .i64 7] 3 false) := by rw [← hE_]; exact AM.get_alloc_self rfl
  refine sameY_w (la := [7]) (lb := [7]) (ow.rd.fr0 fr8) (.inr ⟨h7.next, 0, 1, _, _, false, rfl, Nat.le_refl _, g8, by simp, rfl, .inr rfl⟩) (by decide) ?_
  (first | (simp (maxSteps := 1000000) (disch := first | omega | (simp only [AM.DB, List.length_set, List.length_map]; first | done | omega)) only [AM.RB, Nat.reduceAdd, Nat.reduceMul, Nat.reduceEqDiff, reduceCtorEq, b22_IY10]) | skip)
  exact hq _ (x7.2.1.trans fr8)
end Go.Proofs.Ytodcnfabnlojdaa

namespace Go.Proofs.Ytodcnfabnlojdaa
open Go.AM
set_option maxRecDepth 8000
theorem b5_IY11 : type_of% (And.intro (@AM.bin_geq) (And.intro (@AM.bin_gtr) (And.intro (@AM.bin_lss) (And.intro (@AM.bin_mul) (And.intro (@AM.bin_sub) (And.intro (@AM.op_binOp) (@AM.op_call))))))) := And.intro (@AM.bin_geq) (And.intro (@AM.bin_gtr) (And.intro (@AM.bin_lss) (And.intro (@AM.bin_mul) (And.intro (@AM.bin_sub) (And.intro (@AM.op_binOp) (@AM.op_call))))))


theorem spanI_mono {a b : Int} (h : a ≤ b) : spanI a ≤ spanI b := by
  unfold spanI
  have hk : (min (max a 0) 6).toNat ≤ (min (max b 0) 6).toNat := by omega
  generalize (min (max a 0) 6).toNat = k at hk
  generalize (min (max b 0) 6).toNat = m at hk
  have h1 : (2 : Int) ^ k ≤ 2 ^ m := by
    have := Nat.pow_le_pow_right (n := 2) (by decide) hk
    exact_mod_cast this
  omega
theorem backI (t d : Int) (hd : 0 ≤ d ∧ d < 18446744073709551616) : IntKind.u64.wrap (spanI t + d.tmod (spanI t)) = spanI t + d.tmod (spanI t) ∧ 0 ≤ d.tmod (spanI t) ∧ d.tmod (spanI t) < spanI t := by
  have hb := spanI_bounds t
  have h1 : 0 ≤ d.tmod (spanI t) := Int.tmod_nonneg _ hd.1
  have h2 : d.tmod (spanI t) < spanI t := Int.tmod_lt_of_pos _ (by omega)
  exact ⟨AM.wrap_u64 (by omega) (by omega), h1, h2⟩

theorem growsLaw_w {a b d : Int} {h : AHeap} (hd : 0 ≤ d ∧ d < 18446744073709551616) (hl : h.low ≤ h.next) :
    W 5 [.int .i64 a, .int .i64 b, .int .u64 d] h fun v _ => v = .bool true := by
  have ba := spanI_bounds a
  have bb := spanI_bounds b
  obtain ⟨wa, ra0, ra1⟩ := backI a d hd
  obtain ⟨wb, rb0, rb1⟩ := backI b d hd
  refine AM.enter hp (fn := Try.f5) (rs := [.tmp 6]) (nt := 49) (by kernel_rfl) Try.func5 rfl rfl rfl (by kernel_rfl) ?_
  simp (maxSteps := 1000000) (disch := first | omega | (simp only [AM.DB, List.length_set, List.length_map]; first | done | omega)) only [AM.RB, Nat.reduceAdd, Nat.reduceMul, Nat.reduceEqDiff, reduceCtorEq, b5_IY11]
  refine aliveY_w hl fun h1 fr1 => ?_
  (first | (simp (maxSteps := 1000000) (disch := first | omega | (simp only [AM.DB, List.length_set, List.length_map]; first | done | omega)) only [AM.RB, Nat.reduceAdd, Nat.reduceMul, Nat.reduceEqDiff, reduceCtorEq, b5_IY11]) | skip)
  refine span_w _ _ _ ?_
  (first | (simp (maxSteps := 1000000) (disch := first | omega | (simp only [AM.DB, List.length_set, List.length_map]; first | done | omega)) only [AM.RB, Nat.reduceAdd, Nat.reduceMul, Nat.reduceEqDiff, reduceCtorEq, b5_IY11]) | skip)
  refine backoff_w _ _ hd _ _ ?_
  rw [wa]
  have w1 : IntKind.u64.wrap (2 * spanI a) = 2 * spanI a := AM.wrap_u64 (by omega) (by omega)
  have w2 : IntKind.u64.wrap (2 * spanI a - 1) = 2 * spanI a - 1 := AM.wrap_u64 (by omega) (by omega)
  have d1 : decide (spanI a + d.tmod (spanI a) < spanI a) = false := decide_eq_false (by omega)
  have d2 : decide (2 * spanI a - 1 < spanI a + d.tmod (spanI a)) = false := decide_eq_false (by omega)
  by_cases hab : b < a
  · have d3 : decide (b < a) = true := decide_eq_true hab
    (first | (simp (maxSteps := 1000000) (disch := first | omega | (simp only [AM.DB, List.length_set, List.length_map]; first | done | omega)) only [AM.RB, Nat.reduceAdd, Nat.reduceMul, Nat.reduceEqDiff, reduceCtorEq, b5_IY11, w1, w2, d1, d2, d3]) | skip)
  have d3 : decide (b < a) = false := decide_eq_false hab
  by_cases hdn : spanI a ≤ d
  · have d4 : decide (spanI a ≤ d) = true := decide_eq_true hdn
    (first | (simp (maxSteps := 1000000) (disch := first | omega | (simp only [AM.DB, List.length_set, List.length_map]; first | done | omega)) only [AM.RB, Nat.reduceAdd, Nat.reduceMul, Nat.reduceEqDiff, reduceCtorEq, b5_IY11, w1, w2, d1, d2, d3, d4]) | skip)
  have d4 : decide (spanI a ≤ d) = false := decide_eq_false hdn
  have mo := spanI_mono (show a ≤ b by omega)
  have e1 : d.tmod (spanI a) = d := Int.tmod_eq_of_lt hd.1 (by omega)
  have e2 : d.tmod (spanI b) = d := Int.tmod_eq_of_lt hd.1 (by omega)
  (first | (simp (maxSteps := 1000000) (disch := first | omega | (simp only [AM.DB, List.length_set, List.length_map]; first | done | omega)) only [AM.RB, Nat.reduceAdd, Nat.reduceMul, Nat.reduceEqDiff, reduceCtorEq, b5_IY11, w1, w2, d1, d2, d3, d4]) | skip)
  refine backoff_w _ _ hd _ _ ?_
  rw [wb]
  have d5 : decide (spanI a + d.tmod (spanI a) ≤ spanI b + d.tmod (spanI b)) = true := decide_eq_true (by omega)
  (first | (simp (maxSteps := 1000000) (disch := first | omega | (simp only [AM.DB, List.length_set, List.length_map]; first | done | omega)) only [AM.RB, Nat.reduceAdd, Nat.reduceMul, Nat.reduceEqDiff, reduceCtorEq, b5_IY11, d5]) | skip)
  refine span_w _ _ _ ?_
  have d6 : decide (spanI a ≤ spanI b) = true := decide_eq_true mo
  (first | (simp (maxSteps := 1000000) (disch := first | omega | (simp only [AM.DB, List.length_set, List.length_map]; first | done | omega)) only [AM.RB, Nat.reduceAdd, Nat.reduceMul, Nat.reduceEqDiff, reduceCtorEq, b5_IY11, d6]) | skip)
end Go.Proofs.Ytodcnfabnlojdaa
