/- Walks of this claim's functions, and plain laws. -/
import Derived.Test.YtiigibhnjobcaaaWe
set_option linter.unusedSimpArgs false
set_option linter.unusedVariables false
namespace Go.Proofs.Ytiigibhnjobcaaa
open Go.AM
set_option maxRecDepth 8000
theorem b6_C19 : type_of% (And.intro (@AM.bdV_some) (And.intro (@bd_37) (And.intro (@AM.bin_add) (And.intro (@AM.bin_eql) (And.intro (@AM.bin_geq) (And.intro (@AM.bin_gtr) (And.intro (@AM.bin_lss) (And.intro (@AM.bin_neq) (And.intro (@AM.bin_sub) (And.intro (@AM.boxK_agg) (And.intro (@AM.boxK_bool) (And.intro (@AM.boxK_func) (And.intro (@AM.boxK_int) (And.intro (@AM.boxK_map) (And.intro (@AM.boxK_pointer) (And.intro (@AM.boxK_slice) (And.intro (@AM.boxK_string) (And.intro (AM.bsW_agg bs_22) (And.intro (AM.bsW_int bs_50) (And.intro (AM.bsW_nil bs_22) (And.intro (AM.bsW_nil bs_50) (And.intro (AM.bsW_slice bs_50) (And.intro (AM.bsW_string bs_50) (And.intro (@AM.ex_tuple) (And.intro (@AM.fa_ptr) (And.intro (@fd_42_0) (And.intro (@fd_42_1) (And.intro (@fd_42_2) (And.intro (@AM.fillL_cons) (And.intro (@AM.fillL_nil) (And.intro (@AM.fillS_agg) (And.intro (@AM.fillS_bool) (And.intro (@AM.fillS_func) (And.intro (@AM.fillS_int) (And.intro (@AM.fillS_map) (And.intro (@AM.fillS_pointer) (And.intro (@AM.fillS_slice) (And.intro (@AM.fillS_string) (And.intro (@AM.iaO_ok) (And.intro (AM.ia_slice el_34) (And.intro (AM.ia_slice el_50) (And.intro (@AM.ldO_agg) (And.intro (@AM.ldO_one) (And.intro (@AM.ld_ptr) (And.intro (AM.len_slice ul_34) (And.intro (AM.len_slice ul_50) (And.intro (@lk_3) (And.intro (@lk_38) (And.intro (@AM.op_append) (And.intro (@AM.op_binOp) (And.intro (@AM.op_box) (And.intro (@AM.op_build) (And.intro (@AM.op_buildSlice) (And.intro (@AM.op_call) (And.intro (@AM.op_extract) (And.intro (@AM.op_fieldAddr) (And.intro (@AM.op_indexAddr) (And.intro (@AM.op_len) (And.intro (@AM.op_load) (And.intro (@AM.op_lookup) (And.intro (@AM.op_makeMap0) (And.intro (@AM.op_mapUpdate) (And.intro (@AM.op_unOp) (And.intro (@AM.un_neg) (@AM.un_not))))))))))))))))))))))))))))))))))))))))))))))))))))))))))))))))) := And.intro (@AM.bdV_some) (And.intro (@bd_37) (And.intro (@AM.bin_add) (And.intro (@AM.bin_eql) (And.intro (@AM.bin_geq) (And.intro (@AM.bin_gtr) (And.intro (@AM.bin_lss) (And.intro (@AM.bin_neq) (And.intro (@AM.bin_sub) (And.intro (@AM.boxK_agg) (And.intro (@AM.boxK_bool) (And.intro (@AM.boxK_func) (And.intro (@AM.boxK_int) (And.intro (@AM.boxK_map) (And.intro (@AM.boxK_pointer) (And.intro (@AM.boxK_slice) (And.intro (@AM.boxK_string) (And.intro (AM.bsW_agg bs_22) (And.intro (AM.bsW_int bs_50) (And.intro (AM.bsW_nil bs_22) (And.intro (AM.bsW_nil bs_50) (And.intro (AM.bsW_slice bs_50) (And.intro (AM.bsW_string bs_50) (And.intro (@AM.ex_tuple) (And.intro (@AM.fa_ptr) (And.intro (@fd_42_0) (And.intro (@fd_42_1) (And.intro (@fd_42_2) (And.intro (@AM.fillL_cons) (And.intro (@AM.fillL_nil) (And.intro (@AM.fillS_agg) (And.intro (@AM.fillS_bool) (And.intro (@AM.fillS_func) (And.intro (@AM.fillS_int) (And.intro (@AM.fillS_map) (And.intro (@AM.fillS_pointer) (And.intro (@AM.fillS_slice) (And.intro (@AM.fillS_string) (And.intro (@AM.iaO_ok) (And.intro (AM.ia_slice el_34) (And.intro (AM.ia_slice el_50) (And.intro (@AM.ldO_agg) (And.intro (@AM.ldO_one) (And.intro (@AM.ld_ptr) (And.intro (AM.len_slice ul_34) (And.intro (AM.len_slice ul_50) (And.intro (@lk_3) (And.intro (@lk_38) (And.intro (@AM.op_append) (And.intro (@AM.op_binOp) (And.intro (@AM.op_box) (And.intro (@AM.op_build) (And.intro (@AM.op_buildSlice) (And.intro (@AM.op_call) (And.intro (@AM.op_extract) (And.intro (@AM.op_fieldAddr) (And.intro (@AM.op_indexAddr) (And.intro (@AM.op_len) (And.intro (@AM.op_load) (And.intro (@AM.op_lookup) (And.intro (@AM.op_makeMap0) (And.intro (@AM.op_mapUpdate) (And.intro (@AM.op_unOp) (And.intro (@AM.un_neg) (@AM.un_not))))))))))))))))))))))))))))))))))))))))))))))))))))))))))))))))


/-! ### Plain: records that are loaded again -/
theorem getC_lt {L : List Cm} (hB : Bnd L) {x g : Int} (h : getC L x = some g) : genB (recB (some g)) = g := by
  have := hB x g h
  unfold recB genB byteG
  simp only [List.foldl_cons, List.foldl_nil]
  have w : ∀ y : Int, IntKind.u8.wrap y = y % 256 := fun y => rfl
  have f : ∀ d : Int, 0 < d → g.fdiv d = g / d := fun d hd => Int.fdiv_eq_ediv_of_nonneg _ (by omega)
  rw [show (2 : Int) ^ (8 * (3 - 0)) = 16777216 from by decide, show (2 : Int) ^ (8 * (3 - 1)) = 65536 from by decide, show (2 : Int) ^ (8 * (3 - 2)) = 256 from by decide, show (2 : Int) ^ (8 * (3 - 3)) = 1 from by decide,
    f _ (by omega), f _ (by omega), f _ (by omega), f _ (by omega), w, w, w, w]
  omega
def RecsOf (L : List Cm) (xs : List Int) (l : List Rec) : Prop := l.length = xs.length ∧ ∀ k, k < xs.length → (l.getD k dR).1 = 2 ∧ (l.getD k dR).2.1 = xs.getD k 0 ∧ (l.getD k dR).2.2.2 = recB (getC L (xs.getD k 0))
theorem nodup_getD {xs : List Int} (hn : xs.Nodup) {i j : Nat} (hi : i < xs.length) (hj : j < xs.length) (h : xs.getD i 0 = xs.getD j 0) : i = j := by
  have h' : xs[i] = xs[j] := by simpa [List.getD, hi, hj] using h
  rcases Nat.lt_trichotomy i j with q | q | q
  · exact absurd h' (List.pairwise_iff_getElem.1 hn i j hi hj q)
  · exact q
  · exact absurd h'.symm (List.pairwise_iff_getElem.1 hn j i hj hi q)
theorem recB_len (o : Option Int) : (recB o).length = 0 ∨ (recB o).length = 4 := by cases o <;> simp [recB]
theorem cnt_recs {L : List Cm} {xs : List Int} {l : List Rec} (hl : RecsOf L xs l) (hn : xs.Nodup) : ∀ i j, i ≤ j → j < xs.length → cnt l i (xs.getD j 0) = 0
  | 0, _, _, _ => rfl
  | i + 1, j, hij, hj => by
    rw [cnt_succ, cnt_recs hl hn i j (by omega) hj, if_neg]
    rintro ⟨_, h2⟩
    rw [(hl.2 i (by omega)).2.1] at h2
    have := nodup_getD hn (by omega) hj h2
    omega
theorem okTo_recs {L : List Cm} {xs : List Int} {l : List Rec} (hl : RecsOf L xs l) (hn : xs.Nodup) (hr : ∀ x ∈ xs, 0 ≤ x ∧ x < 1024) : okTo l xs.length := by
  intro k hk hb
  obtain ⟨h1, h2, h3⟩ := hl.2 k hk
  obtain ⟨_, hb⟩ := hb
  rw [h2, h3, cnt_recs hl hn k k (Nat.le_refl _) hk] at hb
  have := hr (xs.getD k 0) (by simp [List.getD, hk])
  have := recB_len (getC L (xs.getD k 0))
  omega
theorem clm_recs {L : List Cm} (hB : Bnd L) {xs : List Int} {l : List Rec} (hl : RecsOf L xs l) (hn : xs.Nodup) (hr : ∀ x ∈ xs, 0 ≤ x ∧ x < 1024) : ∀ i, i ≤ xs.length → ∀ x, getC (clm l i) x = if x ∈ xs.take i then getC L x else none
  | 0, _, x => by simp [clm, getC]
  | i + 1, hi, x => by
    have ih := clm_recs hB hl hn hr i (by omega)
    have ho : okTo l i := fun k hk => okTo_recs hl hn hr k (by omega)
    obtain ⟨h1, h2, h3⟩ := hl.2 i (by omega)
    have hxi : xs[i]? = some (xs.getD i 0) := by simp [List.getD, show i < xs.length by omega]
    have htk : ∀ y, y ∈ xs.take (i + 1) ↔ y ∈ xs.take i ∨ y = xs.getD i 0 := fun y => by
      rw [List.take_add_one, hxi]; simp
    have hni : xs.getD i 0 ∉ xs.take i := fun q => by
      obtain ⟨j, hj, e⟩ := List.getElem_of_mem q
      simp at hj
      have : xs.getD j 0 = xs.getD i 0 := by rw [← e]; simp [List.getD, show j < xs.length by omega]
      have := nodup_getD hn (by omega) (by omega) this
      omega
    have hno : getC (clm l i) (xs.getD i 0) = none := by rw [ih, if_neg hni]
    rw [clm]
    cases hg : getC L (xs.getD i 0) with
    | none =>
      rw [if_neg (fun q => by rw [h3, hg] at q; simp [recB] at q), ih]
      by_cases hx : x = xs.getD i 0
      · subst hx; rw [if_neg hni, hg]; simp
      · have : (x ∈ xs.take (i + 1)) = (x ∈ xs.take i) := propext ⟨fun q => ((htk x).1 q).resolve_right hx, fun q => (htk x).2 (.inl q)⟩
        simp only [this]
    | some g =>
      rw [if_pos ⟨h1, by rw [h3, hg]; rfl⟩, h2, h3, hg, getC_lt hB hg, insC_get (clm_facts l i ho).1 _ _ _ hno, ih]
      by_cases hx : x = xs.getD i 0
      · subst hx; rw [if_pos rfl, if_pos ((htk _).2 (.inr rfl)), hg]
      · have : (x ∈ xs.take (i + 1)) = (x ∈ xs.take i) := propext ⟨fun q => ((htk x).1 q).resolve_right hx, fun q => (htk x).2 (.inl q)⟩
        rw [if_neg hx]; simp only [this]
theorem clm_back {L : List Cm} (hG : Good L) (hB : Bnd L) {xs : List Int} {l : List Rec} (hl : RecsOf L xs l) (hn : xs.Nodup) (hr : ∀ x ∈ xs, 0 ≤ x ∧ x < 1024) (hall : ∀ x, (getC L x).isSome = true → x ∈ xs) : clm l xs.length = L := by
  refine srt_ext (clm_facts l _ (okTo_recs hl hn hr)).1 hG.1 fun x => ?_
  rw [clm_recs hB hl hn hr _ (Nat.le_refl _), List.take_length]
  by_cases hx : x ∈ xs
  · rw [if_pos hx]
  · rw [if_neg hx]
    cases hg : getC L x with
    | none => rfl
    | some g => exact absurd (hall x (by rw [hg]; rfl)) hx
theorem recsOf_snoc {L : List Cm} {ys zs : List Int} {l : List Rec} {j : Nat} (hl : RecsOf L (ys.take j) l) (hj : j < ys.length) (v : Value) (h : zs = ys) : RecsOf L (ys.take (j + 1)) (l ++ [(2, ys.getD j 0, v, recB (getC L (ys.getD j 0)))]) := by
  obtain ⟨h1, h2⟩ := hl
  simp only [List.length_take] at h1 h2
  have hlj : l.length = j := by omega
  refine ⟨by simp; omega, fun k hk => ?_⟩
  simp only [List.length_take] at hk
  have e : (ys.take (j + 1)).getD k 0 = ys.getD k 0 := by simp [List.getD, List.getElem?_take, show k < j + 1 by omega]
  rw [e]
  by_cases hkj : k = j
  · subst hkj
    have : (l ++ [(2, ys.getD k 0, v, recB (getC L (ys.getD k 0)))]).getD k dR = (2, ys.getD k 0, v, recB (getC L (ys.getD k 0))) := by simp [List.getD, List.getElem?_append, hlj]
    rw [this]; exact ⟨rfl, rfl, rfl⟩
  · have : (l ++ [(2, ys.getD j 0, v, recB (getC L (ys.getD j 0)))]).getD k dR = l.getD k dR := by simp [List.getD, List.getElem?_append, show k < l.length by omega]
    rw [this]
    have := h2 k (by omega)
    have e : (ys.take j).getD k 0 = ys.getD k 0 := by simp [List.getD, List.getElem?_take, show k < j by omega]
    rwa [e] at this


/-! ### The law -/
theorem RecOk.fr' {h h' : AHeap} {r : Rec} {S : Nat → Prop} (q : RecOk h r) (fr : Fr S h h') (hS : ∀ id, idOf r.2.2.1 id → ¬ S id) : RecOk h' r := ⟨q.1, q.2.1.fr fr hS, q.2.2⟩
theorem recB_byte (o : Option Int) : ∀ b ∈ recB o, 0 ≤ b ∧ b < 256 := by
  intro b hb
  cases o with
  | none => simp [recB] at hb
  | some g =>
    have w : ∀ y : Int, 0 ≤ IntKind.u8.wrap y ∧ IntKind.u8.wrap y < 256 := fun y => by
      show 0 ≤ y % 256 ∧ y % 256 < 256
      omega
    simp only [recB, List.mem_cons, List.not_mem_nil, or_false] at hb
    rcases hb with rfl | rfl | rfl | rfl <;> exact w _

set_option maxHeartbeats 8000000 in
theorem backLaw_w {s : Value} {n : Nat} {l : List Opp} {h : AHeap} (hs : Rd h 42 4 s n (l.flatMap encO)) (hln : l.length = n) (hlb : ∀ o ∈ l, 0 ≤ o.2.2.1 ∧ o.2.2.1 < 4294967296) (hl : h.low ≤ h.next) :
    W 6 [s] h fun v _ => v = .bool true := by
  obtain ⟨a, cap, rfl⟩ := hs.form
  refine AM.enter hp (fn := Try.f6) (rs := [.tmp 2]) (nt := 155) (by kernel_rfl) Try.func6 rfl rfl rfl (by kernel_rfl) ?_
  (first | (simp (disch := first | omega | (simp only [AM.DB, List.length_set, List.length_map]; done) | (simp only [AM.DB, List.length_set, List.length_map]; omega)) only [AM.RB, Nat.reduceAdd, Nat.reduceMul, Nat.reduceEqDiff, reduceCtorEq, b6_C19]) | skip); (repeat' (first | (refine AM.drawW_fine hp (by kernel_rfl) (by kernel_rfl) ?_; simp (disch := first | omega | (simp only [AM.DB, List.length_set, List.length_map]; done) | (simp only [AM.DB, List.length_set, List.length_map]; omega)) only [AM.RB, Nat.reduceAdd, Nat.reduceMul, Nat.reduceEqDiff, reduceCtorEq, b6_C19]) | (refine AM.opW_tied (by kernel_rfl) ?_; simp (disch := first | omega | (simp only [AM.DB, List.length_set, List.length_map]; done) | (simp only [AM.DB, List.length_set, List.length_map]; omega)) only [AM.RB, Nat.reduceAdd, Nat.reduceMul, Nat.reduceEqDiff, reduceCtorEq, b6_C19]) | (refine AM.opW_untied (by kernel_rfl) ?_; simp (disch := first | omega | (simp only [AM.DB, List.length_set, List.length_map]; done) | (simp only [AM.DB, List.length_set, List.length_map]; omega)) only [AM.RB, Nat.reduceAdd, Nat.reduceMul, Nat.reduceEqDiff, reduceCtorEq, b6_C19]) | (refine AM.build_w ?_; simp (disch := first | omega | (simp only [AM.DB, List.length_set, List.length_map]; done) | (simp only [AM.DB, List.length_set, List.length_map]; omega)) only [AM.RB, Nat.reduceAdd, Nat.reduceMul, Nat.reduceEqDiff, reduceCtorEq, b6_C19])))
  refine alive_w hl fun h1 fr1 => ?_
  have hl1 := hl.fr0 fr1
  have lo1 := fr1.low
  (first | (simp (disch := first | omega | (simp only [AM.DB, List.length_set, List.length_map]; done) | (simp only [AM.DB, List.length_set, List.length_map]; omega)) only [AM.RB, Nat.reduceAdd, Nat.reduceMul, Nat.reduceEqDiff, reduceCtorEq, b6_C19]) | skip); (repeat' (first | (refine AM.guard_spl ?_ ?_ <;> (intro hd hp_; simp (disch := first | omega | (simp only [AM.DB, List.length_set, List.length_map]; done) | (simp only [AM.DB, List.length_set, List.length_map]; omega)) only [AM.RB, Nat.reduceAdd, Nat.reduceMul, Nat.reduceEqDiff, reduceCtorEq, b6_C19, hd])) | (refine AM.cond_spl ?_ ?_ <;> (intro hd hp_; simp (disch := first | omega | (simp only [AM.DB, List.length_set, List.length_map]; done) | (simp only [AM.DB, List.length_set, List.length_map]; omega)) only [AM.RB, Nat.reduceAdd, Nat.reduceMul, Nat.reduceEqDiff, reduceCtorEq, b6_C19, hd])) | (refine AM.guard_b ?_ ?_ <;> (intro hd hp_; simp (disch := first | omega | (simp only [AM.DB, List.length_set, List.length_map]; done) | (simp only [AM.DB, List.length_set, List.length_map]; omega)) only [AM.RB, Nat.reduceAdd, Nat.reduceMul, Nat.reduceEqDiff, reduceCtorEq, b6_C19, hd])) | (refine AM.cond_b ?_ ?_ <;> (intro hd hp_; simp (disch := first | omega | (simp only [AM.DB, List.length_set, List.length_map]; done) | (simp only [AM.DB, List.length_set, List.length_map]; omega)) only [AM.RB, Nat.reduceAdd, Nat.reduceMul, Nat.reduceEqDiff, reduceCtorEq, b6_C19, hd])) | (refine AM.drawW_fine hp (by kernel_rfl) (by kernel_rfl) ?_; simp (disch := first | omega | (simp only [AM.DB, List.length_set, List.length_map]; done) | (simp only [AM.DB, List.length_set, List.length_map]; omega)) only [AM.RB, Nat.reduceAdd, Nat.reduceMul, Nat.reduceEqDiff, reduceCtorEq, b6_C19]) | (refine AM.opW_tied (by kernel_rfl) ?_; simp (disch := first | omega | (simp only [AM.DB, List.length_set, List.length_map]; done) | (simp only [AM.DB, List.length_set, List.length_map]; omega)) only [AM.RB, Nat.reduceAdd, Nat.reduceMul, Nat.reduceEqDiff, reduceCtorEq, b6_C19]) | (refine AM.opW_untied (by kernel_rfl) ?_; simp (disch := first | omega | (simp only [AM.DB, List.length_set, List.length_map]; done) | (simp only [AM.DB, List.length_set, List.length_map]; omega)) only [AM.RB, Nat.reduceAdd, Nat.reduceMul, Nat.reduceEqDiff, reduceCtorEq, b6_C19]) | (refine AM.build_w ?_; simp (disch := first | omega | (simp only [AM.DB, List.length_set, List.length_map]; done) | (simp only [AM.DB, List.length_set, List.length_map]; omega)) only [AM.RB, Nat.reduceAdd, Nat.reduceMul, Nat.reduceEqDiff, reduceCtorEq, b6_C19])))
  refine AM.loop_w hp 155 (fun q : Nat × Value => [(0, .slice a n cap), (3, .bool true), (4, pv h1.next), (5, .map (some (h1.next + 1))), (6, q.2), (28, .int .i64 n), (29, .int .i64 q.1)])
    (fun q h' => q.1 ≤ n ∧ Fr none' h1 h' ∧ ∃ (v : Value) (L : List Cm) (M : List (Int × Value)) (xs : List Int) (c : Int → Nat), Cl h' h1.next v L ∧ Good L ∧ Bnd L ∧ h'.get (h1.next + 1) = some (.map (encM M)) ∧ (∀ x, (mgetL M x).getD (.int .i64 0) = .int .i64 (c x : Nat)) ∧ (∀ x, c x ≤ q.1 ∧ (1 ≤ c x ↔ x ∈ xs)) ∧ Ow h' 3 1 q.2 xs.length (xs.map (.int .i64)) ∧ xs.Nodup ∧ (∀ x ∈ xs, 0 ≤ x ∧ x < 1024) ∧ xs.length ≤ q.1 ∧ (∀ x, (getC L x).isSome = true → x ∈ xs) ∧ (∀ id, idOf v id → h1.next + 1 < id ∧ ¬ idOf q.2 id) ∧ ∀ id, idOf q.2 id → h1.next + 1 < id) (fun q => n - q.1) (by kernel_rfl) (0, .slice none 0 0) ?_ ?_ ?_
  · simp (disch := first | omega | (simp only [AM.DB, List.length_set, List.length_map]; done) | (simp only [AM.DB, List.length_set, List.length_map]; omega)) only [AM.RB, Nat.reduceAdd, Nat.reduceMul, Nat.reduceEqDiff, reduceCtorEq, b6_C19]
  · refine ⟨Nat.zero_le _, ((Fr.refl _ _).alloc _).alloc _, .slice none 0 0, [], [], [], fun _ => 0, ⟨?_, Ow.nil _ _ _, trivial, hl1, fun q => q⟩, good_nil, bnd_nil, ?_, fun x => rfl, fun x => ⟨Nat.zero_le _, by simp⟩, Ow.nil _ _ _, List.nodup_nil, fun x q => (by cases q), Nat.zero_le _, fun x q => (by cases q), fun _ q => q.elim, fun _ q => q.elim⟩
    · simp (disch := first | omega | (simp only [AM.DB, List.length_set, List.length_map]; done) | (simp only [AM.DB, List.length_set, List.length_map]; omega)) only [AM.RB, Nat.reduceAdd, Nat.reduceMul, Nat.reduceEqDiff, reduceCtorEq, b6_C19]
    · simp (disch := first | omega | (simp only [AM.DB, List.length_set, List.length_map]; done) | (simp only [AM.DB, List.length_set, List.length_map]; omega)) only [AM.RB, Nat.reduceAdd, Nat.reduceMul, Nat.reduceEqDiff, reduceCtorEq, b6_C19]
      rfl
  rintro ⟨i, s⟩ h2 ρ ⟨hi, fr2, v, L, M, xs, c, hc, hG, hB, hM, hcM, hcx, ho, hnd, hxr, hxl, hxall, hv, hs'⟩
  simp only at hi hcx ho hxl hv hs' ⊢
  have hl2 := hl1.fr0 fr2
  have lo2 := fr2.low
  have nx2 := fr2.next
  have hsL := (hs.fr0 fr1).fr0 fr2
  have hn16 := hG.2.1
  have ltp := AM.get_some_lt hc.1
  have ltm := AM.get_some_lt hM
  obtain ⟨sa, sc, rfl⟩ := ho.form
  simp (disch := first | omega | (simp only [AM.DB, List.length_set, List.length_map]; done) | (simp only [AM.DB, List.length_set, List.length_map]; omega)) only [AM.RB, Nat.reduceAdd, Nat.reduceMul, Nat.reduceEqDiff, reduceCtorEq, b6_C19]
  refine AM.condV_split (fun hlt => ?_) (fun hlt => ?_)
  · obtain ⟨⟨kind, x, g, rb⟩, hr'⟩ : ∃ r, l.getD i dO = r := ⟨_, rfl⟩
    have hgb : 0 ≤ g ∧ g < 4294967296 := by
      have := hlb (l.getD i dO) (by simp [List.getD, show i < l.length by omega])
      rw [hr'] at this; exact this
    by_cases hx : 0 ≤ x ∧ x < 1024
    case' neg =>
      (first | (simp (disch := first | omega | (simp only [AM.DB, List.length_set, List.length_map]; done) | (simp only [AM.DB, List.length_set, List.length_map]; omega)) only [AM.RB, Nat.reduceAdd, Nat.reduceMul, Nat.reduceEqDiff, reduceCtorEq, b6_C19, hsL.ia el_34, hsL.fa fd_42_1, hsL.ldsF encO_len lk_3 hln dO, Int.toNat_natCast, hr', encO, AM.wrap_i64]) | skip); (repeat' (first | (refine AM.guard_spl ?_ ?_ <;> (intro hd hp_; simp (disch := first | omega | (simp only [AM.DB, List.length_set, List.length_map]; done) | (simp only [AM.DB, List.length_set, List.length_map]; omega)) only [AM.RB, Nat.reduceAdd, Nat.reduceMul, Nat.reduceEqDiff, reduceCtorEq, b6_C19, hd, hsL.ia el_34, hsL.fa fd_42_1, hsL.ldsF encO_len lk_3 hln dO, Int.toNat_natCast, hr', encO, AM.wrap_i64])) | (refine AM.cond_spl ?_ ?_ <;> (intro hd hp_; simp (disch := first | omega | (simp only [AM.DB, List.length_set, List.length_map]; done) | (simp only [AM.DB, List.length_set, List.length_map]; omega)) only [AM.RB, Nat.reduceAdd, Nat.reduceMul, Nat.reduceEqDiff, reduceCtorEq, b6_C19, hd, hsL.ia el_34, hsL.fa fd_42_1, hsL.ldsF encO_len lk_3 hln dO, Int.toNat_natCast, hr', encO, AM.wrap_i64])) | (refine AM.guard_b ?_ ?_ <;> (intro hd hp_; simp (disch := first | omega | (simp only [AM.DB, List.length_set, List.length_map]; done) | (simp only [AM.DB, List.length_set, List.length_map]; omega)) only [AM.RB, Nat.reduceAdd, Nat.reduceMul, Nat.reduceEqDiff, reduceCtorEq, b6_C19, hd, hsL.ia el_34, hsL.fa fd_42_1, hsL.ldsF encO_len lk_3 hln dO, Int.toNat_natCast, hr', encO, AM.wrap_i64])) | (refine AM.cond_b ?_ ?_ <;> (intro hd hp_; simp (disch := first | omega | (simp only [AM.DB, List.length_set, List.length_map]; done) | (simp only [AM.DB, List.length_set, List.length_map]; omega)) only [AM.RB, Nat.reduceAdd, Nat.reduceMul, Nat.reduceEqDiff, reduceCtorEq, b6_C19, hd, hsL.ia el_34, hsL.fa fd_42_1, hsL.ldsF encO_len lk_3 hln dO, Int.toNat_natCast, hr', encO, AM.wrap_i64])) | (refine AM.drawW_fine hp (by kernel_rfl) (by kernel_rfl) ?_; simp (disch := first | omega | (simp only [AM.DB, List.length_set, List.length_map]; done) | (simp only [AM.DB, List.length_set, List.length_map]; omega)) only [AM.RB, Nat.reduceAdd, Nat.reduceMul, Nat.reduceEqDiff, reduceCtorEq, b6_C19, hsL.ia el_34, hsL.fa fd_42_1, hsL.ldsF encO_len lk_3 hln dO, Int.toNat_natCast, hr', encO, AM.wrap_i64]) | (refine AM.opW_tied (by kernel_rfl) ?_; simp (disch := first | omega | (simp only [AM.DB, List.length_set, List.length_map]; done) | (simp only [AM.DB, List.length_set, List.length_map]; omega)) only [AM.RB, Nat.reduceAdd, Nat.reduceMul, Nat.reduceEqDiff, reduceCtorEq, b6_C19, hsL.ia el_34, hsL.fa fd_42_1, hsL.ldsF encO_len lk_3 hln dO, Int.toNat_natCast, hr', encO, AM.wrap_i64]) | (refine AM.opW_untied (by kernel_rfl) ?_; simp (disch := first | omega | (simp only [AM.DB, List.length_set, List.length_map]; done) | (simp only [AM.DB, List.length_set, List.length_map]; omega)) only [AM.RB, Nat.reduceAdd, Nat.reduceMul, Nat.reduceEqDiff, reduceCtorEq, b6_C19, hsL.ia el_34, hsL.fa fd_42_1, hsL.ldsF encO_len lk_3 hln dO, Int.toNat_natCast, hr', encO, AM.wrap_i64]) | (refine AM.build_w ?_; simp (disch := first | omega | (simp only [AM.DB, List.length_set, List.length_map]; done) | (simp only [AM.DB, List.length_set, List.length_map]; omega)) only [AM.RB, Nat.reduceAdd, Nat.reduceMul, Nat.reduceEqDiff, reduceCtorEq, b6_C19, hsL.ia el_34, hsL.fa fd_42_1, hsL.ldsF encO_len lk_3 hln dO, Int.toNat_natCast, hr', encO, AM.wrap_i64])))
      all_goals try (exfalso; omega)
      all_goals exact ⟨(i + 1, _), by simp only; omega, ⟨rfl, congrArg _ (by simp only; omega)⟩, by simp only; omega, fr2, v, L, M, xs, c, hc, hG, hB, hM, hcM, fun y => ⟨by have := (hcx y).1; simp only; omega, (hcx y).2⟩, ho, hnd, hxr, by simp only; omega, hxall, hv, hs'⟩
    have hcxx := hcx x
    (first | (simp (disch := first | omega | (simp only [AM.DB, List.length_set, List.length_map]; done) | (simp only [AM.DB, List.length_set, List.length_map]; omega)) only [AM.RB, Nat.reduceAdd, Nat.reduceMul, Nat.reduceEqDiff, reduceCtorEq, b6_C19, hsL.ia el_34, hsL.fa fd_42_1, hsL.ldsF encO_len lk_3 hln dO, Int.toNat_natCast, hr', encO, AM.wrap_i64, AM.lookup_enc mp_49 hM, hcM, AM.update_enc mp_49 hM (by omega)]) | skip); (repeat' (first | (refine AM.guard_spl ?_ ?_ <;> (intro hd hp_; simp (disch := first | omega | (simp only [AM.DB, List.length_set, List.length_map]; done) | (simp only [AM.DB, List.length_set, List.length_map]; omega)) only [AM.RB, Nat.reduceAdd, Nat.reduceMul, Nat.reduceEqDiff, reduceCtorEq, b6_C19, hd, hsL.ia el_34, hsL.fa fd_42_1, hsL.ldsF encO_len lk_3 hln dO, Int.toNat_natCast, hr', encO, AM.wrap_i64, AM.lookup_enc mp_49 hM, hcM, AM.update_enc mp_49 hM (by omega)])) | (refine AM.cond_spl ?_ ?_ <;> (intro hd hp_; simp (disch := first | omega | (simp only [AM.DB, List.length_set, List.length_map]; done) | (simp only [AM.DB, List.length_set, List.length_map]; omega)) only [AM.RB, Nat.reduceAdd, Nat.reduceMul, Nat.reduceEqDiff, reduceCtorEq, b6_C19, hd, hsL.ia el_34, hsL.fa fd_42_1, hsL.ldsF encO_len lk_3 hln dO, Int.toNat_natCast, hr', encO, AM.wrap_i64, AM.lookup_enc mp_49 hM, hcM, AM.update_enc mp_49 hM (by omega)])) | (refine AM.guard_b ?_ ?_ <;> (intro hd hp_; simp (disch := first | omega | (simp only [AM.DB, List.length_set, List.length_map]; done) | (simp only [AM.DB, List.length_set, List.length_map]; omega)) only [AM.RB, Nat.reduceAdd, Nat.reduceMul, Nat.reduceEqDiff, reduceCtorEq, b6_C19, hd, hsL.ia el_34, hsL.fa fd_42_1, hsL.ldsF encO_len lk_3 hln dO, Int.toNat_natCast, hr', encO, AM.wrap_i64, AM.lookup_enc mp_49 hM, hcM, AM.update_enc mp_49 hM (by omega)])) | (refine AM.cond_b ?_ ?_ <;> (intro hd hp_; simp (disch := first | omega | (simp only [AM.DB, List.length_set, List.length_map]; done) | (simp only [AM.DB, List.length_set, List.length_map]; omega)) only [AM.RB, Nat.reduceAdd, Nat.reduceMul, Nat.reduceEqDiff, reduceCtorEq, b6_C19, hd, hsL.ia el_34, hsL.fa fd_42_1, hsL.ldsF encO_len lk_3 hln dO, Int.toNat_natCast, hr', encO, AM.wrap_i64, AM.lookup_enc mp_49 hM, hcM, AM.update_enc mp_49 hM (by omega)])) | (refine AM.drawW_fine hp (by kernel_rfl) (by kernel_rfl) ?_; simp (disch := first | omega | (simp only [AM.DB, List.length_set, List.length_map]; done) | (simp only [AM.DB, List.length_set, List.length_map]; omega)) only [AM.RB, Nat.reduceAdd, Nat.reduceMul, Nat.reduceEqDiff, reduceCtorEq, b6_C19, hsL.ia el_34, hsL.fa fd_42_1, hsL.ldsF encO_len lk_3 hln dO, Int.toNat_natCast, hr', encO, AM.wrap_i64, AM.lookup_enc mp_49 hM, hcM, AM.update_enc mp_49 hM (by omega)]) | (refine AM.opW_tied (by kernel_rfl) ?_; simp (disch := first | omega | (simp only [AM.DB, List.length_set, List.length_map]; done) | (simp only [AM.DB, List.length_set, List.length_map]; omega)) only [AM.RB, Nat.reduceAdd, Nat.reduceMul, Nat.reduceEqDiff, reduceCtorEq, b6_C19, hsL.ia el_34, hsL.fa fd_42_1, hsL.ldsF encO_len lk_3 hln dO, Int.toNat_natCast, hr', encO, AM.wrap_i64, AM.lookup_enc mp_49 hM, hcM, AM.update_enc mp_49 hM (by omega)]) | (refine AM.opW_untied (by kernel_rfl) ?_; simp (disch := first | omega | (simp only [AM.DB, List.length_set, List.length_map]; done) | (simp only [AM.DB, List.length_set, List.length_map]; omega)) only [AM.RB, Nat.reduceAdd, Nat.reduceMul, Nat.reduceEqDiff, reduceCtorEq, b6_C19, hsL.ia el_34, hsL.fa fd_42_1, hsL.ldsF encO_len lk_3 hln dO, Int.toNat_natCast, hr', encO, AM.wrap_i64, AM.lookup_enc mp_49 hM, hcM, AM.update_enc mp_49 hM (by omega)]) | (refine AM.build_w ?_; simp (disch := first | omega | (simp only [AM.DB, List.length_set, List.length_map]; done) | (simp only [AM.DB, List.length_set, List.length_map]; omega)) only [AM.RB, Nat.reduceAdd, Nat.reduceMul, Nat.reduceEqDiff, reduceCtorEq, b6_C19, hsL.ia el_34, hsL.fa fd_42_1, hsL.ldsF encO_len lk_3 hln dO, Int.toNat_natCast, hr', encO, AM.wrap_i64, AM.lookup_enc mp_49 hM, hcM, AM.update_enc mp_49 hM (by omega)])))
    all_goals try (exfalso; omega)
    generalize hE_ : AHeap.put h2 _ _ = h3; obtain ⟨g3, fr3, n3, l3⟩ := AM.put_get hE_ (by omega); clear hE_
    have haL : ∀ id, idOf (.slice a n cap) id → id < h1.next := fun id q => (hs.fr0 fr1).lt q
    have hs3 := hsL.fr fr3 (fun id q e => by have := haL id q; omega)
    have hc3 := hc.fr fr3 (by omega) (fun id q e => by have := (hv id q).1; omega)
    have ho3 := ho.fr fr3 (fun id q e => by have := hs' id q; omega)
    have hl3 := fr3.hl hl2
    have fr13 := fr2.fresh fr3 fun id q => by omega
    have hcM3 : ∀ y, (mgetL (msetL M x (.int .i64 ((c x : Int) + 1))) y).getD (.int .i64 0) = .int .i64 ((if y = x then c x + 1 else c y : Nat)) := by
      intro y
      rw [AM.mget_set]
      by_cases e : y = x
      · subst e; rw [if_pos rfl, if_pos rfl]; simp
      · rw [if_neg e, if_neg e]; exact hcM y
    generalize msetL M x (.int .i64 ((c x : Int) + 1)) = M3 at g3 hcM3
    have ecx : (if x = x then c x + 1 else c x) = c x + 1 := if_pos rfl
    have lt3 := AM.get_some_lt g3
    have hnew : c x = 0 ↔ x ∉ xs := by
      constructor
      · intro e q; have := hcxx.2.2 q; omega
      · intro q; by_cases e : c x = 0
        · exact e
        · exact absurd (hcxx.2.1 (by omega)) q
    by_cases hmem : x ∈ xs
    case' pos =>
      have hc1 : ¬ ((c x : Int) + 1 = 1) := fun q => (hnew.1 (by omega)) hmem
      obtain ⟨xs5, hxs5⟩ : ∃ xs5, xs5 = xs := ⟨_, rfl⟩
      have hcx5 : ∀ y, (if y = x then c x + 1 else c y) ≤ i + 1 ∧ (1 ≤ (if y = x then c x + 1 else c y) ↔ y ∈ xs5) := fun y => by
        rw [hxs5]
        have := hcx y
        by_cases e : y = x
        · subst e; rw [if_pos rfl]; exact ⟨by omega, fun _ => hmem, fun _ => by omega⟩
        · rw [if_neg e]; exact ⟨by omega, this.2⟩
      (first | (simp (disch := first | omega | (simp only [AM.DB, List.length_set, List.length_map]; done) | (simp only [AM.DB, List.length_set, List.length_map]; omega)) only [AM.RB, Nat.reduceAdd, Nat.reduceMul, Nat.reduceEqDiff, reduceCtorEq, b6_C19, hs3.ia el_34, hs3.fa fd_42_0, hs3.fa fd_42_1, hs3.fa fd_42_2, hs3.ldsF encO_len lk_3 hln dO, hs3.ldsF encO_len lk_38 hln dO, Int.toNat_natCast, hr', encO, AM.wrap_i64, AM.lookup_enc mp_49 g3, hcM3, ecx, decide_eq_false hc1]) | skip); (repeat' (first | (refine AM.guard_spl ?_ ?_ <;> (intro hd hp_; simp (disch := first | omega | (simp only [AM.DB, List.length_set, List.length_map]; done) | (simp only [AM.DB, List.length_set, List.length_map]; omega)) only [AM.RB, Nat.reduceAdd, Nat.reduceMul, Nat.reduceEqDiff, reduceCtorEq, b6_C19, hd, hs3.ia el_34, hs3.fa fd_42_0, hs3.fa fd_42_1, hs3.fa fd_42_2, hs3.ldsF encO_len lk_3 hln dO, hs3.ldsF encO_len lk_38 hln dO, Int.toNat_natCast, hr', encO, AM.wrap_i64, AM.lookup_enc mp_49 g3, hcM3, ecx, decide_eq_false hc1])) | (refine AM.cond_spl ?_ ?_ <;> (intro hd hp_; simp (disch := first | omega | (simp only [AM.DB, List.length_set, List.length_map]; done) | (simp only [AM.DB, List.length_set, List.length_map]; omega)) only [AM.RB, Nat.reduceAdd, Nat.reduceMul, Nat.reduceEqDiff, reduceCtorEq, b6_C19, hd, hs3.ia el_34, hs3.fa fd_42_0, hs3.fa fd_42_1, hs3.fa fd_42_2, hs3.ldsF encO_len lk_3 hln dO, hs3.ldsF encO_len lk_38 hln dO, Int.toNat_natCast, hr', encO, AM.wrap_i64, AM.lookup_enc mp_49 g3, hcM3, ecx, decide_eq_false hc1])) | (refine AM.guard_b ?_ ?_ <;> (intro hd hp_; simp (disch := first | omega | (simp only [AM.DB, List.length_set, List.length_map]; done) | (simp only [AM.DB, List.length_set, List.length_map]; omega)) only [AM.RB, Nat.reduceAdd, Nat.reduceMul, Nat.reduceEqDiff, reduceCtorEq, b6_C19, hd, hs3.ia el_34, hs3.fa fd_42_0, hs3.fa fd_42_1, hs3.fa fd_42_2, hs3.ldsF encO_len lk_3 hln dO, hs3.ldsF encO_len lk_38 hln dO, Int.toNat_natCast, hr', encO, AM.wrap_i64, AM.lookup_enc mp_49 g3, hcM3, ecx, decide_eq_false hc1])) | (refine AM.cond_b ?_ ?_ <;> (intro hd hp_; simp (disch := first | omega | (simp only [AM.DB, List.length_set, List.length_map]; done) | (simp only [AM.DB, List.length_set, List.length_map]; omega)) only [AM.RB, Nat.reduceAdd, Nat.reduceMul, Nat.reduceEqDiff, reduceCtorEq, b6_C19, hd, hs3.ia el_34, hs3.fa fd_42_0, hs3.fa fd_42_1, hs3.fa fd_42_2, hs3.ldsF encO_len lk_3 hln dO, hs3.ldsF encO_len lk_38 hln dO, Int.toNat_natCast, hr', encO, AM.wrap_i64, AM.lookup_enc mp_49 g3, hcM3, ecx, decide_eq_false hc1])) | (refine AM.drawW_fine hp (by kernel_rfl) (by kernel_rfl) ?_; simp (disch := first | omega | (simp only [AM.DB, List.length_set, List.length_map]; done) | (simp only [AM.DB, List.length_set, List.length_map]; omega)) only [AM.RB, Nat.reduceAdd, Nat.reduceMul, Nat.reduceEqDiff, reduceCtorEq, b6_C19, hs3.ia el_34, hs3.fa fd_42_0, hs3.fa fd_42_1, hs3.fa fd_42_2, hs3.ldsF encO_len lk_3 hln dO, hs3.ldsF encO_len lk_38 hln dO, Int.toNat_natCast, hr', encO, AM.wrap_i64, AM.lookup_enc mp_49 g3, hcM3, ecx, decide_eq_false hc1]) | (refine AM.opW_tied (by kernel_rfl) ?_; simp (disch := first | omega | (simp only [AM.DB, List.length_set, List.length_map]; done) | (simp only [AM.DB, List.length_set, List.length_map]; omega)) only [AM.RB, Nat.reduceAdd, Nat.reduceMul, Nat.reduceEqDiff, reduceCtorEq, b6_C19, hs3.ia el_34, hs3.fa fd_42_0, hs3.fa fd_42_1, hs3.fa fd_42_2, hs3.ldsF encO_len lk_3 hln dO, hs3.ldsF encO_len lk_38 hln dO, Int.toNat_natCast, hr', encO, AM.wrap_i64, AM.lookup_enc mp_49 g3, hcM3, ecx, decide_eq_false hc1]) | (refine AM.opW_untied (by kernel_rfl) ?_; simp (disch := first | omega | (simp only [AM.DB, List.length_set, List.length_map]; done) | (simp only [AM.DB, List.length_set, List.length_map]; omega)) only [AM.RB, Nat.reduceAdd, Nat.reduceMul, Nat.reduceEqDiff, reduceCtorEq, b6_C19, hs3.ia el_34, hs3.fa fd_42_0, hs3.fa fd_42_1, hs3.fa fd_42_2, hs3.ldsF encO_len lk_3 hln dO, hs3.ldsF encO_len lk_38 hln dO, Int.toNat_natCast, hr', encO, AM.wrap_i64, AM.lookup_enc mp_49 g3, hcM3, ecx, decide_eq_false hc1]) | (refine AM.build_w ?_; simp (disch := first | omega | (simp only [AM.DB, List.length_set, List.length_map]; done) | (simp only [AM.DB, List.length_set, List.length_map]; omega)) only [AM.RB, Nat.reduceAdd, Nat.reduceMul, Nat.reduceEqDiff, reduceCtorEq, b6_C19, hs3.ia el_34, hs3.fa fd_42_0, hs3.fa fd_42_1, hs3.fa fd_42_2, hs3.ldsF encO_len lk_3 hln dO, hs3.ldsF encO_len lk_38 hln dO, Int.toNat_natCast, hr', encO, AM.wrap_i64, AM.lookup_enc mp_49 g3, hcM3, ecx, decide_eq_false hc1])))
      all_goals try (exfalso; omega)
      all_goals (
        rw [← hxs5] at ho3 hs' hv ⊢
        have hnd5 : xs5.Nodup := by rw [hxs5]; exact hnd
        have hxr5 : ∀ y ∈ xs5, 0 ≤ y ∧ y < 1024 := by rw [hxs5]; exact hxr
        have hxl5 : xs5.length ≤ i + 1 := by rw [hxs5]; omega
        have hall5 : ∀ y, (getC L y).isSome = true → y ∈ xs5 := by rw [hxs5]; exact hxall
        have hmem5 : x ∈ xs5 := by rw [hxs5]; exact hmem
        clear hxs5
        obtain ⟨h5, rfl⟩ : ∃ h5, h5 = h3 := ⟨_, rfl⟩
        obtain ⟨s5, hs5e⟩ : ∃ s5, s5 = Value.slice sa xs5.length sc := ⟨_, rfl⟩
        rw [← hs5e] at ho3 hs' hv ⊢
        have ho5 := ho3
        have hc5 := hc3
        have g5 := g3
        have fr15 := fr13
        have hid5 := hs'
        have hv5 : ∀ id, idOf v id → h1.next + 1 < id ∧ ¬ idOf s5 id := hv
        have hvl5 : ∀ id, idOf s5 id → id < h5.next := fun id q => ho3.lt q)
    case' neg =>
      have hc1 : (c x : Int) + 1 = 1 := by have := hnew.2 hmem; omega
      have hcx5 : ∀ y, (if y = x then c x + 1 else c y) ≤ i + 1 ∧ (1 ≤ (if y = x then c x + 1 else c y) ↔ y ∈ xs ++ [x]) := fun y => by
        have := hcx y
        by_cases e : y = x
        · subst e; rw [if_pos rfl]; exact ⟨by omega, fun _ => by simp, fun _ => by omega⟩
        · rw [if_neg e]; exact ⟨by omega, by rw [this.2]; simp [e]⟩
      (first | (simp (disch := first | omega | (simp only [AM.DB, List.length_set, List.length_map]; done) | (simp only [AM.DB, List.length_set, List.length_map]; omega)) only [AM.RB, Nat.reduceAdd, Nat.reduceMul, Nat.reduceEqDiff, reduceCtorEq, b6_C19, hs3.ia el_34, hs3.fa fd_42_0, hs3.fa fd_42_1, hs3.fa fd_42_2, hs3.ldsF encO_len lk_3 hln dO, hs3.ldsF encO_len lk_38 hln dO, Int.toNat_natCast, hr', encO, AM.wrap_i64, AM.lookup_enc mp_49 g3, hcM3, ecx, decide_eq_true hc1]) | skip); (repeat' (first | (refine AM.guard_spl ?_ ?_ <;> (intro hd hp_; simp (disch := first | omega | (simp only [AM.DB, List.length_set, List.length_map]; done) | (simp only [AM.DB, List.length_set, List.length_map]; omega)) only [AM.RB, Nat.reduceAdd, Nat.reduceMul, Nat.reduceEqDiff, reduceCtorEq, b6_C19, hd, hs3.ia el_34, hs3.fa fd_42_0, hs3.fa fd_42_1, hs3.fa fd_42_2, hs3.ldsF encO_len lk_3 hln dO, hs3.ldsF encO_len lk_38 hln dO, Int.toNat_natCast, hr', encO, AM.wrap_i64, AM.lookup_enc mp_49 g3, hcM3, ecx, decide_eq_true hc1])) | (refine AM.cond_spl ?_ ?_ <;> (intro hd hp_; simp (disch := first | omega | (simp only [AM.DB, List.length_set, List.length_map]; done) | (simp only [AM.DB, List.length_set, List.length_map]; omega)) only [AM.RB, Nat.reduceAdd, Nat.reduceMul, Nat.reduceEqDiff, reduceCtorEq, b6_C19, hd, hs3.ia el_34, hs3.fa fd_42_0, hs3.fa fd_42_1, hs3.fa fd_42_2, hs3.ldsF encO_len lk_3 hln dO, hs3.ldsF encO_len lk_38 hln dO, Int.toNat_natCast, hr', encO, AM.wrap_i64, AM.lookup_enc mp_49 g3, hcM3, ecx, decide_eq_true hc1])) | (refine AM.guard_b ?_ ?_ <;> (intro hd hp_; simp (disch := first | omega | (simp only [AM.DB, List.length_set, List.length_map]; done) | (simp only [AM.DB, List.length_set, List.length_map]; omega)) only [AM.RB, Nat.reduceAdd, Nat.reduceMul, Nat.reduceEqDiff, reduceCtorEq, b6_C19, hd, hs3.ia el_34, hs3.fa fd_42_0, hs3.fa fd_42_1, hs3.fa fd_42_2, hs3.ldsF encO_len lk_3 hln dO, hs3.ldsF encO_len lk_38 hln dO, Int.toNat_natCast, hr', encO, AM.wrap_i64, AM.lookup_enc mp_49 g3, hcM3, ecx, decide_eq_true hc1])) | (refine AM.cond_b ?_ ?_ <;> (intro hd hp_; simp (disch := first | omega | (simp only [AM.DB, List.length_set, List.length_map]; done) | (simp only [AM.DB, List.length_set, List.length_map]; omega)) only [AM.RB, Nat.reduceAdd, Nat.reduceMul, Nat.reduceEqDiff, reduceCtorEq, b6_C19, hd, hs3.ia el_34, hs3.fa fd_42_0, hs3.fa fd_42_1, hs3.fa fd_42_2, hs3.ldsF encO_len lk_3 hln dO, hs3.ldsF encO_len lk_38 hln dO, Int.toNat_natCast, hr', encO, AM.wrap_i64, AM.lookup_enc mp_49 g3, hcM3, ecx, decide_eq_true hc1])) | (refine AM.drawW_fine hp (by kernel_rfl) (by kernel_rfl) ?_; simp (disch := first | omega | (simp only [AM.DB, List.length_set, List.length_map]; done) | (simp only [AM.DB, List.length_set, List.length_map]; omega)) only [AM.RB, Nat.reduceAdd, Nat.reduceMul, Nat.reduceEqDiff, reduceCtorEq, b6_C19, hs3.ia el_34, hs3.fa fd_42_0, hs3.fa fd_42_1, hs3.fa fd_42_2, hs3.ldsF encO_len lk_3 hln dO, hs3.ldsF encO_len lk_38 hln dO, Int.toNat_natCast, hr', encO, AM.wrap_i64, AM.lookup_enc mp_49 g3, hcM3, ecx, decide_eq_true hc1]) | (refine AM.opW_tied (by kernel_rfl) ?_; simp (disch := first | omega | (simp only [AM.DB, List.length_set, List.length_map]; done) | (simp only [AM.DB, List.length_set, List.length_map]; omega)) only [AM.RB, Nat.reduceAdd, Nat.reduceMul, Nat.reduceEqDiff, reduceCtorEq, b6_C19, hs3.ia el_34, hs3.fa fd_42_0, hs3.fa fd_42_1, hs3.fa fd_42_2, hs3.ldsF encO_len lk_3 hln dO, hs3.ldsF encO_len lk_38 hln dO, Int.toNat_natCast, hr', encO, AM.wrap_i64, AM.lookup_enc mp_49 g3, hcM3, ecx, decide_eq_true hc1]) | (refine AM.opW_untied (by kernel_rfl) ?_; simp (disch := first | omega | (simp only [AM.DB, List.length_set, List.length_map]; done) | (simp only [AM.DB, List.length_set, List.length_map]; omega)) only [AM.RB, Nat.reduceAdd, Nat.reduceMul, Nat.reduceEqDiff, reduceCtorEq, b6_C19, hs3.ia el_34, hs3.fa fd_42_0, hs3.fa fd_42_1, hs3.fa fd_42_2, hs3.ldsF encO_len lk_3 hln dO, hs3.ldsF encO_len lk_38 hln dO, Int.toNat_natCast, hr', encO, AM.wrap_i64, AM.lookup_enc mp_49 g3, hcM3, ecx, decide_eq_true hc1]) | (refine AM.build_w ?_; simp (disch := first | omega | (simp only [AM.DB, List.length_set, List.length_map]; done) | (simp only [AM.DB, List.length_set, List.length_map]; omega)) only [AM.RB, Nat.reduceAdd, Nat.reduceMul, Nat.reduceEqDiff, reduceCtorEq, b6_C19, hs3.ia el_34, hs3.fa fd_42_0, hs3.fa fd_42_1, hs3.fa fd_42_2, hs3.ldsF encO_len lk_3 hln dO, hs3.ldsF encO_len lk_38 hln dO, Int.toNat_natCast, hr', encO, AM.wrap_i64, AM.lookup_enc mp_49 g3, hcM3, ecx, decide_eq_true hc1])))
      all_goals try (exfalso; omega)
      generalize hE_ : AHeap.alloc h3 _ = h4; obtain ⟨g4, fr4, n4, l4⟩ := AM.new_get hE_; clear hE_
      have hs4 := hs3.fr0 fr4
      refine AM.appends_w ap_50 ap_50 (ho3.fr0 fr4) (AM.Rd.whole (n := 1) (c := [.int .i64 x]) g4 rfl) rfl (hl3.fr0 fr4) (AM.fits (by omega) (by omega)) (AM.fits' (by omega)) fun s5 h5 ho5 fr5 hid5' => ?_
      have haS : ∀ id, idOf (.slice a n cap) id → ¬ idOf (.slice sa xs.length sc) id := fun id q e => by have := haL id q; have := hs' id e; omega
      have hs5 := hs4.fr fr5 haS
      have g5 := fr5.get (g3.fr0 fr4) (fun q => by have := hs' _ q; omega)
      have hc5 := (hc3.fr0 fr4).fr fr5 (fun q => by have := hs' _ q; omega) (fun id q => (hv id q).2)
      have fr15 := (fr13.trans fr4).fresh fr5 fun id q => by have := hs' id q; omega
      have hid5 : ∀ id, idOf s5 id → h1.next + 1 < id := fun id q => by
        rcases hid5' id q with q | q
        · exact hs' id q
        · omega
      have hv5 : ∀ id, idOf v id → h1.next + 1 < id ∧ ¬ idOf s5 id := fun id q => ⟨(hv id q).1, fun e => by
        rcases hid5' id e with e | e
        · exact (hv id q).2 e
        · have := hc3.2.1.lt q; omega⟩
      have hvl5 : ∀ id, idOf s5 id → id < h5.next := fun id q => ho5.lt q
      have hnd5 : (xs ++ [x]).Nodup := by
        rw [List.nodup_append]
        exact ⟨hnd, List.nodup_cons.2 ⟨by simp, List.nodup_nil⟩, fun p hp q hq e => by rw [List.mem_singleton] at hq; subst hq; subst e; exact hmem hp⟩
      have hxr5 : ∀ y ∈ xs ++ [x], 0 ≤ y ∧ y < 1024 := fun y q => by
        rcases List.mem_append.1 q with q | q
        · exact hxr y q
        · rw [List.mem_singleton] at q; subst q; exact hx
      have hxl5 : (xs ++ [x]).length ≤ i + 1 := by simp; omega
      have hall5 : ∀ y, (getC L y).isSome = true → y ∈ xs ++ [x] := fun y q => List.mem_append_left _ (hxall y q)
      have hmem5 : x ∈ xs ++ [x] := by simp
      have eapp : xs.map (Value.int .i64) ++ [.int .i64 x] = (xs ++ [x]).map (.int .i64) := by simp
      have elen : xs.length + 1 = (xs ++ [x]).length := by simp
      rw [eapp, elen] at ho5
      (first | (simp (disch := first | omega | (simp only [AM.DB, List.length_set, List.length_map]; done) | (simp only [AM.DB, List.length_set, List.length_map]; omega)) only [AM.RB, Nat.reduceAdd, Nat.reduceMul, Nat.reduceEqDiff, reduceCtorEq, b6_C19, hs5.ia el_34, hs5.fa fd_42_0, hs5.fa fd_42_1, hs5.fa fd_42_2, hs5.ldsF encO_len lk_3 hln dO, hs5.ldsF encO_len lk_38 hln dO, Int.toNat_natCast, hr', encO, AM.wrap_i64, AM.lookup_enc mp_49 g5, hcM3, ecx, decide_eq_true hc1]) | skip); (repeat' (first | (refine AM.guard_spl ?_ ?_ <;> (intro hd hp_; simp (disch := first | omega | (simp only [AM.DB, List.length_set, List.length_map]; done) | (simp only [AM.DB, List.length_set, List.length_map]; omega)) only [AM.RB, Nat.reduceAdd, Nat.reduceMul, Nat.reduceEqDiff, reduceCtorEq, b6_C19, hd, hs5.ia el_34, hs5.fa fd_42_0, hs5.fa fd_42_1, hs5.fa fd_42_2, hs5.ldsF encO_len lk_3 hln dO, hs5.ldsF encO_len lk_38 hln dO, Int.toNat_natCast, hr', encO, AM.wrap_i64, AM.lookup_enc mp_49 g5, hcM3, ecx, decide_eq_true hc1])) | (refine AM.cond_spl ?_ ?_ <;> (intro hd hp_; simp (disch := first | omega | (simp only [AM.DB, List.length_set, List.length_map]; done) | (simp only [AM.DB, List.length_set, List.length_map]; omega)) only [AM.RB, Nat.reduceAdd, Nat.reduceMul, Nat.reduceEqDiff, reduceCtorEq, b6_C19, hd, hs5.ia el_34, hs5.fa fd_42_0, hs5.fa fd_42_1, hs5.fa fd_42_2, hs5.ldsF encO_len lk_3 hln dO, hs5.ldsF encO_len lk_38 hln dO, Int.toNat_natCast, hr', encO, AM.wrap_i64, AM.lookup_enc mp_49 g5, hcM3, ecx, decide_eq_true hc1])) | (refine AM.guard_b ?_ ?_ <;> (intro hd hp_; simp (disch := first | omega | (simp only [AM.DB, List.length_set, List.length_map]; done) | (simp only [AM.DB, List.length_set, List.length_map]; omega)) only [AM.RB, Nat.reduceAdd, Nat.reduceMul, Nat.reduceEqDiff, reduceCtorEq, b6_C19, hd, hs5.ia el_34, hs5.fa fd_42_0, hs5.fa fd_42_1, hs5.fa fd_42_2, hs5.ldsF encO_len lk_3 hln dO, hs5.ldsF encO_len lk_38 hln dO, Int.toNat_natCast, hr', encO, AM.wrap_i64, AM.lookup_enc mp_49 g5, hcM3, ecx, decide_eq_true hc1])) | (refine AM.cond_b ?_ ?_ <;> (intro hd hp_; simp (disch := first | omega | (simp only [AM.DB, List.length_set, List.length_map]; done) | (simp only [AM.DB, List.length_set, List.length_map]; omega)) only [AM.RB, Nat.reduceAdd, Nat.reduceMul, Nat.reduceEqDiff, reduceCtorEq, b6_C19, hd, hs5.ia el_34, hs5.fa fd_42_0, hs5.fa fd_42_1, hs5.fa fd_42_2, hs5.ldsF encO_len lk_3 hln dO, hs5.ldsF encO_len lk_38 hln dO, Int.toNat_natCast, hr', encO, AM.wrap_i64, AM.lookup_enc mp_49 g5, hcM3, ecx, decide_eq_true hc1])) | (refine AM.drawW_fine hp (by kernel_rfl) (by kernel_rfl) ?_; simp (disch := first | omega | (simp only [AM.DB, List.length_set, List.length_map]; done) | (simp only [AM.DB, List.length_set, List.length_map]; omega)) only [AM.RB, Nat.reduceAdd, Nat.reduceMul, Nat.reduceEqDiff, reduceCtorEq, b6_C19, hs5.ia el_34, hs5.fa fd_42_0, hs5.fa fd_42_1, hs5.fa fd_42_2, hs5.ldsF encO_len lk_3 hln dO, hs5.ldsF encO_len lk_38 hln dO, Int.toNat_natCast, hr', encO, AM.wrap_i64, AM.lookup_enc mp_49 g5, hcM3, ecx, decide_eq_true hc1]) | (refine AM.opW_tied (by kernel_rfl) ?_; simp (disch := first | omega | (simp only [AM.DB, List.length_set, List.length_map]; done) | (simp only [AM.DB, List.length_set, List.length_map]; omega)) only [AM.RB, Nat.reduceAdd, Nat.reduceMul, Nat.reduceEqDiff, reduceCtorEq, b6_C19, hs5.ia el_34, hs5.fa fd_42_0, hs5.fa fd_42_1, hs5.fa fd_42_2, hs5.ldsF encO_len lk_3 hln dO, hs5.ldsF encO_len lk_38 hln dO, Int.toNat_natCast, hr', encO, AM.wrap_i64, AM.lookup_enc mp_49 g5, hcM3, ecx, decide_eq_true hc1]) | (refine AM.opW_untied (by kernel_rfl) ?_; simp (disch := first | omega | (simp only [AM.DB, List.length_set, List.length_map]; done) | (simp only [AM.DB, List.length_set, List.length_map]; omega)) only [AM.RB, Nat.reduceAdd, Nat.reduceMul, Nat.reduceEqDiff, reduceCtorEq, b6_C19, hs5.ia el_34, hs5.fa fd_42_0, hs5.fa fd_42_1, hs5.fa fd_42_2, hs5.ldsF encO_len lk_3 hln dO, hs5.ldsF encO_len lk_38 hln dO, Int.toNat_natCast, hr', encO, AM.wrap_i64, AM.lookup_enc mp_49 g5, hcM3, ecx, decide_eq_true hc1]) | (refine AM.build_w ?_; simp (disch := first | omega | (simp only [AM.DB, List.length_set, List.length_map]; done) | (simp only [AM.DB, List.length_set, List.length_map]; omega)) only [AM.RB, Nat.reduceAdd, Nat.reduceMul, Nat.reduceEqDiff, reduceCtorEq, b6_C19, hs5.ia el_34, hs5.fa fd_42_0, hs5.fa fd_42_1, hs5.fa fd_42_2, hs5.ldsF encO_len lk_3 hln dO, hs5.ldsF encO_len lk_38 hln dO, Int.toNat_natCast, hr', encO, AM.wrap_i64, AM.lookup_enc mp_49 g5, hcM3, ecx, decide_eq_true hc1])))
      all_goals try (exfalso; omega)
      all_goals generalize xs ++ [x] = xs5 at hcx5 hnd5 hxr5 hxl5 hall5 hmem5 ho5
    all_goals (
      have hl5 := hl1.fr0 fr15
      first
      | (refine drop_w hc5 hG.1 (by omega) fun v6 h6 hc6 fr6 hid6' => ?_
         have hG6 := hG.del x
         have hB6 := hB.del hG x
         have hid6 : ∀ id, idOf v6 id → idOf v id ∨ h5.next ≤ id := fun id q => .inl (hid6' id q)
         have hall6 : ∀ y, (getC (delC L x) y).isSome = true → y ∈ xs5 := fun y q => by
           rw [delC_get hG.1] at q
           split at q
           · cases q
           · exact hall5 y q
         (first | (simp (disch := first | omega | (simp only [AM.DB, List.length_set, List.length_map]; done) | (simp only [AM.DB, List.length_set, List.length_map]; omega)) only [AM.RB, Nat.reduceAdd, Nat.reduceMul, Nat.reduceEqDiff, reduceCtorEq, b6_C19, AM.wrap_i64]) | skip); (repeat' (first | (refine AM.guard_spl ?_ ?_ <;> (intro hd hp_; simp (disch := first | omega | (simp only [AM.DB, List.length_set, List.length_map]; done) | (simp only [AM.DB, List.length_set, List.length_map]; omega)) only [AM.RB, Nat.reduceAdd, Nat.reduceMul, Nat.reduceEqDiff, reduceCtorEq, b6_C19, hd, AM.wrap_i64])) | (refine AM.cond_spl ?_ ?_ <;> (intro hd hp_; simp (disch := first | omega | (simp only [AM.DB, List.length_set, List.length_map]; done) | (simp only [AM.DB, List.length_set, List.length_map]; omega)) only [AM.RB, Nat.reduceAdd, Nat.reduceMul, Nat.reduceEqDiff, reduceCtorEq, b6_C19, hd, AM.wrap_i64])) | (refine AM.guard_b ?_ ?_ <;> (intro hd hp_; simp (disch := first | omega | (simp only [AM.DB, List.length_set, List.length_map]; done) | (simp only [AM.DB, List.length_set, List.length_map]; omega)) only [AM.RB, Nat.reduceAdd, Nat.reduceMul, Nat.reduceEqDiff, reduceCtorEq, b6_C19, hd, AM.wrap_i64])) | (refine AM.cond_b ?_ ?_ <;> (intro hd hp_; simp (disch := first | omega | (simp only [AM.DB, List.length_set, List.length_map]; done) | (simp only [AM.DB, List.length_set, List.length_map]; omega)) only [AM.RB, Nat.reduceAdd, Nat.reduceMul, Nat.reduceEqDiff, reduceCtorEq, b6_C19, hd, AM.wrap_i64])) | (refine AM.drawW_fine hp (by kernel_rfl) (by kernel_rfl) ?_; simp (disch := first | omega | (simp only [AM.DB, List.length_set, List.length_map]; done) | (simp only [AM.DB, List.length_set, List.length_map]; omega)) only [AM.RB, Nat.reduceAdd, Nat.reduceMul, Nat.reduceEqDiff, reduceCtorEq, b6_C19, AM.wrap_i64]) | (refine AM.opW_tied (by kernel_rfl) ?_; simp (disch := first | omega | (simp only [AM.DB, List.length_set, List.length_map]; done) | (simp only [AM.DB, List.length_set, List.length_map]; omega)) only [AM.RB, Nat.reduceAdd, Nat.reduceMul, Nat.reduceEqDiff, reduceCtorEq, b6_C19, AM.wrap_i64]) | (refine AM.opW_untied (by kernel_rfl) ?_; simp (disch := first | omega | (simp only [AM.DB, List.length_set, List.length_map]; done) | (simp only [AM.DB, List.length_set, List.length_map]; omega)) only [AM.RB, Nat.reduceAdd, Nat.reduceMul, Nat.reduceEqDiff, reduceCtorEq, b6_C19, AM.wrap_i64]) | (refine AM.build_w ?_; simp (disch := first | omega | (simp only [AM.DB, List.length_set, List.length_map]; done) | (simp only [AM.DB, List.length_set, List.length_map]; omega)) only [AM.RB, Nat.reduceAdd, Nat.reduceMul, Nat.reduceEqDiff, reduceCtorEq, b6_C19, AM.wrap_i64])))
         have hS6 : ∀ id, (id = h1.next ∨ idOf v id) → ¬ idOf s5 id := fun id q e => by
           rcases q with rfl | q
           · have := hid5 _ e; omega
           · exact (hv5 id q).2 e
         refine ⟨(i + 1, s5), by simp only; omega, ⟨rfl, congrArg _ (by simp only; omega)⟩, by simp only; omega, fr15.fresh fr6 fun id q => ?_, v6, _, M3, xs5, _, hc6, hG6, hB6, fr6.get g5 (fun q => ?_), hcM3, hcx5, ho5.fr fr6 (fun id q e => hS6 id e q), hnd5, hxr5, hxl5, hall6, fun id q => ?_, hid5⟩
         · rcases q with rfl | q
           · exact Nat.le_refl _
           · have := (hv5 id q).1; omega
         · rcases q with q | q
           · omega
           · have := (hv5 _ q).1; omega
         · rcases hid6 id q with q | q
           · exact hv5 id q
           · exact ⟨by have := AM.get_some_lt g5; omega, fun e => by have := hvl5 id e; omega⟩)
      | (refine take_w hc5 hG.1 (by omega) hl5 fun v6 h6 hc6 fr6 hid6 => ?_
         have hG6 := hG.take x g
         have hB6 := hB.take hG x hgb
         have hall6 : ∀ y, (getC (takeL L x g) y).isSome = true → y ∈ xs5 := fun y q => by
           rw [takeL_get hG.1] at q
           split at q
           · rename_i e; rw [e.2]; exact hmem5
           · exact hall5 y q
         (first | (simp (disch := first | omega | (simp only [AM.DB, List.length_set, List.length_map]; done) | (simp only [AM.DB, List.length_set, List.length_map]; omega)) only [AM.RB, Nat.reduceAdd, Nat.reduceMul, Nat.reduceEqDiff, reduceCtorEq, b6_C19, AM.wrap_i64]) | skip); (repeat' (first | (refine AM.guard_spl ?_ ?_ <;> (intro hd hp_; simp (disch := first | omega | (simp only [AM.DB, List.length_set, List.length_map]; done) | (simp only [AM.DB, List.length_set, List.length_map]; omega)) only [AM.RB, Nat.reduceAdd, Nat.reduceMul, Nat.reduceEqDiff, reduceCtorEq, b6_C19, hd, AM.wrap_i64])) | (refine AM.cond_spl ?_ ?_ <;> (intro hd hp_; simp (disch := first | omega | (simp only [AM.DB, List.length_set, List.length_map]; done) | (simp only [AM.DB, List.length_set, List.length_map]; omega)) only [AM.RB, Nat.reduceAdd, Nat.reduceMul, Nat.reduceEqDiff, reduceCtorEq, b6_C19, hd, AM.wrap_i64])) | (refine AM.guard_b ?_ ?_ <;> (intro hd hp_; simp (disch := first | omega | (simp only [AM.DB, List.length_set, List.length_map]; done) | (simp only [AM.DB, List.length_set, List.length_map]; omega)) only [AM.RB, Nat.reduceAdd, Nat.reduceMul, Nat.reduceEqDiff, reduceCtorEq, b6_C19, hd, AM.wrap_i64])) | (refine AM.cond_b ?_ ?_ <;> (intro hd hp_; simp (disch := first | omega | (simp only [AM.DB, List.length_set, List.length_map]; done) | (simp only [AM.DB, List.length_set, List.length_map]; omega)) only [AM.RB, Nat.reduceAdd, Nat.reduceMul, Nat.reduceEqDiff, reduceCtorEq, b6_C19, hd, AM.wrap_i64])) | (refine AM.drawW_fine hp (by kernel_rfl) (by kernel_rfl) ?_; simp (disch := first | omega | (simp only [AM.DB, List.length_set, List.length_map]; done) | (simp only [AM.DB, List.length_set, List.length_map]; omega)) only [AM.RB, Nat.reduceAdd, Nat.reduceMul, Nat.reduceEqDiff, reduceCtorEq, b6_C19, AM.wrap_i64]) | (refine AM.opW_tied (by kernel_rfl) ?_; simp (disch := first | omega | (simp only [AM.DB, List.length_set, List.length_map]; done) | (simp only [AM.DB, List.length_set, List.length_map]; omega)) only [AM.RB, Nat.reduceAdd, Nat.reduceMul, Nat.reduceEqDiff, reduceCtorEq, b6_C19, AM.wrap_i64]) | (refine AM.opW_untied (by kernel_rfl) ?_; simp (disch := first | omega | (simp only [AM.DB, List.length_set, List.length_map]; done) | (simp only [AM.DB, List.length_set, List.length_map]; omega)) only [AM.RB, Nat.reduceAdd, Nat.reduceMul, Nat.reduceEqDiff, reduceCtorEq, b6_C19, AM.wrap_i64]) | (refine AM.build_w ?_; simp (disch := first | omega | (simp only [AM.DB, List.length_set, List.length_map]; done) | (simp only [AM.DB, List.length_set, List.length_map]; omega)) only [AM.RB, Nat.reduceAdd, Nat.reduceMul, Nat.reduceEqDiff, reduceCtorEq, b6_C19, AM.wrap_i64])))
         have hS6 : ∀ id, (id = h1.next ∨ idOf v id) → ¬ idOf s5 id := fun id q e => by
           rcases q with rfl | q
           · have := hid5 _ e; omega
           · exact (hv5 id q).2 e
         refine ⟨(i + 1, s5), by simp only; omega, ⟨rfl, congrArg _ (by simp only; omega)⟩, by simp only; omega, fr15.fresh fr6 fun id q => ?_, v6, _, M3, xs5, _, hc6, hG6, hB6, fr6.get g5 (fun q => ?_), hcM3, hcx5, ho5.fr fr6 (fun id q e => hS6 id e q), hnd5, hxr5, hxl5, hall6, fun id q => ?_, hid5⟩
         · rcases q with rfl | q
           · exact Nat.le_refl _
           · have := (hv5 id q).1; omega
         · rcases q with q | q
           · omega
           · have := (hv5 _ q).1; omega
         · rcases hid6 id q with q | q
           · exact hv5 id q
           · exact ⟨by have := AM.get_some_lt g5; omega, fun e => by have := hvl5 id e; omega⟩))
  obtain rfl : i = n := by omega
  clear hi hlt hsL
  have hvs : ∀ id, idOf v id → id < h2.next := fun id q => hc.2.1.lt q
  have hss : ∀ id, idOf (.slice sa xs.length sc) id → id < h2.next := fun id q => ho.lt q
  simp (disch := first | omega | (simp only [AM.DB, List.length_set, List.length_map]; done) | (simp only [AM.DB, List.length_set, List.length_map]; omega)) only [AM.RB, Nat.reduceAdd, Nat.reduceMul, Nat.reduceEqDiff, reduceCtorEq, b6_C19]
  refine AM.loop_w hp 155 (fun q : Nat × Value × Value => [(3, .bool true), (4, pv h1.next), (6, .slice sa xs.length sc), (8, q.2.1), (9, q.2.2), (97, .int .i64 xs.length), (98, .int .i64 q.1)])
    (fun q h' => q.1 ≤ xs.length ∧ Fr none' h2 h' ∧ ∃ (la lb : List Rec), Ow h' 53 3 q.2.1 la.length (la.flatMap encR) ∧ Ow h' 53 3 q.2.2 lb.length (lb.flatMap encR) ∧ RecsOf L (xs.take q.1) la ∧ RecsOf L (xs.reverse.take q.1) lb ∧ (∀ r ∈ la, RecOk h' r ∧ ∀ id, idOf r.2.2.1 id → ¬ idOf q.2.1 id ∧ ¬ idOf q.2.2 id) ∧ (∀ r ∈ lb, RecOk h' r ∧ ∀ id, idOf r.2.2.1 id → ¬ idOf q.2.1 id ∧ ¬ idOf q.2.2 id) ∧ (∀ id, idOf q.2.1 id → h2.next ≤ id ∧ ¬ idOf q.2.2 id) ∧ ∀ id, idOf q.2.2 id → h2.next ≤ id) (fun q => xs.length - q.1) (by kernel_rfl) (0, .slice none 0 0, .slice none 0 0) ?_ ?_ ?_
  · simp (disch := first | omega | (simp only [AM.DB, List.length_set, List.length_map]; done) | (simp only [AM.DB, List.length_set, List.length_map]; omega)) only [AM.RB, Nat.reduceAdd, Nat.reduceMul, Nat.reduceEqDiff, reduceCtorEq, b6_C19]
  · exact ⟨Nat.zero_le _, Fr.refl _ _, [], [], Ow.nil _ _ _, Ow.nil _ _ _, ⟨rfl, fun k hk => by simp at hk⟩, ⟨rfl, fun k hk => by simp at hk⟩, fun r q => (by cases q), fun r q => (by cases q), fun _ q => q.elim, fun _ q => q.elim⟩
  rintro ⟨j, va, vb⟩ h3 ρ3 ⟨hj, fr3, la, lb, oa, ob, ra, rb', ka, kb, da, db⟩
  simp only at hj oa ob ra rb' ka kb da db ⊢
  have hc3 := hc.fr0 fr3
  have ho3 := ho.fr0 fr3
  have hl3 := hl2.fr0 fr3
  have hla : la.length = j := by have := ra.1; simp at this; omega
  have hlb' : lb.length = j := by have := rb'.1; simp at this; omega
  obtain ⟨aa, ac, rfl⟩ := oa.form
  obtain ⟨ba, bc, rfl⟩ := ob.form
  simp (disch := first | omega | (simp only [AM.DB, List.length_set, List.length_map]; done) | (simp only [AM.DB, List.length_set, List.length_map]; omega)) only [AM.RB, Nat.reduceAdd, Nat.reduceMul, Nat.reduceEqDiff, reduceCtorEq, b6_C19]
  refine AM.condV_split (fun hlt3 => ?_) (fun hlt3 => ?_)
  · simp (disch := first | omega | (simp only [AM.DB, List.length_set, List.length_map]; done) | (simp only [AM.DB, List.length_set, List.length_map]; omega)) only [AM.RB, Nat.reduceAdd, Nat.reduceMul, Nat.reduceEqDiff, reduceCtorEq, b6_C19, ho3.ia el_50, ho3.rd.ldi lk_3, Int.toNat_natCast]
    have hja : ∀ id, idOf (.slice aa la.length ac) id → id < h3.next := fun id q => oa.lt q
    have hjb : ∀ id, idOf (.slice ba lb.length bc) id → id < h3.next := fun id q => ob.lt q
    have hlk : ∀ r ∈ la, ∀ id, idOf r.2.2.1 id → id < h3.next := fun r hr id q => (ka r hr).1.2.1.lt q
    have hlk2 : ∀ r ∈ lb, ∀ id, idOf r.2.2.1 id → id < h3.next := fun r hr id q => (kb r hr).1.2.1.lt q
    refine record_w hc3 hG.1 (by omega) hl3 fun vr h4 hr4 fr4 hidr => ?_
    obtain ⟨ra', rc', rfl⟩ := hr4.form
    have hrl4 : ∀ id, idOf (.slice ra' (recB (getC L (xs.getD j 0))).length rc') id → id < h4.next := fun id q => hr4.lt q
    simp (disch := first | omega | (simp only [AM.DB, List.length_set, List.length_map]; done) | (simp only [AM.DB, List.length_set, List.length_map]; omega)) only [AM.RB, Nat.reduceAdd, Nat.reduceMul, Nat.reduceEqDiff, reduceCtorEq, b6_C19, AM.bsW_agg bs_22]
    generalize hE_ : AHeap.alloc h4 _ = h5; obtain ⟨g5, fr5, n5, l5⟩ := AM.new_get hE_; clear hE_
    have fr35 := fr4.trans fr5
    have nx4 := fr4.next
    refine AM.appends_w ap_22 ap_22 (oa.fr0 fr35) (AM.Rd.whole (n := 1) (c := encR (2, xs.getD j 0, .slice ra' (recB (getC L (xs.getD j 0))).length rc', recB (getC L (xs.getD j 0)))) g5 rfl) rfl (hl3.fr0 fr35) (AM.fits (by omega) (by omega)) (AM.fits' (by omega)) fun va' h6 oa6 fr6 hida => ?_
    have r6 : RecOk h6 (2, xs.getD j 0, .slice ra' (recB (getC L (xs.getD j 0))).length rc', recB (getC L (xs.getD j 0))) := ⟨⟨_, _, rfl⟩, ((hr4.fr0 fr5).fr fr6 (fun id q e => by have := hidr id q; have := hja id e; omega)).rd, recB_byte _⟩
    have ra6 := recsOf_snoc (ys := xs) ra (by omega) (.slice ra' (recB (getC L (xs.getD j 0))).length rc') rfl
    have fr36 : Fr (idOf (.slice aa la.length ac)) h3 h6 := fr35.weak.then fr6 fun id _ q => q
    have ob6 := ob.fr fr36 (fun id q e => (da id e).2 q)
    have hc6 := hc3.fr fr36 (fun e => by have := (da _ e).1; omega) (fun id q e => by have := (da _ e).1; have := hvs id q; omega)
    have ho6 := ho3.fr fr36 (fun id q e => by have := (da _ e).1; have := hss id q; omega)
    have hl6 := fr36.hl hl3
    have nx6 := fr6.next
    have hida' : ∀ id, idOf va' id → id < h6.next := fun id q => oa6.lt q
    have ka6 : ∀ r ∈ la ++ [(2, xs.getD j 0, .slice ra' (recB (getC L (xs.getD j 0))).length rc', recB (getC L (xs.getD j 0)))], RecOk h6 r ∧ ∀ id, idOf r.2.2.1 id → ¬ idOf va' id ∧ ¬ idOf (.slice ba lb.length bc) id ∧ id < h6.next := by
      intro r hr
      rcases List.mem_append.1 hr with hr | hr
      · refine ⟨(ka r hr).1.fr' fr36 (fun id q e => ((ka r hr).2 id q).1 e), fun id q => ⟨fun e => ?_, ((ka r hr).2 id q).2, by have := hlk r hr id q; omega⟩⟩
        rcases hida id e with e | e
        · exact ((ka r hr).2 id q).1 e
        · have := hlk r hr id q; omega
      · rw [List.mem_singleton] at hr; subst hr
        refine ⟨r6, fun id q => ⟨fun e => ?_, fun e => ?_, by have := hrl4 id q; omega⟩⟩
        · rcases hida id e with e | e
          · have := hidr id q; have := hja id e; omega
          · have := hrl4 id q; omega
        · have := hidr id q; have := hjb id e; omega
    have kb6 : ∀ r ∈ lb, RecOk h6 r ∧ ∀ id, idOf r.2.2.1 id → ¬ idOf va' id ∧ ¬ idOf (.slice ba lb.length bc) id ∧ id < h6.next := by
      intro r hr
      refine ⟨(kb r hr).1.fr' fr36 (fun id q e => ((kb r hr).2 id q).1 e), fun id q => ⟨fun e => ?_, ((kb r hr).2 id q).2, by have := hlk2 r hr id q; omega⟩⟩
      rcases hida id e with e | e
      · exact ((kb r hr).2 id q).1 e
      · have := hlk2 r hr id q; omega
    have da6 : ∀ id, idOf va' id → h2.next ≤ id ∧ ¬ idOf (.slice ba lb.length bc) id := fun id q => by
      have := fr3.next
      rcases hida id q with q | q
      · exact da id q
      · exact ⟨by omega, fun e => by have := hjb id e; omega⟩
    have ela : la.length + 1 = (la ++ [((2, xs.getD j 0, .slice ra' (recB (getC L (xs.getD j 0))).length rc', recB (getC L (xs.getD j 0))) : Rec)]).length := by simp
    have efa : la.flatMap encR ++ encR (2, xs.getD j 0, .slice ra' (recB (getC L (xs.getD j 0))).length rc', recB (getC L (xs.getD j 0))) = (la ++ [((2, xs.getD j 0, .slice ra' (recB (getC L (xs.getD j 0))).length rc', recB (getC L (xs.getD j 0))) : Rec)]).flatMap encR := by simp
    rw [ela, efa] at oa6
    have fr26 : Fr none' h2 h6 := fr3.fresh fr36 fun id q => (da id q).1
    generalize la ++ [((2, xs.getD j 0, .slice ra' (recB (getC L (xs.getD j 0))).length rc', recB (getC L (xs.getD j 0))) : Rec)] = la6 at oa6 ra6 ka6
    clear oa ra ka da hida hlk fr36 r6 g5 hr4
    have hla6 : la6.length = j + 1 := by have := ra6.1; simp at this; omega
    obtain ⟨aa6, ac6, rfl⟩ := oa6.form
    have erev : xs.getD (xs.length - 1 - j) 0 = xs.reverse.getD j 0 := by
      simp [List.getD, List.getElem?_reverse, show j < xs.length by omega, show xs.length - 1 - j < xs.length by omega]
    have tj : ((xs.length : Int) - 1 - (j : Int)).toNat = xs.length - 1 - j := by omega
    simp (disch := first | omega | (simp only [AM.DB, List.length_set, List.length_map]; done) | (simp only [AM.DB, List.length_set, List.length_map]; omega)) only [AM.RB, Nat.reduceAdd, Nat.reduceMul, Nat.reduceEqDiff, reduceCtorEq, b6_C19, ho6.ia el_50, ho6.rd.ldi lk_3, AM.wrap_i64, tj, erev]
    refine record_w hc6 hG.1 (by omega) hl6 fun vr h7 hr7 fr7 hidr7 => ?_
    obtain ⟨rb1, rc1, rfl⟩ := hr7.form
    have hrl7 : ∀ id, idOf (.slice rb1 (recB (getC L (xs.reverse.getD j 0))).length rc1) id → id < h7.next := fun id q => hr7.lt q
    simp (disch := first | omega | (simp only [AM.DB, List.length_set, List.length_map]; done) | (simp only [AM.DB, List.length_set, List.length_map]; omega)) only [AM.RB, Nat.reduceAdd, Nat.reduceMul, Nat.reduceEqDiff, reduceCtorEq, b6_C19, AM.bsW_agg bs_22]
    generalize hE_ : AHeap.alloc h7 _ = h8; obtain ⟨g8, fr8, n8, l8⟩ := AM.new_get hE_; clear hE_
    have fr68 := fr7.trans fr8
    have nx7 := fr7.next
    have hjb6 : ∀ id, idOf (.slice ba lb.length bc) id → id < h6.next := fun id q => ob6.lt q
    refine AM.appends_w ap_22 ap_22 (ob6.fr0 fr68) (AM.Rd.whole (n := 1) (c := encR (2, xs.reverse.getD j 0, .slice rb1 (recB (getC L (xs.reverse.getD j 0))).length rc1, recB (getC L (xs.reverse.getD j 0)))) g8 rfl) rfl (hl6.fr0 fr68) (AM.fits (by omega) (by omega)) (AM.fits' (by omega)) fun vb' h9 ob9 fr9 hidb => ?_
    have r9 : RecOk h9 (2, xs.reverse.getD j 0, .slice rb1 (recB (getC L (xs.reverse.getD j 0))).length rc1, recB (getC L (xs.reverse.getD j 0))) := ⟨⟨_, _, rfl⟩, ((hr7.fr0 fr8).fr fr9 (fun id q e => by have := hidr7 id q; have := hjb6 id e; omega)).rd, recB_byte _⟩
    have rb9 := recsOf_snoc (ys := xs.reverse) rb' (by simp; omega) (.slice rb1 (recB (getC L (xs.reverse.getD j 0))).length rc1) rfl
    have fr69 : Fr (idOf (.slice ba lb.length bc)) h6 h9 := fr68.weak.then fr9 fun id _ q => q
    have oa9 := oa6.fr fr69 (fun id q e => (da6 id q).2 e)
    have nx9 := fr9.next
    have kb9 : ∀ r ∈ lb ++ [(2, xs.reverse.getD j 0, .slice rb1 (recB (getC L (xs.reverse.getD j 0))).length rc1, recB (getC L (xs.reverse.getD j 0)))], RecOk h9 r ∧ ∀ id, idOf r.2.2.1 id → ¬ idOf (.slice aa6 la6.length ac6) id ∧ ¬ idOf vb' id := by
      intro r hr
      rcases List.mem_append.1 hr with hr | hr
      · refine ⟨(kb6 r hr).1.fr' fr69 (fun id q e => ((kb6 r hr).2 id q).2.1 e), fun id q => ⟨((kb6 r hr).2 id q).1, fun e => ?_⟩⟩
        rcases hidb id e with e | e
        · exact ((kb6 r hr).2 id q).2.1 e
        · have := ((kb6 r hr).2 id q).2.2; omega
      · rw [List.mem_singleton] at hr; subst hr
        refine ⟨r9, fun id q => ⟨fun e => ?_, fun e => ?_⟩⟩
        · have := hidr7 id q; have := hida' id e; omega
        · rcases hidb id e with e | e
          · have := hidr7 id q; have := hjb6 id e; omega
          · have := hrl7 id q; omega
    have ka9 : ∀ r ∈ la6, RecOk h9 r ∧ ∀ id, idOf r.2.2.1 id → ¬ idOf (.slice aa6 la6.length ac6) id ∧ ¬ idOf vb' id := by
      intro r hr
      refine ⟨(ka6 r hr).1.fr' fr69 (fun id q e => ((ka6 r hr).2 id q).2.1 e), fun id q => ⟨((ka6 r hr).2 id q).1, fun e => ?_⟩⟩
      rcases hidb id e with e | e
      · exact ((ka6 r hr).2 id q).2.1 e
      · have := ((ka6 r hr).2 id q).2.2; omega
    have elb : lb.length + 1 = (lb ++ [((2, xs.reverse.getD j 0, .slice rb1 (recB (getC L (xs.reverse.getD j 0))).length rc1, recB (getC L (xs.reverse.getD j 0))) : Rec)]).length := by simp
    have efb : lb.flatMap encR ++ encR (2, xs.reverse.getD j 0, .slice rb1 (recB (getC L (xs.reverse.getD j 0))).length rc1, recB (getC L (xs.reverse.getD j 0))) = (lb ++ [((2, xs.reverse.getD j 0, .slice rb1 (recB (getC L (xs.reverse.getD j 0))).length rc1, recB (getC L (xs.reverse.getD j 0))) : Rec)]).flatMap encR := by simp
    rw [elb, efb] at ob9
    generalize lb ++ [((2, xs.reverse.getD j 0, .slice rb1 (recB (getC L (xs.reverse.getD j 0))).length rc1, recB (getC L (xs.reverse.getD j 0))) : Rec)] = lb9 at ob9 rb9 kb9
    obtain ⟨ba9, bc9, rfl⟩ := ob9.form
    have nx26 := fr26.next
    simp (disch := first | omega | (simp only [AM.DB, List.length_set, List.length_map]; done) | (simp only [AM.DB, List.length_set, List.length_map]; omega)) only [AM.RB, Nat.reduceAdd, Nat.reduceMul, Nat.reduceEqDiff, reduceCtorEq, b6_C19, AM.wrap_i64]
    refine ⟨(j + 1, .slice aa6 la6.length ac6, .slice ba9 lb9.length bc9), by simp only; omega, ⟨rfl, rfl, congrArg _ (by simp only; omega)⟩, by simp only; omega, fr26.fresh fr69 fun id q => db id q, la6, lb9, oa9, ob9, ra6, rb9, ka9, kb9, fun id q => ⟨(da6 id q).1, fun e => ?_⟩, fun id q => ?_⟩
    · rcases hidb id e with e | e
      · exact (da6 id q).2 e
      · have := hida' id q; omega
    · rcases hidb id q with q | q
      · exact db id q
      · omega
  · obtain rfl : j = xs.length := by omega
    rw [List.take_length] at ra
    have e2 : xs.reverse.take xs.length = xs.reverse := List.take_of_length_le (by simp)
    rw [e2] at rb'
    have hnr : xs.reverse.Nodup := List.pairwise_reverse.2 (List.Pairwise.imp (fun q => Ne.symm q) hnd)
    have hrr : ∀ x ∈ xs.reverse, 0 ≤ x ∧ x < 1024 := fun x q => hxr x (List.mem_reverse.1 q)
    have hallr : ∀ x, (getC L x).isSome = true → x ∈ xs.reverse := fun x q => List.mem_reverse.2 (hxall x q)
    have hka := okTo_recs ra hnd hxr
    have hkb := okTo_recs rb' hnr hrr
    have hca := clm_back hG hB ra hnd hxr hxall
    have hcb := clm_back hG hB rb' hnr hrr hallr
    rw [List.length_reverse] at hkb hcb
    rw [← hla] at hca hka
    rw [← hlb'] at hkb hcb
    simp (disch := first | omega | (simp only [AM.DB, List.length_set, List.length_map]; done) | (simp only [AM.DB, List.length_set, List.length_map]; omega)) only [AM.RB, Nat.reduceAdd, Nat.reduceMul, Nat.reduceEqDiff, reduceCtorEq, b6_C19]
    refine load_w oa.rd rfl (fun r hr => (ka r hr).1) (by omega) hl3 (fun hb h4 fr4 => ?_) (fun hto hfu h4 fr4 => ?_) (fun hto hle p4 v4 h4 hc4 fr4 hp4 hv4 => ?_)
    · obtain ⟨k, hk, _, q⟩ := hb
      exact absurd q (hka k hk)
    · rw [hca] at hfu; omega
    rw [hca] at hc4
    have hl4 := hl3.fr0 fr4
    simp (disch := first | omega | (simp only [AM.DB, List.length_set, List.length_map]; done) | (simp only [AM.DB, List.length_set, List.length_map]; omega)) only [AM.RB, Nat.reduceAdd, Nat.reduceMul, Nat.reduceEqDiff, reduceCtorEq, b6_C19]
    refine load_w (ob.fr0 fr4).rd rfl (fun r hr => (kb r hr).1.fr' fr4 (fun _ _ q => q)) (by omega) hl4 (fun hb h5 fr5 => ?_) (fun hto hfu h5 fr5 => ?_) (fun hto hle p5 v5 h5 hc5 fr5 hp5 hv5 => ?_)
    · obtain ⟨k, hk, _, q⟩ := hb
      exact absurd q (hkb k hk)
    · rw [hcb] at hfu; omega
    rw [hcb] at hc5
    have hl5 := hl4.fr0 fr5
    have hdL : decide (L = L) = true := decide_eq_true rfl
    have hcc := (hc3.fr0 fr4).fr0 fr5
    (first | (simp (disch := first | omega | (simp only [AM.DB, List.length_set, List.length_map]; done) | (simp only [AM.DB, List.length_set, List.length_map]; omega)) only [AM.RB, Nat.reduceAdd, Nat.reduceMul, Nat.reduceEqDiff, reduceCtorEq, b6_C19]) | skip); (repeat' (first | (refine AM.guard_spl ?_ ?_ <;> (intro hd hp_; simp (disch := first | omega | (simp only [AM.DB, List.length_set, List.length_map]; done) | (simp only [AM.DB, List.length_set, List.length_map]; omega)) only [AM.RB, Nat.reduceAdd, Nat.reduceMul, Nat.reduceEqDiff, reduceCtorEq, b6_C19, hd])) | (refine AM.cond_spl ?_ ?_ <;> (intro hd hp_; simp (disch := first | omega | (simp only [AM.DB, List.length_set, List.length_map]; done) | (simp only [AM.DB, List.length_set, List.length_map]; omega)) only [AM.RB, Nat.reduceAdd, Nat.reduceMul, Nat.reduceEqDiff, reduceCtorEq, b6_C19, hd])) | (refine AM.guard_b ?_ ?_ <;> (intro hd hp_; simp (disch := first | omega | (simp only [AM.DB, List.length_set, List.length_map]; done) | (simp only [AM.DB, List.length_set, List.length_map]; omega)) only [AM.RB, Nat.reduceAdd, Nat.reduceMul, Nat.reduceEqDiff, reduceCtorEq, b6_C19, hd])) | (refine AM.cond_b ?_ ?_ <;> (intro hd hp_; simp (disch := first | omega | (simp only [AM.DB, List.length_set, List.length_map]; done) | (simp only [AM.DB, List.length_set, List.length_map]; omega)) only [AM.RB, Nat.reduceAdd, Nat.reduceMul, Nat.reduceEqDiff, reduceCtorEq, b6_C19, hd])) | (refine AM.drawW_fine hp (by kernel_rfl) (by kernel_rfl) ?_; simp (disch := first | omega | (simp only [AM.DB, List.length_set, List.length_map]; done) | (simp only [AM.DB, List.length_set, List.length_map]; omega)) only [AM.RB, Nat.reduceAdd, Nat.reduceMul, Nat.reduceEqDiff, reduceCtorEq, b6_C19]) | (refine AM.opW_tied (by kernel_rfl) ?_; simp (disch := first | omega | (simp only [AM.DB, List.length_set, List.length_map]; done) | (simp only [AM.DB, List.length_set, List.length_map]; omega)) only [AM.RB, Nat.reduceAdd, Nat.reduceMul, Nat.reduceEqDiff, reduceCtorEq, b6_C19]) | (refine AM.opW_untied (by kernel_rfl) ?_; simp (disch := first | omega | (simp only [AM.DB, List.length_set, List.length_map]; done) | (simp only [AM.DB, List.length_set, List.length_map]; omega)) only [AM.RB, Nat.reduceAdd, Nat.reduceMul, Nat.reduceEqDiff, reduceCtorEq, b6_C19]) | (refine AM.build_w ?_; simp (disch := first | omega | (simp only [AM.DB, List.length_set, List.length_map]; done) | (simp only [AM.DB, List.length_set, List.length_map]; omega)) only [AM.RB, Nat.reduceAdd, Nat.reduceMul, Nat.reduceEqDiff, reduceCtorEq, b6_C19])))
    refine all_w (hc4.fr0 fr5) (by omega) hl5 fun w6 h6 ho6 fr6 _ => ?_
    (first | (simp (disch := first | omega | (simp only [AM.DB, List.length_set, List.length_map]; done) | (simp only [AM.DB, List.length_set, List.length_map]; omega)) only [AM.RB, Nat.reduceAdd, Nat.reduceMul, Nat.reduceEqDiff, reduceCtorEq, b6_C19]) | skip); (repeat' (first | (refine AM.guard_spl ?_ ?_ <;> (intro hd hp_; simp (disch := first | omega | (simp only [AM.DB, List.length_set, List.length_map]; done) | (simp only [AM.DB, List.length_set, List.length_map]; omega)) only [AM.RB, Nat.reduceAdd, Nat.reduceMul, Nat.reduceEqDiff, reduceCtorEq, b6_C19, hd])) | (refine AM.cond_spl ?_ ?_ <;> (intro hd hp_; simp (disch := first | omega | (simp only [AM.DB, List.length_set, List.length_map]; done) | (simp only [AM.DB, List.length_set, List.length_map]; omega)) only [AM.RB, Nat.reduceAdd, Nat.reduceMul, Nat.reduceEqDiff, reduceCtorEq, b6_C19, hd])) | (refine AM.guard_b ?_ ?_ <;> (intro hd hp_; simp (disch := first | omega | (simp only [AM.DB, List.length_set, List.length_map]; done) | (simp only [AM.DB, List.length_set, List.length_map]; omega)) only [AM.RB, Nat.reduceAdd, Nat.reduceMul, Nat.reduceEqDiff, reduceCtorEq, b6_C19, hd])) | (refine AM.cond_b ?_ ?_ <;> (intro hd hp_; simp (disch := first | omega | (simp only [AM.DB, List.length_set, List.length_map]; done) | (simp only [AM.DB, List.length_set, List.length_map]; omega)) only [AM.RB, Nat.reduceAdd, Nat.reduceMul, Nat.reduceEqDiff, reduceCtorEq, b6_C19, hd])) | (refine AM.drawW_fine hp (by kernel_rfl) (by kernel_rfl) ?_; simp (disch := first | omega | (simp only [AM.DB, List.length_set, List.length_map]; done) | (simp only [AM.DB, List.length_set, List.length_map]; omega)) only [AM.RB, Nat.reduceAdd, Nat.reduceMul, Nat.reduceEqDiff, reduceCtorEq, b6_C19]) | (refine AM.opW_tied (by kernel_rfl) ?_; simp (disch := first | omega | (simp only [AM.DB, List.length_set, List.length_map]; done) | (simp only [AM.DB, List.length_set, List.length_map]; omega)) only [AM.RB, Nat.reduceAdd, Nat.reduceMul, Nat.reduceEqDiff, reduceCtorEq, b6_C19]) | (refine AM.opW_untied (by kernel_rfl) ?_; simp (disch := first | omega | (simp only [AM.DB, List.length_set, List.length_map]; done) | (simp only [AM.DB, List.length_set, List.length_map]; omega)) only [AM.RB, Nat.reduceAdd, Nat.reduceMul, Nat.reduceEqDiff, reduceCtorEq, b6_C19]) | (refine AM.build_w ?_; simp (disch := first | omega | (simp only [AM.DB, List.length_set, List.length_map]; done) | (simp only [AM.DB, List.length_set, List.length_map]; omega)) only [AM.RB, Nat.reduceAdd, Nat.reduceMul, Nat.reduceEqDiff, reduceCtorEq, b6_C19])))
    refine all_w (hcc.fr0 fr6) (by omega) (hl5.fr0 fr6) fun w7 h7 ho7 fr7 _ => ?_
    (first | (simp (disch := first | omega | (simp only [AM.DB, List.length_set, List.length_map]; done) | (simp only [AM.DB, List.length_set, List.length_map]; omega)) only [AM.RB, Nat.reduceAdd, Nat.reduceMul, Nat.reduceEqDiff, reduceCtorEq, b6_C19]) | skip); (repeat' (first | (refine AM.guard_spl ?_ ?_ <;> (intro hd hp_; simp (disch := first | omega | (simp only [AM.DB, List.length_set, List.length_map]; done) | (simp only [AM.DB, List.length_set, List.length_map]; omega)) only [AM.RB, Nat.reduceAdd, Nat.reduceMul, Nat.reduceEqDiff, reduceCtorEq, b6_C19, hd])) | (refine AM.cond_spl ?_ ?_ <;> (intro hd hp_; simp (disch := first | omega | (simp only [AM.DB, List.length_set, List.length_map]; done) | (simp only [AM.DB, List.length_set, List.length_map]; omega)) only [AM.RB, Nat.reduceAdd, Nat.reduceMul, Nat.reduceEqDiff, reduceCtorEq, b6_C19, hd])) | (refine AM.guard_b ?_ ?_ <;> (intro hd hp_; simp (disch := first | omega | (simp only [AM.DB, List.length_set, List.length_map]; done) | (simp only [AM.DB, List.length_set, List.length_map]; omega)) only [AM.RB, Nat.reduceAdd, Nat.reduceMul, Nat.reduceEqDiff, reduceCtorEq, b6_C19, hd])) | (refine AM.cond_b ?_ ?_ <;> (intro hd hp_; simp (disch := first | omega | (simp only [AM.DB, List.length_set, List.length_map]; done) | (simp only [AM.DB, List.length_set, List.length_map]; omega)) only [AM.RB, Nat.reduceAdd, Nat.reduceMul, Nat.reduceEqDiff, reduceCtorEq, b6_C19, hd])) | (refine AM.drawW_fine hp (by kernel_rfl) (by kernel_rfl) ?_; simp (disch := first | omega | (simp only [AM.DB, List.length_set, List.length_map]; done) | (simp only [AM.DB, List.length_set, List.length_map]; omega)) only [AM.RB, Nat.reduceAdd, Nat.reduceMul, Nat.reduceEqDiff, reduceCtorEq, b6_C19]) | (refine AM.opW_tied (by kernel_rfl) ?_; simp (disch := first | omega | (simp only [AM.DB, List.length_set, List.length_map]; done) | (simp only [AM.DB, List.length_set, List.length_map]; omega)) only [AM.RB, Nat.reduceAdd, Nat.reduceMul, Nat.reduceEqDiff, reduceCtorEq, b6_C19]) | (refine AM.opW_untied (by kernel_rfl) ?_; simp (disch := first | omega | (simp only [AM.DB, List.length_set, List.length_map]; done) | (simp only [AM.DB, List.length_set, List.length_map]; omega)) only [AM.RB, Nat.reduceAdd, Nat.reduceMul, Nat.reduceEqDiff, reduceCtorEq, b6_C19]) | (refine AM.build_w ?_; simp (disch := first | omega | (simp only [AM.DB, List.length_set, List.length_map]; done) | (simp only [AM.DB, List.length_set, List.length_map]; omega)) only [AM.RB, Nat.reduceAdd, Nat.reduceMul, Nat.reduceEqDiff, reduceCtorEq, b6_C19])))
    refine same_w (ho6.fr0 fr7).rd rfl ho7.rd rfl (by omega) ?_
    rw [hdL]
    (first | (simp (disch := first | omega | (simp only [AM.DB, List.length_set, List.length_map]; done) | (simp only [AM.DB, List.length_set, List.length_map]; omega)) only [AM.RB, Nat.reduceAdd, Nat.reduceMul, Nat.reduceEqDiff, reduceCtorEq, b6_C19]) | skip); (repeat' (first | (refine AM.guard_spl ?_ ?_ <;> (intro hd hp_; simp (disch := first | omega | (simp only [AM.DB, List.length_set, List.length_map]; done) | (simp only [AM.DB, List.length_set, List.length_map]; omega)) only [AM.RB, Nat.reduceAdd, Nat.reduceMul, Nat.reduceEqDiff, reduceCtorEq, b6_C19, hd])) | (refine AM.cond_spl ?_ ?_ <;> (intro hd hp_; simp (disch := first | omega | (simp only [AM.DB, List.length_set, List.length_map]; done) | (simp only [AM.DB, List.length_set, List.length_map]; omega)) only [AM.RB, Nat.reduceAdd, Nat.reduceMul, Nat.reduceEqDiff, reduceCtorEq, b6_C19, hd])) | (refine AM.guard_b ?_ ?_ <;> (intro hd hp_; simp (disch := first | omega | (simp only [AM.DB, List.length_set, List.length_map]; done) | (simp only [AM.DB, List.length_set, List.length_map]; omega)) only [AM.RB, Nat.reduceAdd, Nat.reduceMul, Nat.reduceEqDiff, reduceCtorEq, b6_C19, hd])) | (refine AM.cond_b ?_ ?_ <;> (intro hd hp_; simp (disch := first | omega | (simp only [AM.DB, List.length_set, List.length_map]; done) | (simp only [AM.DB, List.length_set, List.length_map]; omega)) only [AM.RB, Nat.reduceAdd, Nat.reduceMul, Nat.reduceEqDiff, reduceCtorEq, b6_C19, hd])) | (refine AM.drawW_fine hp (by kernel_rfl) (by kernel_rfl) ?_; simp (disch := first | omega | (simp only [AM.DB, List.length_set, List.length_map]; done) | (simp only [AM.DB, List.length_set, List.length_map]; omega)) only [AM.RB, Nat.reduceAdd, Nat.reduceMul, Nat.reduceEqDiff, reduceCtorEq, b6_C19]) | (refine AM.opW_tied (by kernel_rfl) ?_; simp (disch := first | omega | (simp only [AM.DB, List.length_set, List.length_map]; done) | (simp only [AM.DB, List.length_set, List.length_map]; omega)) only [AM.RB, Nat.reduceAdd, Nat.reduceMul, Nat.reduceEqDiff, reduceCtorEq, b6_C19]) | (refine AM.opW_untied (by kernel_rfl) ?_; simp (disch := first | omega | (simp only [AM.DB, List.length_set, List.length_map]; done) | (simp only [AM.DB, List.length_set, List.length_map]; omega)) only [AM.RB, Nat.reduceAdd, Nat.reduceMul, Nat.reduceEqDiff, reduceCtorEq, b6_C19]) | (refine AM.build_w ?_; simp (disch := first | omega | (simp only [AM.DB, List.length_set, List.length_map]; done) | (simp only [AM.DB, List.length_set, List.length_map]; omega)) only [AM.RB, Nat.reduceAdd, Nat.reduceMul, Nat.reduceEqDiff, reduceCtorEq, b6_C19])))
    refine all_w ((hc5.fr0 fr6).fr0 fr7) (by omega) ((hl5.fr0 fr6).fr0 fr7) fun w8 h8 ho8 fr8 _ => ?_
    (first | (simp (disch := first | omega | (simp only [AM.DB, List.length_set, List.length_map]; done) | (simp only [AM.DB, List.length_set, List.length_map]; omega)) only [AM.RB, Nat.reduceAdd, Nat.reduceMul, Nat.reduceEqDiff, reduceCtorEq, b6_C19]) | skip); (repeat' (first | (refine AM.guard_spl ?_ ?_ <;> (intro hd hp_; simp (disch := first | omega | (simp only [AM.DB, List.length_set, List.length_map]; done) | (simp only [AM.DB, List.length_set, List.length_map]; omega)) only [AM.RB, Nat.reduceAdd, Nat.reduceMul, Nat.reduceEqDiff, reduceCtorEq, b6_C19, hd])) | (refine AM.cond_spl ?_ ?_ <;> (intro hd hp_; simp (disch := first | omega | (simp only [AM.DB, List.length_set, List.length_map]; done) | (simp only [AM.DB, List.length_set, List.length_map]; omega)) only [AM.RB, Nat.reduceAdd, Nat.reduceMul, Nat.reduceEqDiff, reduceCtorEq, b6_C19, hd])) | (refine AM.guard_b ?_ ?_ <;> (intro hd hp_; simp (disch := first | omega | (simp only [AM.DB, List.length_set, List.length_map]; done) | (simp only [AM.DB, List.length_set, List.length_map]; omega)) only [AM.RB, Nat.reduceAdd, Nat.reduceMul, Nat.reduceEqDiff, reduceCtorEq, b6_C19, hd])) | (refine AM.cond_b ?_ ?_ <;> (intro hd hp_; simp (disch := first | omega | (simp only [AM.DB, List.length_set, List.length_map]; done) | (simp only [AM.DB, List.length_set, List.length_map]; omega)) only [AM.RB, Nat.reduceAdd, Nat.reduceMul, Nat.reduceEqDiff, reduceCtorEq, b6_C19, hd])) | (refine AM.drawW_fine hp (by kernel_rfl) (by kernel_rfl) ?_; simp (disch := first | omega | (simp only [AM.DB, List.length_set, List.length_map]; done) | (simp only [AM.DB, List.length_set, List.length_map]; omega)) only [AM.RB, Nat.reduceAdd, Nat.reduceMul, Nat.reduceEqDiff, reduceCtorEq, b6_C19]) | (refine AM.opW_tied (by kernel_rfl) ?_; simp (disch := first | omega | (simp only [AM.DB, List.length_set, List.length_map]; done) | (simp only [AM.DB, List.length_set, List.length_map]; omega)) only [AM.RB, Nat.reduceAdd, Nat.reduceMul, Nat.reduceEqDiff, reduceCtorEq, b6_C19]) | (refine AM.opW_untied (by kernel_rfl) ?_; simp (disch := first | omega | (simp only [AM.DB, List.length_set, List.length_map]; done) | (simp only [AM.DB, List.length_set, List.length_map]; omega)) only [AM.RB, Nat.reduceAdd, Nat.reduceMul, Nat.reduceEqDiff, reduceCtorEq, b6_C19]) | (refine AM.build_w ?_; simp (disch := first | omega | (simp only [AM.DB, List.length_set, List.length_map]; done) | (simp only [AM.DB, List.length_set, List.length_map]; omega)) only [AM.RB, Nat.reduceAdd, Nat.reduceMul, Nat.reduceEqDiff, reduceCtorEq, b6_C19])))
    refine all_w (((hcc.fr0 fr6).fr0 fr7).fr0 fr8) (by omega) (((hl5.fr0 fr6).fr0 fr7).fr0 fr8) fun w9 h9 ho9 fr9 _ => ?_
    (first | (simp (disch := first | omega | (simp only [AM.DB, List.length_set, List.length_map]; done) | (simp only [AM.DB, List.length_set, List.length_map]; omega)) only [AM.RB, Nat.reduceAdd, Nat.reduceMul, Nat.reduceEqDiff, reduceCtorEq, b6_C19]) | skip); (repeat' (first | (refine AM.guard_spl ?_ ?_ <;> (intro hd hp_; simp (disch := first | omega | (simp only [AM.DB, List.length_set, List.length_map]; done) | (simp only [AM.DB, List.length_set, List.length_map]; omega)) only [AM.RB, Nat.reduceAdd, Nat.reduceMul, Nat.reduceEqDiff, reduceCtorEq, b6_C19, hd])) | (refine AM.cond_spl ?_ ?_ <;> (intro hd hp_; simp (disch := first | omega | (simp only [AM.DB, List.length_set, List.length_map]; done) | (simp only [AM.DB, List.length_set, List.length_map]; omega)) only [AM.RB, Nat.reduceAdd, Nat.reduceMul, Nat.reduceEqDiff, reduceCtorEq, b6_C19, hd])) | (refine AM.guard_b ?_ ?_ <;> (intro hd hp_; simp (disch := first | omega | (simp only [AM.DB, List.length_set, List.length_map]; done) | (simp only [AM.DB, List.length_set, List.length_map]; omega)) only [AM.RB, Nat.reduceAdd, Nat.reduceMul, Nat.reduceEqDiff, reduceCtorEq, b6_C19, hd])) | (refine AM.cond_b ?_ ?_ <;> (intro hd hp_; simp (disch := first | omega | (simp only [AM.DB, List.length_set, List.length_map]; done) | (simp only [AM.DB, List.length_set, List.length_map]; omega)) only [AM.RB, Nat.reduceAdd, Nat.reduceMul, Nat.reduceEqDiff, reduceCtorEq, b6_C19, hd])) | (refine AM.drawW_fine hp (by kernel_rfl) (by kernel_rfl) ?_; simp (disch := first | omega | (simp only [AM.DB, List.length_set, List.length_map]; done) | (simp only [AM.DB, List.length_set, List.length_map]; omega)) only [AM.RB, Nat.reduceAdd, Nat.reduceMul, Nat.reduceEqDiff, reduceCtorEq, b6_C19]) | (refine AM.opW_tied (by kernel_rfl) ?_; simp (disch := first | omega | (simp only [AM.DB, List.length_set, List.length_map]; done) | (simp only [AM.DB, List.length_set, List.length_map]; omega)) only [AM.RB, Nat.reduceAdd, Nat.reduceMul, Nat.reduceEqDiff, reduceCtorEq, b6_C19]) | (refine AM.opW_untied (by kernel_rfl) ?_; simp (disch := first | omega | (simp only [AM.DB, List.length_set, List.length_map]; done) | (simp only [AM.DB, List.length_set, List.length_map]; omega)) only [AM.RB, Nat.reduceAdd, Nat.reduceMul, Nat.reduceEqDiff, reduceCtorEq, b6_C19]) | (refine AM.build_w ?_; simp (disch := first | omega | (simp only [AM.DB, List.length_set, List.length_map]; done) | (simp only [AM.DB, List.length_set, List.length_map]; omega)) only [AM.RB, Nat.reduceAdd, Nat.reduceMul, Nat.reduceEqDiff, reduceCtorEq, b6_C19])))
    refine same_w (ho8.fr0 fr9).rd rfl ho9.rd rfl (by omega) ?_
    rw [hdL]
    (first | (simp (disch := first | omega | (simp only [AM.DB, List.length_set, List.length_map]; done) | (simp only [AM.DB, List.length_set, List.length_map]; omega)) only [AM.RB, Nat.reduceAdd, Nat.reduceMul, Nat.reduceEqDiff, reduceCtorEq, b6_C19]) | skip); (repeat' (first | (refine AM.guard_spl ?_ ?_ <;> (intro hd hp_; simp (disch := first | omega | (simp only [AM.DB, List.length_set, List.length_map]; done) | (simp only [AM.DB, List.length_set, List.length_map]; omega)) only [AM.RB, Nat.reduceAdd, Nat.reduceMul, Nat.reduceEqDiff, reduceCtorEq, b6_C19, hd])) | (refine AM.cond_spl ?_ ?_ <;> (intro hd hp_; simp (disch := first | omega | (simp only [AM.DB, List.length_set, List.length_map]; done) | (simp only [AM.DB, List.length_set, List.length_map]; omega)) only [AM.RB, Nat.reduceAdd, Nat.reduceMul, Nat.reduceEqDiff, reduceCtorEq, b6_C19, hd])) | (refine AM.guard_b ?_ ?_ <;> (intro hd hp_; simp (disch := first | omega | (simp only [AM.DB, List.length_set, List.length_map]; done) | (simp only [AM.DB, List.length_set, List.length_map]; omega)) only [AM.RB, Nat.reduceAdd, Nat.reduceMul, Nat.reduceEqDiff, reduceCtorEq, b6_C19, hd])) | (refine AM.cond_b ?_ ?_ <;> (intro hd hp_; simp (disch := first | omega | (simp only [AM.DB, List.length_set, List.length_map]; done) | (simp only [AM.DB, List.length_set, List.length_map]; omega)) only [AM.RB, Nat.reduceAdd, Nat.reduceMul, Nat.reduceEqDiff, reduceCtorEq, b6_C19, hd])) | (refine AM.drawW_fine hp (by kernel_rfl) (by kernel_rfl) ?_; simp (disch := first | omega | (simp only [AM.DB, List.length_set, List.length_map]; done) | (simp only [AM.DB, List.length_set, List.length_map]; omega)) only [AM.RB, Nat.reduceAdd, Nat.reduceMul, Nat.reduceEqDiff, reduceCtorEq, b6_C19]) | (refine AM.opW_tied (by kernel_rfl) ?_; simp (disch := first | omega | (simp only [AM.DB, List.length_set, List.length_map]; done) | (simp only [AM.DB, List.length_set, List.length_map]; omega)) only [AM.RB, Nat.reduceAdd, Nat.reduceMul, Nat.reduceEqDiff, reduceCtorEq, b6_C19]) | (refine AM.opW_untied (by kernel_rfl) ?_; simp (disch := first | omega | (simp only [AM.DB, List.length_set, List.length_map]; done) | (simp only [AM.DB, List.length_set, List.length_map]; omega)) only [AM.RB, Nat.reduceAdd, Nat.reduceMul, Nat.reduceEqDiff, reduceCtorEq, b6_C19]) | (refine AM.build_w ?_; simp (disch := first | omega | (simp only [AM.DB, List.length_set, List.length_map]; done) | (simp only [AM.DB, List.length_set, List.length_map]; omega)) only [AM.RB, Nat.reduceAdd, Nat.reduceMul, Nat.reduceEqDiff, reduceCtorEq, b6_C19])))

end Go.Proofs.Ytiigibhnjobcaaa
