/- A text of this claim: walks, or plain law. -/
import Derived.Test.YtiigibhnjobcaaaC3
set_option linter.unusedSimpArgs false
set_option linter.unusedVariables false
namespace Go.Proofs.Ytiigibhnjobcaaa
open Go.AM
theorem b13_C4 : type_of% (And.intro (@AM.alK_some) (And.intro (@al_53) (And.intro (@AM.bdV_some) (And.intro (@bd_37) (And.intro (@bd_45) (And.intro (@AM.bin_add) (And.intro (@AM.bin_gtr) (And.intro (@AM.bin_lss) (And.intro (@AM.bin_neq) (And.intro (@AM.bin_or) (And.intro (@AM.bin_shl) (And.intro (@AM.boxK_agg) (And.intro (@AM.boxK_bool) (And.intro (@AM.boxK_func) (And.intro (@AM.boxK_int) (And.intro (@AM.boxK_map) (And.intro (@AM.boxK_pointer) (And.intro (@AM.boxK_slice) (And.intro (@AM.boxK_string) (And.intro (AM.bsW_agg bs_31) (And.intro (AM.bsW_nil bs_31) (And.intro (AM.cv_int ul_5 ul_38) (And.intro (@AM.ex_tuple) (And.intro (@AM.fa_ptr) (And.intro (@fd_37_0) (And.intro (@fd_53_0) (And.intro (@fd_53_1) (And.intro (@fd_53_2) (And.intro (@AM.fillL_cons) (And.intro (@AM.fillL_nil) (And.intro (@AM.fillS_agg) (And.intro (@AM.fillS_bool) (And.intro (@AM.fillS_func) (And.intro (@AM.fillS_int) (And.intro (@AM.fillS_map) (And.intro (@AM.fillS_pointer) (And.intro (@AM.fillS_slice) (And.intro (@AM.fillS_string) (And.intro (@AM.iaO_ok) (And.intro (AM.ia_slice el_22) (And.intro (AM.ia_slice el_51) (And.intro (@AM.ldO_agg) (And.intro (@AM.ldO_one) (And.intro (@AM.ld_ptr) (And.intro (AM.len_slice ul_22) (And.intro (AM.len_slice ul_31) (And.intro (AM.len_slice ul_51) (And.intro (@lk_3) (And.intro (@lk_31) (And.intro (@lk_5) (And.intro (@lk_51) (And.intro (@lk_53) (And.intro (@AM.op_alloc) (And.intro (@AM.op_binOp) (And.intro (@AM.op_box) (And.intro (@AM.op_build) (And.intro (@AM.op_buildSlice) (And.intro (@AM.op_call) (And.intro (@AM.op_convert) (And.intro (@AM.op_extract) (And.intro (@AM.op_fieldAddr) (And.intro (@AM.op_indexAddr) (And.intro (@AM.op_len) (And.intro (@AM.op_load) (And.intro (@AM.op_lookup) (And.intro (@AM.op_makeMap0) (And.intro (@AM.op_mapUpdate) (And.intro (@AM.op_nilCheck) (And.intro (@AM.op_store) (And.intro (@AM.op_unOp) (And.intro (@AM.resL_two) (And.intro (@AM.stO_agg) (And.intro (@AM.stO_bool) (And.intro (@AM.stO_int) (And.intro (@AM.stO_map) (And.intro (@AM.stO_pointer) (And.intro (@AM.stO_slice) (And.intro (@AM.stO_string) (And.intro (@AM.st_ptr) (And.intro (@sz_31) (And.intro (@sz_53) (And.intro (@AM.un_neg) (@AM.un_not))))))))))))))))))))))))))))))))))))))))))))))))))))))))))))))))))))))))))))))))))) := And.intro (@AM.alK_some) (And.intro (@al_53) (And.intro (@AM.bdV_some) (And.intro (@bd_37) (And.intro (@bd_45) (And.intro (@AM.bin_add) (And.intro (@AM.bin_gtr) (And.intro (@AM.bin_lss) (And.intro (@AM.bin_neq) (And.intro (@AM.bin_or) (And.intro (@AM.bin_shl) (And.intro (@AM.boxK_agg) (And.intro (@AM.boxK_bool) (And.intro (@AM.boxK_func) (And.intro (@AM.boxK_int) (And.intro (@AM.boxK_map) (And.intro (@AM.boxK_pointer) (And.intro (@AM.boxK_slice) (And.intro (@AM.boxK_string) (And.intro (AM.bsW_agg bs_31) (And.intro (AM.bsW_nil bs_31) (And.intro (AM.cv_int ul_5 ul_38) (And.intro (@AM.ex_tuple) (And.intro (@AM.fa_ptr) (And.intro (@fd_37_0) (And.intro (@fd_53_0) (And.intro (@fd_53_1) (And.intro (@fd_53_2) (And.intro (@AM.fillL_cons) (And.intro (@AM.fillL_nil) (And.intro (@AM.fillS_agg) (And.intro (@AM.fillS_bool) (And.intro (@AM.fillS_func) (And.intro (@AM.fillS_int) (And.intro (@AM.fillS_map) (And.intro (@AM.fillS_pointer) (And.intro (@AM.fillS_slice) (And.intro (@AM.fillS_string) (And.intro (@AM.iaO_ok) (And.intro (AM.ia_slice el_22) (And.intro (AM.ia_slice el_51) (And.intro (@AM.ldO_agg) (And.intro (@AM.ldO_one) (And.intro (@AM.ld_ptr) (And.intro (AM.len_slice ul_22) (And.intro (AM.len_slice ul_31) (And.intro (AM.len_slice ul_51) (And.intro (@lk_3) (And.intro (@lk_31) (And.intro (@lk_5) (And.intro (@lk_51) (And.intro (@lk_53) (And.intro (@AM.op_alloc) (And.intro (@AM.op_binOp) (And.intro (@AM.op_box) (And.intro (@AM.op_build) (And.intro (@AM.op_buildSlice) (And.intro (@AM.op_call) (And.intro (@AM.op_convert) (And.intro (@AM.op_extract) (And.intro (@AM.op_fieldAddr) (And.intro (@AM.op_indexAddr) (And.intro (@AM.op_len) (And.intro (@AM.op_load) (And.intro (@AM.op_lookup) (And.intro (@AM.op_makeMap0) (And.intro (@AM.op_mapUpdate) (And.intro (@AM.op_nilCheck) (And.intro (@AM.op_store) (And.intro (@AM.op_unOp) (And.intro (@AM.resL_two) (And.intro (@AM.stO_agg) (And.intro (@AM.stO_bool) (And.intro (@AM.stO_int) (And.intro (@AM.stO_map) (And.intro (@AM.stO_pointer) (And.intro (@AM.stO_slice) (And.intro (@AM.stO_string) (And.intro (@AM.st_ptr) (And.intro (@sz_31) (And.intro (@sz_53) (And.intro (@AM.un_neg) (@AM.un_not))))))))))))))))))))))))))))))))))))))))))))))))))))))))))))))))))))))))))))))))))


theorem genB_take (bs : List Int) (k : Nat) (hk : k < bs.length) : genB (bs.take (k + 1)) = genB (bs.take k) * 256 + bs.getD k 0 := by
  unfold genB
  rw [List.take_add_one, List.foldl_append]
  have : bs[k]? = some (bs.getD k 0) := by simp [List.getD, hk]
  rw [this]; rfl
theorem genB_bound (bs : List Int) (hb : ∀ b ∈ bs, 0 ≤ b ∧ b < 256) (k : Nat) (hk : k ≤ bs.length) : 0 ≤ genB (bs.take k) ∧ genB (bs.take k) < 256 ^ k := by
  induction k with
  | zero => simp [genB]
  | succ k ih =>
    have h := ih (by omega)
    rw [genB_take bs k (by omega), Int.pow_succ]
    have := hb (bs.getD k 0) (by simp [List.getD, show k < bs.length by omega])
    omega

theorem cnt_le (l : List Rec) (i : Nat) (x : Int) : cnt l i x ≤ i := by
  induction i with
  | zero => exact Nat.le_refl _
  | succ i ih => unfold cnt; split <;> omega
theorem cnt_succ (l : List Rec) (i : Nat) (x : Int) : cnt l (i + 1) x = cnt l i x + if (l.getD i dR).1 = 2 ∧ (l.getD i dR).2.1 = x then 1 else 0 := rfl
theorem cnt_other {l : List Rec} {i : Nat} (h : (l.getD i dR).1 ≠ 2) (x : Int) : cnt l (i + 1) x = cnt l i x := by
  rw [cnt_succ, if_neg (fun q => h q.1)]; rfl

theorem prim_ins : prims 53 = some (pInsert Try.prog 45) := if_pos rfl
theorem Cl.putIns {h5 h6 : AHeap} {p : Nat} {v v' : Value} {L L' : List Cm} (hc : Cl h5 p v L) (how : Ow h6 45 2 v' L'.length (L'.flatMap encC)) (hcp : capPos v') (fr : Fr (idOf v) h5 h6) (hid : ∀ id, idOf v' id → idOf v id ∨ h5.next ≤ id) :
    h6.get p = some (.cells [v] 37 false) ∧ Cl (h6.put p (some (.cells [v'] 37 false))) p v' L' := by
  have hg := fr.get hc.1 hc.2.2.2.2
  have hlt := AM.get_some_lt hc.1
  have hlt6 := AM.get_some_lt hg
  have hne : ∀ id, idOf v' id → id ≠ p := fun id q e => by
    subst e
    rcases hid _ q with q | q
    · exact hc.2.2.2.2 q
    · omega
  refine ⟨hg, AM.get_put_self rfl hlt6, how.same (fun id q => AM.get_put_ne (hne id q)) rfl, hcp, ?_, fun q => hne p q rfl⟩
  have := fr.low
  have := hc.2.2.2.1
  simp only [AM.lw_put]; omega
theorem insert_cw {h : AHeap} {v : Value} {L : List Cm} {x g : Int} {a : Addr} {Q : VQ} (ho : Ow h 45 2 v L.length (L.flatMap encC)) (hcp : capPos v) (hv : Ow h 45 2 (.slice (some a) 1 1) 1 (encC (x, g))) (hne : ∀ id, idOf v id → id ≠ a.block) (hl : h.low ≤ h.next) (hn : L.length ≤ 1000000000)
    (hq : ∀ v' h', Ow h' 45 2 v' (insC L x g).length ((insC L x g).flatMap encC) → capPos v' → Fr (idOf v) h h' → (∀ id, idOf v' id → idOf v id ∨ h.next ≤ id) → Q v' h') :
    W 53 [v, .int .i64 (posC L x : Nat), .slice (some a) 1 1] h Q := by
  refine AM.insert_w hp prim_ins insI (by omega) ho hcp hv hne (posC_le L x) hl (AM.fits (by omega) (by omega)) (AM.fits' (by omega)) (encC_one L) rfl fun v' h' h1 h2 h3 h4 => ?_
  have e := insC_enc L x g
  rw [show encC (x, g) = [.int .i64 x, .int .u32 g] from rfl, e] at h1
  rw [show L.length + 1 = (insC L x g).length from (insC_length L x g).symm] at h1
  exact hq v' h' h1 h2 h3 h4

theorem load_w {s : Value} {n : Nat} {l : List Rec} {h : AHeap} (hs : Rd h 53 3 s n (l.flatMap encR)) (hln : l.length = n) (hrec : ∀ r ∈ l, RecOk h r) (hn : n ≤ 1000000000) (hl : h.low ≤ h.next) {Q : VQ}
    (hbad : (∃ k, k < n ∧ okTo l k ∧ badR l k) → ∀ h', Fr none' h h' → Q (.tuple #[.pointer none, .int .i64 130]) h')
    (hfull : okTo l n → 16 < (clm l n).length → ∀ h', Fr none' h h' → Q (.tuple #[.pointer none, .int .i64 151]) h')
    (hok : okTo l n → (clm l n).length ≤ 16 → ∀ p v h', Cl h' p v (clm l n) → Fr none' h h' → h.next ≤ p → (∀ id, idOf v id → h.next ≤ id) → Q (.tuple #[pv p, .int .i64 0]) h') :
    W 13 [s] h Q := by
  obtain ⟨a, cap, rfl⟩ := hs.form
  refine AM.enter hp (fn := Try.f13) (rs := [.tmp 2, .tmp 3]) (nt := 99) (by kernel_rfl) Try.func13 rfl rfl rfl (by kernel_rfl) ?_
  (first | (simp (disch := first | omega | (simp only [AM.DB, List.length_set, List.length_map]; done) | (simp only [AM.DB, List.length_set, List.length_map]; omega)) only [AM.RB, Nat.reduceAdd, Nat.reduceMul, Nat.reduceEqDiff, reduceCtorEq, b13_C4]) | skip); (repeat' (first | (refine AM.drawW_fine hp (by kernel_rfl) (by kernel_rfl) ?_; simp (disch := first | omega | (simp only [AM.DB, List.length_set, List.length_map]; done) | (simp only [AM.DB, List.length_set, List.length_map]; omega)) only [AM.RB, Nat.reduceAdd, Nat.reduceMul, Nat.reduceEqDiff, reduceCtorEq, b13_C4]) | (refine AM.opW_tied (by kernel_rfl) ?_; simp (disch := first | omega | (simp only [AM.DB, List.length_set, List.length_map]; done) | (simp only [AM.DB, List.length_set, List.length_map]; omega)) only [AM.RB, Nat.reduceAdd, Nat.reduceMul, Nat.reduceEqDiff, reduceCtorEq, b13_C4]) | (refine AM.opW_untied (by kernel_rfl) ?_; simp (disch := first | omega | (simp only [AM.DB, List.length_set, List.length_map]; done) | (simp only [AM.DB, List.length_set, List.length_map]; omega)) only [AM.RB, Nat.reduceAdd, Nat.reduceMul, Nat.reduceEqDiff, reduceCtorEq, b13_C4]) | (refine AM.build_w ?_; simp (disch := first | omega | (simp only [AM.DB, List.length_set, List.length_map]; done) | (simp only [AM.DB, List.length_set, List.length_map]; omega)) only [AM.RB, Nat.reduceAdd, Nat.reduceMul, Nat.reduceEqDiff, reduceCtorEq, b13_C4])))
  refine AM.loop_w hp 99 (fun i : Nat => [(0, .slice a n cap), (4, pv h.next), (5, .map (some (h.next + 1))), (16, .slice a n cap), (17, .int .i64 n), (18, .int .i64 i)])
    (fun i h' => i ≤ n ∧ Fr none' h h' ∧ okTo l i ∧ (∃ v, Cl h' h.next v (clm l i) ∧ ∀ id, idOf v id → h.next + 1 < id) ∧ ∃ M, h'.get (h.next + 1) = some (.map (encM M)) ∧ ∀ x, (mgetL M x).getD (.int .i64 0) = .int .i64 (cnt l i x)) (fun i => n - i) (by kernel_rfl) 0 ?_ ?_ ?_
  · simp (disch := first | omega | (simp only [AM.DB, List.length_set, List.length_map]; done) | (simp only [AM.DB, List.length_set, List.length_map]; omega)) only [AM.RB, Nat.reduceAdd, Nat.reduceMul, Nat.reduceEqDiff, reduceCtorEq, b13_C4]
  · refine ⟨Nat.zero_le _, ((Fr.refl _ _).alloc _).alloc _, fun k hk => by omega, ⟨.slice none 0 0, ⟨?_, Ow.nil _ _ _, trivial, hl, fun q => q⟩, fun _ q => q.elim⟩, [], ?_, fun x => rfl⟩
    · simp (disch := first | omega | (simp only [AM.DB, List.length_set, List.length_map]; done) | (simp only [AM.DB, List.length_set, List.length_map]; omega)) only [AM.RB, Nat.reduceAdd, Nat.reduceMul, Nat.reduceEqDiff, reduceCtorEq, b13_C4]
    · simp (disch := first | omega | (simp only [AM.DB, List.length_set, List.length_map]; done) | (simp only [AM.DB, List.length_set, List.length_map]; omega)) only [AM.RB, Nat.reduceAdd, Nat.reduceMul, Nat.reduceEqDiff, reduceCtorEq, b13_C4]
      rfl
  rintro i h1 ρ ⟨hi, fr, hto, ⟨v, hc, hv⟩, M, hM, hcnt⟩
  have hs1 := hs.fr0 fr
  have hl1 := fr.hl hl
  have hlow := fr.low
  have hlt1 := AM.get_some_lt hM
  have hlt0 := AM.get_some_lt hc.1
  (first | (simp (disch := first | omega | (simp only [AM.DB, List.length_set, List.length_map]; done) | (simp only [AM.DB, List.length_set, List.length_map]; omega)) only [AM.RB, Nat.reduceAdd, Nat.reduceMul, Nat.reduceEqDiff, reduceCtorEq, b13_C4]) | skip); (repeat' (first | (refine AM.drawW_fine hp (by kernel_rfl) (by kernel_rfl) ?_; simp (disch := first | omega | (simp only [AM.DB, List.length_set, List.length_map]; done) | (simp only [AM.DB, List.length_set, List.length_map]; omega)) only [AM.RB, Nat.reduceAdd, Nat.reduceMul, Nat.reduceEqDiff, reduceCtorEq, b13_C4]) | (refine AM.opW_tied (by kernel_rfl) ?_; simp (disch := first | omega | (simp only [AM.DB, List.length_set, List.length_map]; done) | (simp only [AM.DB, List.length_set, List.length_map]; omega)) only [AM.RB, Nat.reduceAdd, Nat.reduceMul, Nat.reduceEqDiff, reduceCtorEq, b13_C4]) | (refine AM.opW_untied (by kernel_rfl) ?_; simp (disch := first | omega | (simp only [AM.DB, List.length_set, List.length_map]; done) | (simp only [AM.DB, List.length_set, List.length_map]; omega)) only [AM.RB, Nat.reduceAdd, Nat.reduceMul, Nat.reduceEqDiff, reduceCtorEq, b13_C4]) | (refine AM.build_w ?_; simp (disch := first | omega | (simp only [AM.DB, List.length_set, List.length_map]; done) | (simp only [AM.DB, List.length_set, List.length_map]; omega)) only [AM.RB, Nat.reduceAdd, Nat.reduceMul, Nat.reduceEqDiff, reduceCtorEq, b13_C4])))
  refine AM.condV_split (fun hlt => ?_) (fun hlt => ?_)
  · obtain ⟨r, hr⟩ : ∃ r, l.getD i dR = r := ⟨_, rfl⟩
    have hri : r ∈ l := by rw [← hr]; simp [List.getD, show i < l.length by omega]
    obtain ⟨⟨ra, rc, hra⟩, hrd, hby⟩ := hrec r hri
    have hrd1 := hrd.fr0 fr
    obtain ⟨kind, nn, rs, bs⟩ := r
    simp only at hra hrd hby hrd1
    subst hra
    (first | (simp (disch := first | omega | (simp only [AM.DB, List.length_set, List.length_map]; done) | (simp only [AM.DB, List.length_set, List.length_map]; omega)) only [AM.RB, Nat.reduceAdd, Nat.reduceMul, Nat.reduceEqDiff, reduceCtorEq, b13_C4, hs1.ia el_22, hs1.lds encR_len lk_53 hln dR, Int.toNat_natCast, hr, encR]) | skip); (repeat' (first | (refine AM.drawW_fine hp (by kernel_rfl) (by kernel_rfl) ?_; simp (disch := first | omega | (simp only [AM.DB, List.length_set, List.length_map]; done) | (simp only [AM.DB, List.length_set, List.length_map]; omega)) only [AM.RB, Nat.reduceAdd, Nat.reduceMul, Nat.reduceEqDiff, reduceCtorEq, b13_C4, hs1.ia el_22, hs1.lds encR_len lk_53 hln dR, Int.toNat_natCast, hr, encR]) | (refine AM.opW_tied (by kernel_rfl) ?_; simp (disch := first | omega | (simp only [AM.DB, List.length_set, List.length_map]; done) | (simp only [AM.DB, List.length_set, List.length_map]; omega)) only [AM.RB, Nat.reduceAdd, Nat.reduceMul, Nat.reduceEqDiff, reduceCtorEq, b13_C4, hs1.ia el_22, hs1.lds encR_len lk_53 hln dR, Int.toNat_natCast, hr, encR]) | (refine AM.opW_untied (by kernel_rfl) ?_; simp (disch := first | omega | (simp only [AM.DB, List.length_set, List.length_map]; done) | (simp only [AM.DB, List.length_set, List.length_map]; omega)) only [AM.RB, Nat.reduceAdd, Nat.reduceMul, Nat.reduceEqDiff, reduceCtorEq, b13_C4, hs1.ia el_22, hs1.lds encR_len lk_53 hln dR, Int.toNat_natCast, hr, encR]) | (refine AM.build_w ?_; simp (disch := first | omega | (simp only [AM.DB, List.length_set, List.length_map]; done) | (simp only [AM.DB, List.length_set, List.length_map]; omega)) only [AM.RB, Nat.reduceAdd, Nat.reduceMul, Nat.reduceEqDiff, reduceCtorEq, b13_C4, hs1.ia el_22, hs1.lds encR_len lk_53 hln dR, Int.toNat_natCast, hr, encR])))
    have fr2 : Fr none' h1 ((h1.alloc (.cells [.int .i64 0, .int .i64 0, .slice none 0 0] 53 false)).put h1.next (some (.cells [.int .i64 kind, .int .i64 nn, .slice ra bs.length rc] 53 false))) := ((Fr.refl _ _).alloc _).put _ (.inl (Nat.le_refl _))
    have g2 : ((h1.alloc (.cells [.int .i64 0, .int .i64 0, .slice none 0 0] 53 false)).put h1.next (some (.cells [.int .i64 kind, .int .i64 nn, .slice ra bs.length rc] 53 false))).get h1.next = some (.cells [.int .i64 kind, .int .i64 nn, .slice ra bs.length rc] 53 false) := by
      simp (disch := first | omega | (simp only [AM.DB, List.length_set, List.length_map]; done) | (simp only [AM.DB, List.length_set, List.length_map]; omega)) only [AM.RB, Nat.reduceAdd, Nat.reduceMul, Nat.reduceEqDiff, reduceCtorEq, b13_C4]
    generalize (h1.alloc (.cells [.int .i64 0, .int .i64 0, .slice none 0 0] 53 false)).put h1.next (some (.cells [.int .i64 kind, .int .i64 nn, .slice ra bs.length rc] 53 false)) = h2 at fr2 g2 ⊢
    have hc2 := hc.fr0 fr2
    have hM2 := fr2.get hM (fun q => q)
    have hl2 := fr2.hl hl1
    have lt2 := AM.get_some_lt g2
    have low2 := fr2.low
    refine AM.condV_split (fun hk => ?_) (fun hk => ?_)
    · subst hk
      have hcl := cnt_le l i nn
      (first | (simp (disch := first | omega | (simp only [AM.DB, List.length_set, List.length_map]; done) | (simp only [AM.DB, List.length_set, List.length_map]; omega)) only [AM.RB, Nat.reduceAdd, Nat.reduceMul, Nat.reduceEqDiff, reduceCtorEq, b13_C4, g2, AM.lookup_enc mp_49 hM2, hcnt, AM.update_enc mp_49 hM2 (by omega), AM.wrap_i64]) | skip); (repeat' (first | (refine AM.drawW_fine hp (by kernel_rfl) (by kernel_rfl) ?_; simp (disch := first | omega | (simp only [AM.DB, List.length_set, List.length_map]; done) | (simp only [AM.DB, List.length_set, List.length_map]; omega)) only [AM.RB, Nat.reduceAdd, Nat.reduceMul, Nat.reduceEqDiff, reduceCtorEq, b13_C4, g2, AM.lookup_enc mp_49 hM2, hcnt, AM.update_enc mp_49 hM2 (by omega), AM.wrap_i64]) | (refine AM.opW_tied (by kernel_rfl) ?_; simp (disch := first | omega | (simp only [AM.DB, List.length_set, List.length_map]; done) | (simp only [AM.DB, List.length_set, List.length_map]; omega)) only [AM.RB, Nat.reduceAdd, Nat.reduceMul, Nat.reduceEqDiff, reduceCtorEq, b13_C4, g2, AM.lookup_enc mp_49 hM2, hcnt, AM.update_enc mp_49 hM2 (by omega), AM.wrap_i64]) | (refine AM.opW_untied (by kernel_rfl) ?_; simp (disch := first | omega | (simp only [AM.DB, List.length_set, List.length_map]; done) | (simp only [AM.DB, List.length_set, List.length_map]; omega)) only [AM.RB, Nat.reduceAdd, Nat.reduceMul, Nat.reduceEqDiff, reduceCtorEq, b13_C4, g2, AM.lookup_enc mp_49 hM2, hcnt, AM.update_enc mp_49 hM2 (by omega), AM.wrap_i64]) | (refine AM.build_w ?_; simp (disch := first | omega | (simp only [AM.DB, List.length_set, List.length_map]; done) | (simp only [AM.DB, List.length_set, List.length_map]; omega)) only [AM.RB, Nat.reduceAdd, Nat.reduceMul, Nat.reduceEqDiff, reduceCtorEq, b13_C4, g2, AM.lookup_enc mp_49 hM2, hcnt, AM.update_enc mp_49 hM2 (by omega), AM.wrap_i64])))
      have fr3 : Fr none' h (h2.put (h.next + 1) (some (.map (encM (msetL M nn (.int .i64 ((cnt l i nn : Int) + 1))))))) := (fr.trans fr2).put _ (.inl (by omega))
      have hM3 : (h2.put (h.next + 1) (some (.map (encM (msetL M nn (.int .i64 ((cnt l i nn : Int) + 1))))))).get (h.next + 1) = some (.map (encM (msetL M nn (.int .i64 ((cnt l i nn : Int) + 1))))) := AM.get_put_self rfl (by omega)
      have g3 : (h2.put (h.next + 1) (some (.map (encM (msetL M nn (.int .i64 ((cnt l i nn : Int) + 1))))))).get h1.next = some (.cells [.int .i64 2, .int .i64 nn, .slice ra bs.length rc] 53 false) := by rw [AM.get_put_ne (by omega)]; exact g2
      have hc3 : Cl (h2.put (h.next + 1) (some (.map (encM (msetL M nn (.int .i64 ((cnt l i nn : Int) + 1))))))) h.next v (clm l i) := hc2.fr ((Fr.refl (fun id => id = h.next + 1) _).put _ (.inr rfl)) (by omega) (fun id q e => by have := hv id q; omega)
      have hcnt3 : ∀ x, (mgetL (msetL M nn (.int .i64 ((cnt l i nn : Int) + 1))) x).getD (.int .i64 0) = .int .i64 (cnt l (i + 1) x) := by
        intro x
        rw [AM.mget_set, cnt_succ, hr]
        by_cases e : x = nn
        · subst e; rw [if_pos rfl, if_pos ⟨rfl, rfl⟩]; simp
        · rw [if_neg e, if_neg (fun q => e q.2.symm)]; exact hcnt x
      generalize h2.put (h.next + 1) (some (.map (encM (msetL M nn (.int .i64 ((cnt l i nn : Int) + 1)))))) = h3 at fr3 hM3 g3 hc3 ⊢
      generalize msetL M nn (.int .i64 ((cnt l i nn : Int) + 1)) = M3 at hM3 hcnt3
      clear hM2 hc2 g2 hcnt hM hc
      have lt3 := AM.get_some_lt g3
      have hlo3 := fr3.low
      have hrd3 := hrd.fr0 fr3
      refine known_w nn _ _ ?_
      have hbi : badR l i ↔ (¬ (0 ≤ nn ∧ nn < 1024) ∨ (bs.length ≠ 0 ∧ bs.length ≠ 4) ∨ 1 ≤ cnt l i nn) := by
        unfold badR; rw [hr]; exact ⟨fun q => q.2, fun q => ⟨rfl, q⟩⟩
      have hci : cnt l (i + 1) nn = cnt l i nn + 1 := by
        rw [cnt_succ, hr, if_pos ⟨rfl, rfl⟩]
      (first | (simp (disch := first | omega | (simp only [AM.DB, List.length_set, List.length_map]; done) | (simp only [AM.DB, List.length_set, List.length_map]; omega)) only [AM.RB, Nat.reduceAdd, Nat.reduceMul, Nat.reduceEqDiff, reduceCtorEq, b13_C4, g3, AM.lookup_enc mp_49 hM3, hcnt3]) | skip); (repeat' (first | (refine AM.guard_spl ?_ ?_ <;> (intro hd hp_; simp (disch := first | omega | (simp only [AM.DB, List.length_set, List.length_map]; done) | (simp only [AM.DB, List.length_set, List.length_map]; omega)) only [AM.RB, Nat.reduceAdd, Nat.reduceMul, Nat.reduceEqDiff, reduceCtorEq, b13_C4, hd, g3, AM.lookup_enc mp_49 hM3, hcnt3])) | (refine AM.cond_spl ?_ ?_ <;> (intro hd hp_; simp (disch := first | omega | (simp only [AM.DB, List.length_set, List.length_map]; done) | (simp only [AM.DB, List.length_set, List.length_map]; omega)) only [AM.RB, Nat.reduceAdd, Nat.reduceMul, Nat.reduceEqDiff, reduceCtorEq, b13_C4, hd, g3, AM.lookup_enc mp_49 hM3, hcnt3])) | (refine AM.guard_b ?_ ?_ <;> (intro hd hp_; simp (disch := first | omega | (simp only [AM.DB, List.length_set, List.length_map]; done) | (simp only [AM.DB, List.length_set, List.length_map]; omega)) only [AM.RB, Nat.reduceAdd, Nat.reduceMul, Nat.reduceEqDiff, reduceCtorEq, b13_C4, hd, g3, AM.lookup_enc mp_49 hM3, hcnt3])) | (refine AM.cond_b ?_ ?_ <;> (intro hd hp_; simp (disch := first | omega | (simp only [AM.DB, List.length_set, List.length_map]; done) | (simp only [AM.DB, List.length_set, List.length_map]; omega)) only [AM.RB, Nat.reduceAdd, Nat.reduceMul, Nat.reduceEqDiff, reduceCtorEq, b13_C4, hd, g3, AM.lookup_enc mp_49 hM3, hcnt3])) | (refine AM.drawW_fine hp (by kernel_rfl) (by kernel_rfl) ?_; simp (disch := first | omega | (simp only [AM.DB, List.length_set, List.length_map]; done) | (simp only [AM.DB, List.length_set, List.length_map]; omega)) only [AM.RB, Nat.reduceAdd, Nat.reduceMul, Nat.reduceEqDiff, reduceCtorEq, b13_C4, g3, AM.lookup_enc mp_49 hM3, hcnt3]) | (refine AM.opW_tied (by kernel_rfl) ?_; simp (disch := first | omega | (simp only [AM.DB, List.length_set, List.length_map]; done) | (simp only [AM.DB, List.length_set, List.length_map]; omega)) only [AM.RB, Nat.reduceAdd, Nat.reduceMul, Nat.reduceEqDiff, reduceCtorEq, b13_C4, g3, AM.lookup_enc mp_49 hM3, hcnt3]) | (refine AM.opW_untied (by kernel_rfl) ?_; simp (disch := first | omega | (simp only [AM.DB, List.length_set, List.length_map]; done) | (simp only [AM.DB, List.length_set, List.length_map]; omega)) only [AM.RB, Nat.reduceAdd, Nat.reduceMul, Nat.reduceEqDiff, reduceCtorEq, b13_C4, g3, AM.lookup_enc mp_49 hM3, hcnt3]) | (refine AM.build_w ?_; simp (disch := first | omega | (simp only [AM.DB, List.length_set, List.length_map]; done) | (simp only [AM.DB, List.length_set, List.length_map]; omega)) only [AM.RB, Nat.reduceAdd, Nat.reduceMul, Nat.reduceEqDiff, reduceCtorEq, b13_C4, g3, AM.lookup_enc mp_49 hM3, hcnt3])))
      all_goals first
        | exact hbad ⟨i, by omega, hto, hbi.2 (by omega)⟩ _ fr3
        | skip
      all_goals (
        have hnb : ¬ badR l i := by rw [hbi]; omega
        have hlen : bs.length = 0 ∨ bs.length = 4 := by omega
        have hn4 : bs.length ≤ 4 := by omega
        refine AM.loop_w hp 99 (fun k : Nat => [(0, .slice a n cap), (4, pv h.next), (5, .map (some (h.next + 1))), (7, pv h1.next), (8, .int .u32 (genB (bs.take k))), (16, .slice a n cap), (17, .int .i64 n), (18, .int .i64 i), (54, .slice ra bs.length rc), (55, .int .i64 bs.length), (56, .int .i64 k)])
          (fun k h' => h' = h3 ∧ k ≤ bs.length) (fun k => bs.length - k) (by kernel_rfl) 0 ?_ ?_ ?_
        · simp (disch := first | omega | (simp only [AM.DB, List.length_set, List.length_map]; done) | (simp only [AM.DB, List.length_set, List.length_map]; omega)) only [AM.RB, Nat.reduceAdd, Nat.reduceMul, Nat.reduceEqDiff, reduceCtorEq, b13_C4]
          rfl
        · exact ⟨rfl, Nat.zero_le _⟩
        rintro k h4 ρ2 ⟨rfl, hk4⟩
        simp (disch := first | omega | (simp only [AM.DB, List.length_set, List.length_map]; done) | (simp only [AM.DB, List.length_set, List.length_map]; omega)) only [AM.RB, Nat.reduceAdd, Nat.reduceMul, Nat.reduceEqDiff, reduceCtorEq, b13_C4]
        refine AM.condV_split (fun hlt4 => ?_) (fun hlt4 => ?_)
        · first | (exfalso; omega) | skip
          all_goals (
            have hgb := genB_bound bs hby k (by omega)
            have hbk := hby (bs.getD k 0) (by simp [List.getD, show k < bs.length by omega])
            have hpw : (256 : Int) ^ k ≤ 16777216 := by
              have : k = 0 ∨ k = 1 ∨ k = 2 ∨ k = 3 := by omega
              rcases this with rfl | rfl | rfl | rfl <;> decide
            (first | (simp (disch := first | omega | (simp only [AM.DB, List.length_set, List.length_map]; done) | (simp only [AM.DB, List.length_set, List.length_map]; omega)) only [AM.RB, Nat.reduceAdd, Nat.reduceMul, Nat.reduceEqDiff, reduceCtorEq, b13_C4, hrd3.ia el_51, hrd3.ldi lk_5, AM.bin_shl, Int.toNat_natCast, AM.wrap_i64]) | skip); (repeat' (first | (refine AM.drawW_fine hp (by kernel_rfl) (by kernel_rfl) ?_; simp (disch := first | omega | (simp only [AM.DB, List.length_set, List.length_map]; done) | (simp only [AM.DB, List.length_set, List.length_map]; omega)) only [AM.RB, Nat.reduceAdd, Nat.reduceMul, Nat.reduceEqDiff, reduceCtorEq, b13_C4, hrd3.ia el_51, hrd3.ldi lk_5, AM.bin_shl, Int.toNat_natCast, AM.wrap_i64]) | (refine AM.opW_tied (by kernel_rfl) ?_; simp (disch := first | omega | (simp only [AM.DB, List.length_set, List.length_map]; done) | (simp only [AM.DB, List.length_set, List.length_map]; omega)) only [AM.RB, Nat.reduceAdd, Nat.reduceMul, Nat.reduceEqDiff, reduceCtorEq, b13_C4, hrd3.ia el_51, hrd3.ldi lk_5, AM.bin_shl, Int.toNat_natCast, AM.wrap_i64]) | (refine AM.opW_untied (by kernel_rfl) ?_; simp (disch := first | omega | (simp only [AM.DB, List.length_set, List.length_map]; done) | (simp only [AM.DB, List.length_set, List.length_map]; omega)) only [AM.RB, Nat.reduceAdd, Nat.reduceMul, Nat.reduceEqDiff, reduceCtorEq, b13_C4, hrd3.ia el_51, hrd3.ldi lk_5, AM.bin_shl, Int.toNat_natCast, AM.wrap_i64]) | (refine AM.build_w ?_; simp (disch := first | omega | (simp only [AM.DB, List.length_set, List.length_map]; done) | (simp only [AM.DB, List.length_set, List.length_map]; omega)) only [AM.RB, Nat.reduceAdd, Nat.reduceMul, Nat.reduceEqDiff, reduceCtorEq, b13_C4, hrd3.ia el_51, hrd3.ldi lk_5, AM.bin_shl, Int.toNat_natCast, AM.wrap_i64])))
            refine ⟨k + 1, by omega, ⟨?_, by simp⟩, by omega⟩
            rw [genB_take bs k (by omega), show (2 : Int) ^ min (Int.toNat 8) IntKind.u32.bits = 256 from rfl, AM.wrap_u32 (n := genB (bs.take k) * 256) (by omega) (by omega), AM.wrap_u32 (n := bs.getD k 0) (by omega) (by omega)]
            exact congrArg _ (AM.or_u32 ⟨by omega, by omega⟩ hbk))
        · obtain rfl : k = bs.length := by omega
          have hto' : okTo l (i + 1) := fun k hk => by
            by_cases e : k = i
            · rw [e]; exact hnb
            · exact hto k (by omega)
          have hg4 := genB_bound bs hby bs.length (Nat.le_refl _)
          by_cases hz : bs.length = 0
          · try (exfalso; omega)
            all_goals (
              (first | (simp (disch := first | omega | (simp only [AM.DB, List.length_set, List.length_map]; done) | (simp only [AM.DB, List.length_set, List.length_map]; omega)) only [AM.RB, Nat.reduceAdd, Nat.reduceMul, Nat.reduceEqDiff, reduceCtorEq, b13_C4, g3, AM.wrap_i64]) | skip); (repeat' (first | (refine AM.drawW_fine hp (by kernel_rfl) (by kernel_rfl) ?_; simp (disch := first | omega | (simp only [AM.DB, List.length_set, List.length_map]; done) | (simp only [AM.DB, List.length_set, List.length_map]; omega)) only [AM.RB, Nat.reduceAdd, Nat.reduceMul, Nat.reduceEqDiff, reduceCtorEq, b13_C4, g3, AM.wrap_i64]) | (refine AM.opW_tied (by kernel_rfl) ?_; simp (disch := first | omega | (simp only [AM.DB, List.length_set, List.length_map]; done) | (simp only [AM.DB, List.length_set, List.length_map]; omega)) only [AM.RB, Nat.reduceAdd, Nat.reduceMul, Nat.reduceEqDiff, reduceCtorEq, b13_C4, g3, AM.wrap_i64]) | (refine AM.opW_untied (by kernel_rfl) ?_; simp (disch := first | omega | (simp only [AM.DB, List.length_set, List.length_map]; done) | (simp only [AM.DB, List.length_set, List.length_map]; omega)) only [AM.RB, Nat.reduceAdd, Nat.reduceMul, Nat.reduceEqDiff, reduceCtorEq, b13_C4, g3, AM.wrap_i64]) | (refine AM.build_w ?_; simp (disch := first | omega | (simp only [AM.DB, List.length_set, List.length_map]; done) | (simp only [AM.DB, List.length_set, List.length_map]; omega)) only [AM.RB, Nat.reduceAdd, Nat.reduceMul, Nat.reduceEqDiff, reduceCtorEq, b13_C4, g3, AM.wrap_i64])))
              refine AM.condV_split (fun hq1 => by omega) (fun hq1 => ?_)
              (first | (simp (disch := first | omega | (simp only [AM.DB, List.length_set, List.length_map]; done) | (simp only [AM.DB, List.length_set, List.length_map]; omega)) only [AM.RB, Nat.reduceAdd, Nat.reduceMul, Nat.reduceEqDiff, reduceCtorEq, b13_C4, AM.wrap_i64]) | skip); (repeat' (first | (refine AM.drawW_fine hp (by kernel_rfl) (by kernel_rfl) ?_; simp (disch := first | omega | (simp only [AM.DB, List.length_set, List.length_map]; done) | (simp only [AM.DB, List.length_set, List.length_map]; omega)) only [AM.RB, Nat.reduceAdd, Nat.reduceMul, Nat.reduceEqDiff, reduceCtorEq, b13_C4, AM.wrap_i64]) | (refine AM.opW_tied (by kernel_rfl) ?_; simp (disch := first | omega | (simp only [AM.DB, List.length_set, List.length_map]; done) | (simp only [AM.DB, List.length_set, List.length_map]; omega)) only [AM.RB, Nat.reduceAdd, Nat.reduceMul, Nat.reduceEqDiff, reduceCtorEq, b13_C4, AM.wrap_i64]) | (refine AM.opW_untied (by kernel_rfl) ?_; simp (disch := first | omega | (simp only [AM.DB, List.length_set, List.length_map]; done) | (simp only [AM.DB, List.length_set, List.length_map]; omega)) only [AM.RB, Nat.reduceAdd, Nat.reduceMul, Nat.reduceEqDiff, reduceCtorEq, b13_C4, AM.wrap_i64]) | (refine AM.build_w ?_; simp (disch := first | omega | (simp only [AM.DB, List.length_set, List.length_map]; done) | (simp only [AM.DB, List.length_set, List.length_map]; omega)) only [AM.RB, Nat.reduceAdd, Nat.reduceMul, Nat.reduceEqDiff, reduceCtorEq, b13_C4, AM.wrap_i64])))
              refine ⟨i + 1, by omega, by simp, by omega, fr3, hto', ⟨v, ?_, hv⟩, M3, hM3, hcnt3⟩
              rw [clm, if_neg (fun q => by rw [hr] at q; simp only at q; omega)]; exact hc3)
          · try (exfalso; omega)
            all_goals (
              have hlen4 : bs.length = 4 := by omega
              (first | (simp (disch := first | omega | (simp only [AM.DB, List.length_set, List.length_map]; done) | (simp only [AM.DB, List.length_set, List.length_map]; omega)) only [AM.RB, Nat.reduceAdd, Nat.reduceMul, Nat.reduceEqDiff, reduceCtorEq, b13_C4, g3, AM.wrap_i64]) | skip); (repeat' (first | (refine AM.drawW_fine hp (by kernel_rfl) (by kernel_rfl) ?_; simp (disch := first | omega | (simp only [AM.DB, List.length_set, List.length_map]; done) | (simp only [AM.DB, List.length_set, List.length_map]; omega)) only [AM.RB, Nat.reduceAdd, Nat.reduceMul, Nat.reduceEqDiff, reduceCtorEq, b13_C4, g3, AM.wrap_i64]) | (refine AM.opW_tied (by kernel_rfl) ?_; simp (disch := first | omega | (simp only [AM.DB, List.length_set, List.length_map]; done) | (simp only [AM.DB, List.length_set, List.length_map]; omega)) only [AM.RB, Nat.reduceAdd, Nat.reduceMul, Nat.reduceEqDiff, reduceCtorEq, b13_C4, g3, AM.wrap_i64]) | (refine AM.opW_untied (by kernel_rfl) ?_; simp (disch := first | omega | (simp only [AM.DB, List.length_set, List.length_map]; done) | (simp only [AM.DB, List.length_set, List.length_map]; omega)) only [AM.RB, Nat.reduceAdd, Nat.reduceMul, Nat.reduceEqDiff, reduceCtorEq, b13_C4, g3, AM.wrap_i64]) | (refine AM.build_w ?_; simp (disch := first | omega | (simp only [AM.DB, List.length_set, List.length_map]; done) | (simp only [AM.DB, List.length_set, List.length_map]; omega)) only [AM.RB, Nat.reduceAdd, Nat.reduceMul, Nat.reduceEqDiff, reduceCtorEq, b13_C4, g3, AM.wrap_i64])))
              refine AM.condV_split (fun hq1 => ?_) (fun hq1 => by omega)
              have hcf := clm_facts l i hto
              (first | (simp (disch := first | omega | (simp only [AM.DB, List.length_set, List.length_map]; done) | (simp only [AM.DB, List.length_set, List.length_map]; omega)) only [AM.RB, Nat.reduceAdd, Nat.reduceMul, Nat.reduceEqDiff, reduceCtorEq, b13_C4, g3]) | skip); (repeat' (first | (refine AM.drawW_fine hp (by kernel_rfl) (by kernel_rfl) ?_; simp (disch := first | omega | (simp only [AM.DB, List.length_set, List.length_map]; done) | (simp only [AM.DB, List.length_set, List.length_map]; omega)) only [AM.RB, Nat.reduceAdd, Nat.reduceMul, Nat.reduceEqDiff, reduceCtorEq, b13_C4, g3]) | (refine AM.opW_tied (by kernel_rfl) ?_; simp (disch := first | omega | (simp only [AM.DB, List.length_set, List.length_map]; done) | (simp only [AM.DB, List.length_set, List.length_map]; omega)) only [AM.RB, Nat.reduceAdd, Nat.reduceMul, Nat.reduceEqDiff, reduceCtorEq, b13_C4, g3]) | (refine AM.opW_untied (by kernel_rfl) ?_; simp (disch := first | omega | (simp only [AM.DB, List.length_set, List.length_map]; done) | (simp only [AM.DB, List.length_set, List.length_map]; omega)) only [AM.RB, Nat.reduceAdd, Nat.reduceMul, Nat.reduceEqDiff, reduceCtorEq, b13_C4, g3]) | (refine AM.build_w ?_; simp (disch := first | omega | (simp only [AM.DB, List.length_set, List.length_map]; done) | (simp only [AM.DB, List.length_set, List.length_map]; omega)) only [AM.RB, Nat.reduceAdd, Nat.reduceMul, Nat.reduceEqDiff, reduceCtorEq, b13_C4, g3])))
              refine find_w hc3 hcf.1 (by omega) fun h5 fr5 => ?_
              have hc5 := hc3.fr0 fr5
              have g5 := fr5.get g3 (fun q => q)
              have hM5 := fr5.get hM3 (fun q => q)
              have lt5 := AM.get_some_lt g5
              have hlo5 := fr5.low
              have hl5 := fr5.hl (fr3.hl hl)
              have hg5 := hc5.1
              obtain ⟨va, vc, rfl⟩ := hc5.2.1.form
              (first | (simp (disch := first | omega | (simp only [AM.DB, List.length_set, List.length_map]; done) | (simp only [AM.DB, List.length_set, List.length_map]; omega)) only [AM.RB, Nat.reduceAdd, Nat.reduceMul, Nat.reduceEqDiff, reduceCtorEq, b13_C4, g5, hg5, AM.bsW_agg bs_31]) | skip); (repeat' (first | (refine AM.drawW_fine hp (by kernel_rfl) (by kernel_rfl) ?_; simp (disch := first | omega | (simp only [AM.DB, List.length_set, List.length_map]; done) | (simp only [AM.DB, List.length_set, List.length_map]; omega)) only [AM.RB, Nat.reduceAdd, Nat.reduceMul, Nat.reduceEqDiff, reduceCtorEq, b13_C4, g5, hg5, AM.bsW_agg bs_31]) | (refine AM.opW_tied (by kernel_rfl) ?_; simp (disch := first | omega | (simp only [AM.DB, List.length_set, List.length_map]; done) | (simp only [AM.DB, List.length_set, List.length_map]; omega)) only [AM.RB, Nat.reduceAdd, Nat.reduceMul, Nat.reduceEqDiff, reduceCtorEq, b13_C4, g5, hg5, AM.bsW_agg bs_31]) | (refine AM.opW_untied (by kernel_rfl) ?_; simp (disch := first | omega | (simp only [AM.DB, List.length_set, List.length_map]; done) | (simp only [AM.DB, List.length_set, List.length_map]; omega)) only [AM.RB, Nat.reduceAdd, Nat.reduceMul, Nat.reduceEqDiff, reduceCtorEq, b13_C4, g5, hg5, AM.bsW_agg bs_31]) | (refine AM.build_w ?_; simp (disch := first | omega | (simp only [AM.DB, List.length_set, List.length_map]; done) | (simp only [AM.DB, List.length_set, List.length_map]; omega)) only [AM.RB, Nat.reduceAdd, Nat.reduceMul, Nat.reduceEqDiff, reduceCtorEq, b13_C4, g5, hg5, AM.bsW_agg bs_31])))
              rw [List.take_length] at hg4 ⊢
              have fr6 : Fr none' h5 (h5.alloc (.cells (encC (nn, genB bs)) 45 false)) := (Fr.refl _ _).alloc _
              have hc6 := hc5.fr0 fr6
              have hM6 := fr6.get hM5 (fun q => q)
              have hx6 : Ow (h5.alloc (.cells (encC (nn, genB bs)) 45 false)) 45 2 (.slice (some ⟨h5.next, 0, none⟩) 1 1) 1 (encC (nn, genB bs)) := AM.Ow.whole (n := 1) (AM.get_alloc_self rfl) rfl hl5
              have hlt6 : ∀ id, idOf (.slice va (clm l i).length vc) id → id < h5.next := fun id q => hc5.2.1.lt q
              refine insert_cw (x := nn) (g := genB bs) hc6.2.1 hc6.2.2.1 hx6 (fun id q e => ?_) (fr6.hl hl5) (by omega) fun v' h7 ho7 hcp7 fr7 hid7 => ?_
              · have := hlt6 id q; have : id = h5.next := e; omega
              have hP := hc6.putIns ho7 hcp7 fr7 hid7
              have lt7 := AM.get_some_lt hP.1
              have lo7 := fr7.low
              simp only [AM.lw_alloc] at lo7
              have hg7 := hP.1
              obtain ⟨va', vc', rfl⟩ := ho7.form
              (first | (simp (disch := first | omega | (simp only [AM.DB, List.length_set, List.length_map]; done) | (simp only [AM.DB, List.length_set, List.length_map]; omega)) only [AM.RB, Nat.reduceAdd, Nat.reduceMul, Nat.reduceEqDiff, reduceCtorEq, b13_C4, hg7, AM.wrap_i64]) | skip); (repeat' (first | (refine AM.drawW_fine hp (by kernel_rfl) (by kernel_rfl) ?_; simp (disch := first | omega | (simp only [AM.DB, List.length_set, List.length_map]; done) | (simp only [AM.DB, List.length_set, List.length_map]; omega)) only [AM.RB, Nat.reduceAdd, Nat.reduceMul, Nat.reduceEqDiff, reduceCtorEq, b13_C4, hg7, AM.wrap_i64]) | (refine AM.opW_tied (by kernel_rfl) ?_; simp (disch := first | omega | (simp only [AM.DB, List.length_set, List.length_map]; done) | (simp only [AM.DB, List.length_set, List.length_map]; omega)) only [AM.RB, Nat.reduceAdd, Nat.reduceMul, Nat.reduceEqDiff, reduceCtorEq, b13_C4, hg7, AM.wrap_i64]) | (refine AM.opW_untied (by kernel_rfl) ?_; simp (disch := first | omega | (simp only [AM.DB, List.length_set, List.length_map]; done) | (simp only [AM.DB, List.length_set, List.length_map]; omega)) only [AM.RB, Nat.reduceAdd, Nat.reduceMul, Nat.reduceEqDiff, reduceCtorEq, b13_C4, hg7, AM.wrap_i64]) | (refine AM.build_w ?_; simp (disch := first | omega | (simp only [AM.DB, List.length_set, List.length_map]; done) | (simp only [AM.DB, List.length_set, List.length_map]; omega)) only [AM.RB, Nat.reduceAdd, Nat.reduceMul, Nat.reduceEqDiff, reduceCtorEq, b13_C4, hg7, AM.wrap_i64])))
              have eclm : clm l (i + 1) = insC (clm l i) nn (genB bs) := by rw [clm, hr, if_pos ⟨rfl, hlen4⟩]
              have nx5 := fr5.next
              simp only [AM.nx_alloc] at hid7
              refine ⟨i + 1, by omega, by simp, by omega, ((fr3.trans (fr5.trans fr6)).then fr7 fun id q1 q2 => ?_).put _ (.inl (by omega)), hto', ⟨_, by rw [eclm]; exact hP.2, fun id q => ?_⟩, M3, ?_, hcnt3⟩
              · have := hv id q2; omega
              · rcases hid7 id q with q | q
                · exact hv id q
                · omega
              · exact fr7.get hM6 (fun q => by have := hv _ q; omega)))
    · (first | (simp (disch := first | omega | (simp only [AM.DB, List.length_set, List.length_map]; done) | (simp only [AM.DB, List.length_set, List.length_map]; omega)) only [AM.RB, Nat.reduceAdd, Nat.reduceMul, Nat.reduceEqDiff, reduceCtorEq, b13_C4, AM.wrap_i64]) | skip); (repeat' (first | (refine AM.drawW_fine hp (by kernel_rfl) (by kernel_rfl) ?_; simp (disch := first | omega | (simp only [AM.DB, List.length_set, List.length_map]; done) | (simp only [AM.DB, List.length_set, List.length_map]; omega)) only [AM.RB, Nat.reduceAdd, Nat.reduceMul, Nat.reduceEqDiff, reduceCtorEq, b13_C4, AM.wrap_i64]) | (refine AM.opW_tied (by kernel_rfl) ?_; simp (disch := first | omega | (simp only [AM.DB, List.length_set, List.length_map]; done) | (simp only [AM.DB, List.length_set, List.length_map]; omega)) only [AM.RB, Nat.reduceAdd, Nat.reduceMul, Nat.reduceEqDiff, reduceCtorEq, b13_C4, AM.wrap_i64]) | (refine AM.opW_untied (by kernel_rfl) ?_; simp (disch := first | omega | (simp only [AM.DB, List.length_set, List.length_map]; done) | (simp only [AM.DB, List.length_set, List.length_map]; omega)) only [AM.RB, Nat.reduceAdd, Nat.reduceMul, Nat.reduceEqDiff, reduceCtorEq, b13_C4, AM.wrap_i64]) | (refine AM.build_w ?_; simp (disch := first | omega | (simp only [AM.DB, List.length_set, List.length_map]; done) | (simp only [AM.DB, List.length_set, List.length_map]; omega)) only [AM.RB, Nat.reduceAdd, Nat.reduceMul, Nat.reduceEqDiff, reduceCtorEq, b13_C4, AM.wrap_i64])))
      refine ⟨i + 1, by omega, by simp, by omega, fr.trans fr2, fun k hkk => ?_, ⟨v, ?_, hv⟩, M, hM2, fun x => ?_⟩
      · by_cases e : k = i
        · subst e; intro q; rw [badR, hr] at q; exact hk q.1
        · exact hto k (by omega)
      · rw [clm, if_neg (fun q => hk (by rw [hr] at q; exact q.1))]; exact hc2
      · rw [cnt_other (by rw [hr]; exact hk)]; exact hcnt x
  · obtain rfl : i = n := by omega
    have hg := hc.1
    obtain ⟨va, vc, rfl⟩ := hc.2.1.form
    (first | (simp (disch := first | omega | (simp only [AM.DB, List.length_set, List.length_map]; done) | (simp only [AM.DB, List.length_set, List.length_map]; omega)) only [AM.RB, Nat.reduceAdd, Nat.reduceMul, Nat.reduceEqDiff, reduceCtorEq, b13_C4, hg]) | skip); (repeat' (first | (refine AM.guard_spl ?_ ?_ <;> (intro hd hp_; simp (disch := first | omega | (simp only [AM.DB, List.length_set, List.length_map]; done) | (simp only [AM.DB, List.length_set, List.length_map]; omega)) only [AM.RB, Nat.reduceAdd, Nat.reduceMul, Nat.reduceEqDiff, reduceCtorEq, b13_C4, hd, hg])) | (refine AM.cond_spl ?_ ?_ <;> (intro hd hp_; simp (disch := first | omega | (simp only [AM.DB, List.length_set, List.length_map]; done) | (simp only [AM.DB, List.length_set, List.length_map]; omega)) only [AM.RB, Nat.reduceAdd, Nat.reduceMul, Nat.reduceEqDiff, reduceCtorEq, b13_C4, hd, hg])) | (refine AM.guard_b ?_ ?_ <;> (intro hd hp_; simp (disch := first | omega | (simp only [AM.DB, List.length_set, List.length_map]; done) | (simp only [AM.DB, List.length_set, List.length_map]; omega)) only [AM.RB, Nat.reduceAdd, Nat.reduceMul, Nat.reduceEqDiff, reduceCtorEq, b13_C4, hd, hg])) | (refine AM.cond_b ?_ ?_ <;> (intro hd hp_; simp (disch := first | omega | (simp only [AM.DB, List.length_set, List.length_map]; done) | (simp only [AM.DB, List.length_set, List.length_map]; omega)) only [AM.RB, Nat.reduceAdd, Nat.reduceMul, Nat.reduceEqDiff, reduceCtorEq, b13_C4, hd, hg])) | (refine AM.drawW_fine hp (by kernel_rfl) (by kernel_rfl) ?_; simp (disch := first | omega | (simp only [AM.DB, List.length_set, List.length_map]; done) | (simp only [AM.DB, List.length_set, List.length_map]; omega)) only [AM.RB, Nat.reduceAdd, Nat.reduceMul, Nat.reduceEqDiff, reduceCtorEq, b13_C4, hg]) | (refine AM.opW_tied (by kernel_rfl) ?_; simp (disch := first | omega | (simp only [AM.DB, List.length_set, List.length_map]; done) | (simp only [AM.DB, List.length_set, List.length_map]; omega)) only [AM.RB, Nat.reduceAdd, Nat.reduceMul, Nat.reduceEqDiff, reduceCtorEq, b13_C4, hg]) | (refine AM.opW_untied (by kernel_rfl) ?_; simp (disch := first | omega | (simp only [AM.DB, List.length_set, List.length_map]; done) | (simp only [AM.DB, List.length_set, List.length_map]; omega)) only [AM.RB, Nat.reduceAdd, Nat.reduceMul, Nat.reduceEqDiff, reduceCtorEq, b13_C4, hg]) | (refine AM.build_w ?_; simp (disch := first | omega | (simp only [AM.DB, List.length_set, List.length_map]; done) | (simp only [AM.DB, List.length_set, List.length_map]; omega)) only [AM.RB, Nat.reduceAdd, Nat.reduceMul, Nat.reduceEqDiff, reduceCtorEq, b13_C4, hg])))
    · exact hfull hto (by omega) _ fr
    · exact hok hto (by omega) _ _ _ hc fr (Nat.le_refl _) fun id q => by have := hv id q; omega

end Go.Proofs.Ytiigibhnjobcaaa
