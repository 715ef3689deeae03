/- Walks of this claim's functions, and plain laws. -/
import Derived.Test.YtiigibhnjobcaaaWa
import Derived.Test.YtiigibhnjobcaaaAMOps5
set_option linter.unusedSimpArgs false
set_option linter.unusedVariables false
namespace Go.Proofs.Ytiigibhnjobcaaa
open Go.AM
set_option maxRecDepth 8000
theorem b13_C4 : type_of% (And.intro (@AM.alK_some) (And.intro (@al_53) (And.intro (@AM.bdV_some) (And.intro (@bd_37) (And.intro (@bd_45) (And.intro (@AM.bin_add) (And.intro (@AM.bin_gtr) (And.intro (@AM.bin_lss) (And.intro (@AM.bin_neq) (And.intro (@AM.bin_or) (And.intro (@AM.bin_shl) (And.intro (@AM.boxK_agg) (And.intro (@AM.boxK_bool) (And.intro (@AM.boxK_func) (And.intro (@AM.boxK_int) (And.intro (@AM.boxK_map) (And.intro (@AM.boxK_pointer) (And.intro (@AM.boxK_slice) (And.intro (@AM.boxK_string) (And.intro (AM.bsW_agg bs_31) (And.intro (AM.bsW_nil bs_31) (And.intro (AM.cv_int ul_5 ul_38) (And.intro (@AM.ex_tuple) (And.intro (@AM.fa_ptr) (And.intro (@fd_37_0) (And.intro (@fd_53_0) (And.intro (@fd_53_1) (And.intro (@fd_53_2) (And.intro (@AM.fillL_cons) (And.intro (@AM.fillL_nil) (And.intro (@AM.fillS_agg) (And.intro (@AM.fillS_bool) (And.intro (@AM.fillS_func) (And.intro (@AM.fillS_int) (And.intro (@AM.fillS_map) (And.intro (@AM.fillS_pointer) (And.intro (@AM.fillS_slice) (And.intro (@AM.fillS_string) (And.intro (@AM.iaO_ok) (And.intro (AM.ia_slice el_22) (And.intro (AM.ia_slice el_51) (And.intro (@AM.ldO_agg) (And.intro (@AM.ldO_one) (And.intro (@AM.ld_ptr) (And.intro (AM.len_slice ul_22) (And.intro (AM.len_slice ul_31) (And.intro (AM.len_slice ul_51) (And.intro (@lk_3) (And.intro (@lk_31) (And.intro (@lk_5) (And.intro (@lk_51) (And.intro (@lk_53) (And.intro (@AM.op_alloc) (And.intro (@AM.op_binOp) (And.intro (@AM.op_box) (And.intro (@AM.op_build) (And.intro (@AM.op_buildSlice) (And.intro (@AM.op_call) (And.intro (@AM.op_convert) (And.intro (@AM.op_extract) (And.intro (@AM.op_fieldAddr) (And.intro (@AM.op_indexAddr) (And.intro (@AM.op_len) (And.intro (@AM.op_load) (And.intro (@AM.op_lookup) (And.intro (@AM.op_makeMap0) (And.intro (@AM.op_mapUpdate) (And.intro (@AM.op_nilCheck) (And.intro (@AM.op_store) (And.intro (@AM.op_unOp) (And.intro (@AM.resL_two) (And.intro (@AM.stO_agg) (And.intro (@AM.stO_bool) (And.intro (@AM.stO_int) (And.intro (@AM.stO_map) (And.intro (@AM.stO_pointer) (And.intro (@AM.stO_slice) (And.intro (@AM.stO_string) (And.intro (@AM.st_ptr) (And.intro (@sz_31) (And.intro (@sz_53) (And.intro (@AM.un_neg) (@AM.un_not))))))))))))))))))))))))))))))))))))))))))))))))))))))))))))))))))))))))))))))))))) := And.intro (@AM.alK_some) (And.intro (@al_53) (And.intro (@AM.bdV_some) (And.intro (@bd_37) (And.intro (@bd_45) (And.intro (@AM.bin_add) (And.intro (@AM.bin_gtr) (And.intro (@AM.bin_lss) (And.intro (@AM.bin_neq) (And.intro (@AM.bin_or) (And.intro (@AM.bin_shl) (And.intro (@AM.boxK_agg) (And.intro (@AM.boxK_bool) (And.intro (@AM.boxK_func) (And.intro (@AM.boxK_int) (And.intro (@AM.boxK_map) (And.intro (@AM.boxK_pointer) (And.intro (@AM.boxK_slice) (And.intro (@AM.boxK_string) (And.intro (AM.bsW_agg bs_31) (And.intro (AM.bsW_nil bs_31) (And.intro (AM.cv_int ul_5 ul_38) (And.intro (@AM.ex_tuple) (And.intro (@AM.fa_ptr) (And.intro (@fd_37_0) (And.intro (@fd_53_0) (And.intro (@fd_53_1) (And.intro (@fd_53_2) (And.intro (@AM.fillL_cons) (And.intro (@AM.fillL_nil) (And.intro (@AM.fillS_agg) (And.intro (@AM.fillS_bool) (And.intro (@AM.fillS_func) (And.intro (@AM.fillS_int) (And.intro (@AM.fillS_map) (And.intro (@AM.fillS_pointer) (And.intro (@AM.fillS_slice) (And.intro (@AM.fillS_string) (And.intro (@AM.iaO_ok) (And.intro (AM.ia_slice el_22) (And.intro (AM.ia_slice el_51) (And.intro (@AM.ldO_agg) (And.intro (@AM.ldO_one) (And.intro (@AM.ld_ptr) (And.intro (AM.len_slice ul_22) (And.intro (AM.len_slice ul_31) (And.intro (AM.len_slice ul_51) (And.intro (@lk_3) (And.intro (@lk_31) (And.intro (@lk_5) (And.intro (@lk_51) (And.intro (@lk_53) (And.intro (@AM.op_alloc) (And.intro (@AM.op_binOp) (And.intro (@AM.op_box) (And.intro (@AM.op_build) (And.intro (@AM.op_buildSlice) (And.intro (@AM.op_call) (And.intro (@AM.op_convert) (And.intro (@AM.op_extract) (And.intro (@AM.op_fieldAddr) (And.intro (@AM.op_indexAddr) (And.intro (@AM.op_len) (And.intro (@AM.op_load) (And.intro (@AM.op_lookup) (And.intro (@AM.op_makeMap0) (And.intro (@AM.op_mapUpdate) (And.intro (@AM.op_nilCheck) (And.intro (@AM.op_store) (And.intro (@AM.op_unOp) (And.intro (@AM.resL_two) (And.intro (@AM.stO_agg) (And.intro (@AM.stO_bool) (And.intro (@AM.stO_int) (And.intro (@AM.stO_map) (And.intro (@AM.stO_pointer) (And.intro (@AM.stO_slice) (And.intro (@AM.stO_string) (And.intro (@AM.st_ptr) (And.intro (@sz_31) (And.intro (@sz_53) (And.intro (@AM.un_neg) (@AM.un_not))))))))))))))))))))))))))))))))))))))))))))))))))))))))))))))))))))))))))))))))))


theorem genB_take (bs : List Int) (k : Nat) (hk : k < bs.length) : genB (bs.take (k + 1)) = genB (bs.take k) * 256 + bs.getD k 0 := by
  unfold genB
  rw [List.take_add_one, List.foldl_append]
  have : bs[k]? = some (bs.getD k 0) := by simp [List.getD, hk]
  rw [this]; rfl
theorem genB_bound (bs : List Int) (hb : ∀ b ∈ bs, 0 ≤ b ∧ b < 256) (k : Nat) (hk : k ≤ bs.length) : 0 ≤ genB (bs.take k) ∧ genB (bs.take k) < 256 ^ k := by
  induction k with
  | zero => simp [genB]
  | succ k ih =>
    have h := ih (by omega)
    rw [genB_take bs k (by omega), Int.pow_succ]
    have := hb (bs.getD k 0) (by simp [List.getD, show k < bs.length by omega])
    omega

theorem cnt_le (l : List Rec) (i : Nat) (x : Int) : cnt l i x ≤ i := by
  induction i with
  | zero => exact Nat.le_refl _
  | succ i ih => unfold cnt; split <;> omega
theorem cnt_succ (l : List Rec) (i : Nat) (x : Int) : cnt l (i + 1) x = cnt l i x + if (l.getD i dR).1 = 2 ∧ (l.getD i dR).2.1 = x then 1 else 0 := rfl
theorem cnt_other {l : List Rec} {i : Nat} (h : (l.getD i dR).1 ≠ 2) (x : Int) : cnt l (i + 1) x = cnt l i x := by
  rw [cnt_succ, if_neg (fun q => h q.1)]; rfl

theorem prim_ins : prims 53 = some (pInsert Try.prog 45) := if_pos rfl
theorem Cl.putIns {h5 h6 : AHeap} {p : Nat} {v v' : Value} {L L' : List Cm} (hc : Cl h5 p v L) (how : Ow h6 45 2 v' L'.length (L'.flatMap encC)) (hcp : capPos v') (fr : Fr (idOf v) h5 h6) (hid : ∀ id, idOf v' id → idOf v id ∨ h5.next ≤ id) :
    h6.get p = some (.cells [v] 37 false) ∧ Cl (h6.put p (some (.cells [v'] 37 false))) p v' L' := by
  have hg := fr.get hc.1 hc.2.2.2.2
  have hlt := AM.get_some_lt hc.1
  have hlt6 := AM.get_some_lt hg
  have hne : ∀ id, idOf v' id → id ≠ p := fun id q e => by
    subst e
    rcases hid _ q with q | q
    · exact hc.2.2.2.2 q
    · omega
  refine ⟨hg, AM.get_put_self rfl hlt6, how.same (fun id q => AM.get_put_ne (hne id q)) rfl, hcp, ?_, fun q => hne p q rfl⟩
  have := fr.low
  have := hc.2.2.2.1
  simp only [AM.lw_put]; omega
theorem insert_cw {h : AHeap} {v : Value} {L : List Cm} {x g : Int} {a : Addr} {Q : VQ} (ho : Ow h 45 2 v L.length (L.flatMap encC)) (hcp : capPos v) (hv : Ow h 45 2 (.slice (some a) 1 1) 1 (encC (x, g))) (hne : ∀ id, idOf v id → id ≠ a.block) (hl : h.low ≤ h.next) (hn : L.length ≤ 1000000000)
    (hq : ∀ v' h', Ow h' 45 2 v' (insC L x g).length ((insC L x g).flatMap encC) → capPos v' → Fr (idOf v) h h' → (∀ id, idOf v' id → idOf v id ∨ h.next ≤ id) → Q v' h') :
    W 53 [v, .int .i64 (posC L x : Nat), .slice (some a) 1 1] h Q := by
  refine AM.insert_w hp prim_ins insI (by omega) ho hcp hv hne (posC_le L x) hl (AM.fits (by omega) (by omega)) (AM.fits' (by omega)) (encC_one L) rfl fun v' h' h1 h2 h3 h4 => ?_
  have e := insC_enc L x g
  rw [show encC (x, g) = [.int .i64 x, .int .u32 g] from rfl, e] at h1
  rw [show L.length + 1 = (insC L x g).length from (insC_length L x g).symm] at h1
  exact hq v' h' h1 h2 h3 h4

theorem load_w {s : Value} {n : Nat} {l : List Rec} {h : AHeap} (hs : Rd h 53 3 s n (l.flatMap encR)) (hln : l.length = n) (hrec : ∀ r ∈ l, RecOk h r) (hn : n ≤ 1000000000) (hl : h.low ≤ h.next) {Q : VQ}
    (hbad : (∃ k, k < n ∧ okTo l k ∧ badR l k) → ∀ h', Fr none' h h' → Q (.tuple #[.pointer none, .int .i64 130]) h')
    (hfull : okTo l n → 16 < (clm l n).length → ∀ h', Fr none' h h' → Q (.tuple #[.pointer none, .int .i64 151]) h')
    (hok : okTo l n → (clm l n).length ≤ 16 → ∀ p v h', Cl h' p v (clm l n) → Fr none' h h' → h.next ≤ p → (∀ id, idOf v id → h.next ≤ id) → Q (.tuple #[pv p, .int .i64 0]) h') :
    W 13 [s] h Q := by
  obtain ⟨a, cap, rfl⟩ := hs.form
  refine AM.enter hp (fn := Try.f13) (rs := [.tmp 2, .tmp 3]) (nt := 99) (by kernel_rfl) Try.func13 rfl rfl rfl (by kernel_rfl) ?_
  (first | (simp (disch := first | omega | (simp only [AM.DB, List.length_set, List.length_map]; done) | (simp only [AM.DB, List.length_set, List.length_map]; omega)) only [AM.RB, Nat.reduceAdd, Nat.reduceMul, Nat.reduceEqDiff, reduceCtorEq, b13_C4]) | skip); (repeat' (first | (refine AM.drawW_fine hp (by kernel_rfl) (by kernel_rfl) ?_; simp (disch := first | omega | (simp only [AM.DB, List.length_set, List.length_map]; done) | (simp only [AM.DB, List.length_set, List.length_map]; omega)) only [AM.RB, Nat.reduceAdd, Nat.reduceMul, Nat.reduceEqDiff, reduceCtorEq, b13_C4]) | (refine AM.opW_tied (by kernel_rfl) ?_; simp (disch := first | omega | (simp only [AM.DB, List.length_set, List.length_map]; done) | (simp only [AM.DB, List.length_set, List.length_map]; omega)) only [AM.RB, Nat.reduceAdd, Nat.reduceMul, Nat.reduceEqDiff, reduceCtorEq, b13_C4]) | (refine AM.opW_untied (by kernel_rfl) ?_; simp (disch := first | omega | (simp only [AM.DB, List.length_set, List.length_map]; done) | (simp only [AM.DB, List.length_set, List.length_map]; omega)) only [AM.RB, Nat.reduceAdd, Nat.reduceMul, Nat.reduceEqDiff, reduceCtorEq, b13_C4]) | (refine AM.build_w ?_; simp (disch := first | omega | (simp only [AM.DB, List.length_set, List.length_map]; done) | (simp only [AM.DB, List.length_set, List.length_map]; omega)) only [AM.RB, Nat.reduceAdd, Nat.reduceMul, Nat.reduceEqDiff, reduceCtorEq, b13_C4])))
  refine AM.loop_w hp 99 (fun i : Nat => [(0, .slice a n cap), (4, pv h.next), (5, .map (some (h.next + 1))), (16, .slice a n cap), (17, .int .i64 n), (18, .int .i64 i)])
    (fun i h' => i ≤ n ∧ Fr none' h h' ∧ okTo l i ∧ (∃ v, Cl h' h.next v (clm l i) ∧ ∀ id, idOf v id → h.next + 1 < id) ∧ ∃ M, h'.get (h.next + 1) = some (.map (encM M)) ∧ ∀ x, (mgetL M x).getD (.int .i64 0) = .int .i64 (cnt l i x)) (fun i => n - i) (by kernel_rfl) 0 ?_ ?_ ?_
  · simp (disch := first | omega | (simp only [AM.DB, List.length_set, List.length_map]; done) | (simp only [AM.DB, List.length_set, List.length_map]; omega)) only [AM.RB, Nat.reduceAdd, Nat.reduceMul, Nat.reduceEqDiff, reduceCtorEq, b13_C4]
  · refine ⟨Nat.zero_le _, ((Fr.refl _ _).alloc _).alloc _, fun k hk => by omega, ⟨.slice none 0 0, ⟨?_, Ow.nil _ _ _, trivial, hl, fun q => q⟩, fun _ q => q.elim⟩, [], ?_, fun x => rfl⟩
    · simp (disch := first | omega | (simp only [AM.DB, List.length_set, List.length_map]; done) | (simp only [AM.DB, List.length_set, List.length_map]; omega)) only [AM.RB, Nat.reduceAdd, Nat.reduceMul, Nat.reduceEqDiff, reduceCtorEq, b13_C4]
    · simp (disch := first | omega | (simp only [AM.DB, List.length_set, List.length_map]; done) | (simp only [AM.DB, List.length_set, List.length_map]; omega)) only [AM.RB, Nat.reduceAdd, Nat.reduceMul, Nat.reduceEqDiff, reduceCtorEq, b13_C4]
      rfl
  rintro i h1 ρ ⟨hi, fr, hto, ⟨v, hc, hv⟩, M, hM, hcnt⟩
  have hs1 := hs.fr0 fr
  have hl1 := fr.hl hl
  have hlow := fr.low
  have hlt1 := AM.get_some_lt hM
  have hlt0 := AM.get_some_lt hc.1
  (first | (simp (disch := first | omega | (simp only [AM.DB, List.length_set, List.length_map]; done) | (simp only [AM.DB, List.length_set, List.length_map]; omega)) only [AM.RB, Nat.reduceAdd, Nat.reduceMul, Nat.reduceEqDiff, reduceCtorEq, b13_C4]) | skip); (repeat' (first | (refine AM.drawW_fine hp (by kernel_rfl) (by kernel_rfl) ?_; simp (disch := first | omega | (simp only [AM.DB, List.length_set, List.length_map]; done) | (simp only [AM.DB, List.length_set, List.length_map]; omega)) only [AM.RB, Nat.reduceAdd, Nat.reduceMul, Nat.reduceEqDiff, reduceCtorEq, b13_C4]) | (refine AM.opW_tied (by kernel_rfl) ?_; simp (disch := first | omega | (simp only [AM.DB, List.length_set, List.length_map]; done) | (simp only [AM.DB, List.length_set, List.length_map]; omega)) only [AM.RB, Nat.reduceAdd, Nat.reduceMul, Nat.reduceEqDiff, reduceCtorEq, b13_C4]) | (refine AM.opW_untied (by kernel_rfl) ?_; simp (disch := first | omega | (simp only [AM.DB, List.length_set, List.length_map]; done) | (simp only [AM.DB, List.length_set, List.length_map]; omega)) only [AM.RB, Nat.reduceAdd, Nat.reduceMul, Nat.reduceEqDiff, reduceCtorEq, b13_C4]) | (refine AM.build_w ?_; simp (disch := first | omega | (simp only [AM.DB, List.length_set, List.length_map]; done) | (simp only [AM.DB, List.length_set, List.length_map]; omega)) only [AM.RB, Nat.reduceAdd, Nat.reduceMul, Nat.reduceEqDiff, reduceCtorEq, b13_C4])))
  refine AM.condV_split (fun hlt => ?_) (fun hlt => ?_)
  · obtain ⟨r, hr⟩ : ∃ r, l.getD i dR = r := ⟨_, rfl⟩
    have hri : r ∈ l := by rw [← hr]; simp [List.getD, show i < l.length by omega]
    obtain ⟨⟨ra, rc, hra⟩, hrd, hby⟩ := hrec r hri
    have hrd1 := hrd.fr0 fr
    obtain ⟨kind, nn, rs, bs⟩ := r
    simp only at hra hrd hby hrd1
    subst hra
    (first | (simp (disch := first | omega | (simp only [AM.DB, List.length_set, List.length_map]; done) | (simp only [AM.DB, List.length_set, List.length_map]; omega)) only [AM.RB, Nat.reduceAdd, Nat.reduceMul, Nat.reduceEqDiff, reduceCtorEq, b13_C4, hs1.ia el_22, hs1.lds encR_len lk_53 hln dR, Int.toNat_natCast, hr, encR]) | skip); (repeat' (first | (refine AM.drawW_fine hp (by kernel_rfl) (by kernel_rfl) ?_; simp (disch := first | omega | (simp only [AM.DB, List.length_set, List.length_map]; done) | (simp only [AM.DB, List.length_set, List.length_map]; omega)) only [AM.RB, Nat.reduceAdd, Nat.reduceMul, Nat.reduceEqDiff, reduceCtorEq, b13_C4, hs1.ia el_22, hs1.lds encR_len lk_53 hln dR, Int.toNat_natCast, hr, encR]) | (refine AM.opW_tied (by kernel_rfl) ?_; simp (disch := first | omega | (simp only [AM.DB, List.length_set, List.length_map]; done) | (simp only [AM.DB, List.length_set, List.length_map]; omega)) only [AM.RB, Nat.reduceAdd, Nat.reduceMul, Nat.reduceEqDiff, reduceCtorEq, b13_C4, hs1.ia el_22, hs1.lds encR_len lk_53 hln dR, Int.toNat_natCast, hr, encR]) | (refine AM.opW_untied (by kernel_rfl) ?_; simp (disch := first | omega | (simp only [AM.DB, List.length_set, List.length_map]; done) | (simp only [AM.DB, List.length_set, List.length_map]; omega)) only [AM.RB, Nat.reduceAdd, Nat.reduceMul, Nat.reduceEqDiff, reduceCtorEq, b13_C4, hs1.ia el_22, hs1.lds encR_len lk_53 hln dR, Int.toNat_natCast, hr, encR]) | (refine AM.build_w ?_; simp (disch := first | omega | (simp only [AM.DB, List.length_set, List.length_map]; done) | (simp only [AM.DB, List.length_set, List.length_map]; omega)) only [AM.RB, Nat.reduceAdd, Nat.reduceMul, Nat.reduceEqDiff, reduceCtorEq, b13_C4, hs1.ia el_22, hs1.lds encR_len lk_53 hln dR, Int.toNat_natCast, hr, encR])))
    have fr2 : Fr none' h1 ((h1.alloc (.cells [.int .i64 0, .int .i64 0, .slice none 0 0] 53 false)).put h1.next (some (.cells [.int .i64 kind, .int .i64 nn, .slice ra bs.length rc] 53 false))) := ((Fr.refl _ _).alloc _).put _ (.inl (Nat.le_refl _))
    have g2 : ((h1.alloc (.cells [.int .i64 0, .int .i64 0, .slice none 0 0] 53 false)).put h1.next (some (.cells [.int .i64 kind, .int .i64 nn, .slice ra bs.length rc] 53 false))).get h1.next = some (.cells [.int .i64 kind, .int .i64 nn, .slice ra bs.length rc] 53 false) := by
      simp (disch := first | omega | (simp only [AM.DB, List.length_set, List.length_map]; done) | (simp only [AM.DB, List.length_set, List.length_map]; omega)) only [AM.RB, Nat.reduceAdd, Nat.reduceMul, Nat.reduceEqDiff, reduceCtorEq, b13_C4]
    generalize (h1.alloc (.cells [.int .i64 0, .int .i64 0, .slice none 0 0] 53 false)).put h1.next (some (.cells [.int .i64 kind, .int .i64 nn, .slice ra bs.length rc] 53 false)) = h2 at fr2 g2 ⊢
    have hc2 := hc.fr0 fr2
    have hM2 := fr2.get hM (fun q => q)
    have hl2 := fr2.hl hl1
    have lt2 := AM.get_some_lt g2
    have low2 := fr2.low
    refine AM.condV_split (fun hk => ?_) (fun hk => ?_)
    · subst hk
      have hcl := cnt_le l i nn
      (first | (simp (disch := first | omega | (simp only [AM.DB, List.length_set, List.length_map]; done) | (simp only [AM.DB, List.length_set, List.length_map]; omega)) only [AM.RB, Nat.reduceAdd, Nat.reduceMul, Nat.reduceEqDiff, reduceCtorEq, b13_C4, g2, AM.lookup_enc mp_49 hM2, hcnt, AM.update_enc mp_49 hM2 (by omega), AM.wrap_i64]) | skip); (repeat' (first | (refine AM.drawW_fine hp (by kernel_rfl) (by kernel_rfl) ?_; simp (disch := first | omega | (simp only [AM.DB, List.length_set, List.length_map]; done) | (simp only [AM.DB, List.length_set, List.length_map]; omega)) only [AM.RB, Nat.reduceAdd, Nat.reduceMul, Nat.reduceEqDiff, reduceCtorEq, b13_C4, g2, AM.lookup_enc mp_49 hM2, hcnt, AM.update_enc mp_49 hM2 (by omega), AM.wrap_i64]) | (refine AM.opW_tied (by kernel_rfl) ?_; simp (disch := first | omega | (simp only [AM.DB, List.length_set, List.length_map]; done) | (simp only [AM.DB, List.length_set, List.length_map]; omega)) only [AM.RB, Nat.reduceAdd, Nat.reduceMul, Nat.reduceEqDiff, reduceCtorEq, b13_C4, g2, AM.lookup_enc mp_49 hM2, hcnt, AM.update_enc mp_49 hM2 (by omega), AM.wrap_i64]) | (refine AM.opW_untied (by kernel_rfl) ?_; simp (disch := first | omega | (simp only [AM.DB, List.length_set, List.length_map]; done) | (simp only [AM.DB, List.length_set, List.length_map]; omega)) only [AM.RB, Nat.reduceAdd, Nat.reduceMul, Nat.reduceEqDiff, reduceCtorEq, b13_C4, g2, AM.lookup_enc mp_49 hM2, hcnt, AM.update_enc mp_49 hM2 (by omega), AM.wrap_i64]) | (refine AM.build_w ?_; simp (disch := first | omega | (simp only [AM.DB, List.length_set, List.length_map]; done) | (simp only [AM.DB, List.length_set, List.length_map]; omega)) only [AM.RB, Nat.reduceAdd, Nat.reduceMul, Nat.reduceEqDiff, reduceCtorEq, b13_C4, g2, AM.lookup_enc mp_49 hM2, hcnt, AM.update_enc mp_49 hM2 (by omega), AM.wrap_i64])))
      have fr3 : Fr none' h (h2.put (h.next + 1) (some (.map (encM (msetL M nn (.int .i64 ((cnt l i nn : Int) + 1))))))) := (fr.trans fr2).put _ (.inl (by omega))
      have hM3 : (h2.put (h.next + 1) (some (.map (encM (msetL M nn (.int .i64 ((cnt l i nn : Int) + 1))))))).get (h.next + 1) = some (.map (encM (msetL M nn (.int .i64 ((cnt l i nn : Int) + 1))))) := AM.get_put_self rfl (by omega)
      have g3 : (h2.put (h.next + 1) (some (.map (encM (msetL M nn (.int .i64 ((cnt l i nn : Int) + 1))))))).get h1.next = some (.cells [.int .i64 2, .int .i64 nn, .slice ra bs.length rc] 53 false) := by rw [AM.get_put_ne (by omega)]; exact g2
      have hc3 : Cl (h2.put (h.next + 1) (some (.map (encM (msetL M nn (.int .i64 ((cnt l i nn : Int) + 1))))))) h.next v (clm l i) := hc2.fr ((Fr.refl (fun id => id = h.next + 1) _).put _ (.inr rfl)) (by omega) (fun id q e => by have := hv id q; omega)
      have hcnt3 : ∀ x, (mgetL (msetL M nn (.int .i64 ((cnt l i nn : Int) + 1))) x).getD (.int .i64 0) = .int .i64 (cnt l (i + 1) x) := by
        intro x
        rw [AM.mget_set, cnt_succ, hr]
        by_cases e : x = nn
        · subst e; rw [if_pos rfl, if_pos ⟨rfl, rfl⟩]; simp
        · rw [if_neg e, if_neg (fun q => e q.2.symm)]; exact hcnt x
      generalize h2.put (h.next + 1) (some (.map (encM (msetL M nn (.int .i64 ((cnt l i nn : Int) + 1)))))) = h3 at fr3 hM3 g3 hc3 ⊢
      generalize msetL M nn (.int .i64 ((cnt l i nn : Int) + 1)) = M3 at hM3 hcnt3
      clear hM2 hc2 g2 hcnt hM hc
      have lt3 := AM.get_some_lt g3
      have hlo3 := fr3.low
      have hrd3 := hrd.fr0 fr3
      refine known_w nn _ _ ?_
      have hbi : badR l i ↔ (¬ (0 ≤ nn ∧ nn < 1024) ∨ (bs.length ≠ 0 ∧ bs.length ≠ 4) ∨ 1 ≤ cnt l i nn) := by
        unfold badR; rw [hr]; exact ⟨fun q => q.2, fun q => ⟨rfl, q⟩⟩
      have hci : cnt l (i + 1) nn = cnt l i nn + 1 := by
        rw [cnt_succ, hr, if_pos ⟨rfl, rfl⟩]
      (first | (simp (disch := first | omega | (simp only [AM.DB, List.length_set, List.length_map]; done) | (simp only [AM.DB, List.length_set, List.length_map]; omega)) only [AM.RB, Nat.reduceAdd, Nat.reduceMul, Nat.reduceEqDiff, reduceCtorEq, b13_C4, g3, AM.lookup_enc mp_49 hM3, hcnt3]) | skip); (repeat' (first | (refine AM.guard_spl ?_ ?_ <;> (intro hd hp_; simp (disch := first | omega | (simp only [AM.DB, List.length_set, List.length_map]; done) | (simp only [AM.DB, List.length_set, List.length_map]; omega)) only [AM.RB, Nat.reduceAdd, Nat.reduceMul, Nat.reduceEqDiff, reduceCtorEq, b13_C4, hd, g3, AM.lookup_enc mp_49 hM3, hcnt3])) | (refine AM.cond_spl ?_ ?_ <;> (intro hd hp_; simp (disch := first | omega | (simp only [AM.DB, List.length_set, List.length_map]; done) | (simp only [AM.DB, List.length_set, List.length_map]; omega)) only [AM.RB, Nat.reduceAdd, Nat.reduceMul, Nat.reduceEqDiff, reduceCtorEq, b13_C4, hd, g3, AM.lookup_enc mp_49 hM3, hcnt3])) | (refine AM.guard_b ?_ ?_ <;> (intro hd hp_; simp (disch := first | omega | (simp only [AM.DB, List.length_set, List.length_map]; done) | (simp only [AM.DB, List.length_set, List.length_map]; omega)) only [AM.RB, Nat.reduceAdd, Nat.reduceMul, Nat.reduceEqDiff, reduceCtorEq, b13_C4, hd, g3, AM.lookup_enc mp_49 hM3, hcnt3])) | (refine AM.cond_b ?_ ?_ <;> (intro hd hp_; simp (disch := first | omega | (simp only [AM.DB, List.length_set, List.length_map]; done) | (simp only [AM.DB, List.length_set, List.length_map]; omega)) only [AM.RB, Nat.reduceAdd, Nat.reduceMul, Nat.reduceEqDiff, reduceCtorEq, b13_C4, hd, g3, AM.lookup_enc mp_49 hM3, hcnt3])) | (refine AM.drawW_fine hp (by kernel_rfl) (by kernel_rfl) ?_; simp (disch := first | omega | (simp only [AM.DB, List.length_set, List.length_map]; done) | (simp only [AM.DB, List.length_set, List.length_map]; omega)) only [AM.RB, Nat.reduceAdd, Nat.reduceMul, Nat.reduceEqDiff, reduceCtorEq, b13_C4, g3, AM.lookup_enc mp_49 hM3, hcnt3]) | (refine AM.opW_tied (by kernel_rfl) ?_; simp (disch := first | omega | (simp only [AM.DB, List.length_set, List.length_map]; done) | (simp only [AM.DB, List.length_set, List.length_map]; omega)) only [AM.RB, Nat.reduceAdd, Nat.reduceMul, Nat.reduceEqDiff, reduceCtorEq, b13_C4, g3, AM.lookup_enc mp_49 hM3, hcnt3]) | (refine AM.opW_untied (by kernel_rfl) ?_; simp (disch := first | omega | (simp only [AM.DB, List.length_set, List.length_map]; done) | (simp only [AM.DB, List.length_set, List.length_map]; omega)) only [AM.RB, Nat.reduceAdd, Nat.reduceMul, Nat.reduceEqDiff, reduceCtorEq, b13_C4, g3, AM.lookup_enc mp_49 hM3, hcnt3]) | (refine AM.build_w ?_; simp (disch := first | omega | (simp only [AM.DB, List.length_set, List.length_map]; done) | (simp only [AM.DB, List.length_set, List.length_map]; omega)) only [AM.RB, Nat.reduceAdd, Nat.reduceMul, Nat.reduceEqDiff, reduceCtorEq, b13_C4, g3, AM.lookup_enc mp_49 hM3, hcnt3])))
      all_goals first
        | exact hbad ⟨i, by omega, hto, hbi.2 (by omega)⟩ _ fr3
        | skip
      all_goals (
        have hnb : ¬ badR l i := by rw [hbi]; omega
        have hlen : bs.length = 0 ∨ bs.length = 4 := by omega
        have hn4 : bs.length ≤ 4 := by omega
        refine AM.loop_w hp 99 (fun k : Nat => [(0, .slice a n cap), (4, pv h.next), (5, .map (some (h.next + 1))), (7, pv h1.next), (8, .int .u32 (genB (bs.take k))), (16, .slice a n cap), (17, .int .i64 n), (18, .int .i64 i), (54, .slice ra bs.length rc), (55, .int .i64 bs.length), (56, .int .i64 k)])
          (fun k h' => h' = h3 ∧ k ≤ bs.length) (fun k => bs.length - k) (by kernel_rfl) 0 ?_ ?_ ?_
        · simp (disch := first | omega | (simp only [AM.DB, List.length_set, List.length_map]; done) | (simp only [AM.DB, List.length_set, List.length_map]; omega)) only [AM.RB, Nat.reduceAdd, Nat.reduceMul, Nat.reduceEqDiff, reduceCtorEq, b13_C4]
          rfl
        · exact ⟨rfl, Nat.zero_le _⟩
        rintro k h4 ρ2 ⟨rfl, hk4⟩
        simp (disch := first | omega | (simp only [AM.DB, List.length_set, List.length_map]; done) | (simp only [AM.DB, List.length_set, List.length_map]; omega)) only [AM.RB, Nat.reduceAdd, Nat.reduceMul, Nat.reduceEqDiff, reduceCtorEq, b13_C4]
        refine AM.condV_split (fun hlt4 => ?_) (fun hlt4 => ?_)
        · first | (exfalso; omega) | skip
          all_goals (
            have hgb := genB_bound bs hby k (by omega)
            have hbk := hby (bs.getD k 0) (by simp [List.getD, show k < bs.length by omega])
            have hpw : (256 : Int) ^ k ≤ 16777216 := by
              have : k = 0 ∨ k = 1 ∨ k = 2 ∨ k = 3 := by omega
              rcases this with rfl | rfl | rfl | rfl <;> decide
            (first | (simp (disch := first | omega | (simp only [AM.DB, List.length_set, List.length_map]; done) | (simp only [AM.DB, List.length_set, List.length_map]; omega)) only [AM.RB, Nat.reduceAdd, Nat.reduceMul, Nat.reduceEqDiff, reduceCtorEq, b13_C4, hrd3.ia el_51, hrd3.ldi lk_5, AM.bin_shl, Int.toNat_natCast, AM.wrap_i64]) | skip); (repeat' (first | (refine AM.drawW_fine hp (by kernel_rfl) (by kernel_rfl) ?_; simp (disch := first | omega | (simp only [AM.DB, List.length_set, List.length_map]; done) | (simp only [AM.DB, List.length_set, List.length_map]; omega)) only [AM.RB, Nat.reduceAdd, Nat.reduceMul, Nat.reduceEqDiff, reduceCtorEq, b13_C4, hrd3.ia el_51, hrd3.ldi lk_5, AM.bin_shl, Int.toNat_natCast, AM.wrap_i64]) | (refine AM.opW_tied (by kernel_rfl) ?_; simp (disch := first | omega | (simp only [AM.DB, List.length_set, List.length_map]; done) | (simp only [AM.DB, List.length_set, List.length_map]; omega)) only [AM.RB, Nat.reduceAdd, Nat.reduceMul, Nat.reduceEqDiff, reduceCtorEq, b13_C4, hrd3.ia el_51, hrd3.ldi lk_5, AM.bin_shl, Int.toNat_natCast, AM.wrap_i64]) | (refine AM.opW_untied (by kernel_rfl) ?_; simp (disch := first | omega | (simp only [AM.DB, List.length_set, List.length_map]; done) | (simp only [AM.DB, List.length_set, List.length_map]; omega)) only [AM.RB, Nat.reduceAdd, Nat.reduceMul, Nat.reduceEqDiff, reduceCtorEq, b13_C4, hrd3.ia el_51, hrd3.ldi lk_5, AM.bin_shl, Int.toNat_natCast, AM.wrap_i64]) | (refine AM.build_w ?_; simp (disch := first | omega | (simp only [AM.DB, List.length_set, List.length_map]; done) | (simp only [AM.DB, List.length_set, List.length_map]; omega)) only [AM.RB, Nat.reduceAdd, Nat.reduceMul, Nat.reduceEqDiff, reduceCtorEq, b13_C4, hrd3.ia el_51, hrd3.ldi lk_5, AM.bin_shl, Int.toNat_natCast, AM.wrap_i64])))
            refine ⟨k + 1, by omega, ⟨?_, by simp⟩, by omega⟩
            rw [genB_take bs k (by omega), show (2 : Int) ^ min (Int.toNat 8) IntKind.u32.bits = 256 from rfl, AM.wrap_u32 (n := genB (bs.take k) * 256) (by omega) (by omega), AM.wrap_u32 (n := bs.getD k 0) (by omega) (by omega)]
            exact congrArg _ (AM.or_u32 ⟨by omega, by omega⟩ hbk))
        · obtain rfl : k = bs.length := by omega
          have hto' : okTo l (i + 1) := fun k hk => by
            by_cases e : k = i
            · rw [e]; exact hnb
            · exact hto k (by omega)
          have hg4 := genB_bound bs hby bs.length (Nat.le_refl _)
          by_cases hz : bs.length = 0
          · try (exfalso; omega)
            all_goals (
              (first | (simp (disch := first | omega | (simp only [AM.DB, List.length_set, List.length_map]; done) | (simp only [AM.DB, List.length_set, List.length_map]; omega)) only [AM.RB, Nat.reduceAdd, Nat.reduceMul, Nat.reduceEqDiff, reduceCtorEq, b13_C4, g3, AM.wrap_i64]) | skip); (repeat' (first | (refine AM.drawW_fine hp (by kernel_rfl) (by kernel_rfl) ?_; simp (disch := first | omega | (simp only [AM.DB, List.length_set, List.length_map]; done) | (simp only [AM.DB, List.length_set, List.length_map]; omega)) only [AM.RB, Nat.reduceAdd, Nat.reduceMul, Nat.reduceEqDiff, reduceCtorEq, b13_C4, g3, AM.wrap_i64]) | (refine AM.opW_tied (by kernel_rfl) ?_; simp (disch := first | omega | (simp only [AM.DB, List.length_set, List.length_map]; done) | (simp only [AM.DB, List.length_set, List.length_map]; omega)) only [AM.RB, Nat.reduceAdd, Nat.reduceMul, Nat.reduceEqDiff, reduceCtorEq, b13_C4, g3, AM.wrap_i64]) | (refine AM.opW_untied (by kernel_rfl) ?_; simp (disch := first | omega | (simp only [AM.DB, List.length_set, List.length_map]; done) | (simp only [AM.DB, List.length_set, List.length_map]; omega)) only [AM.RB, Nat.reduceAdd, Nat.reduceMul, Nat.reduceEqDiff, reduceCtorEq, b13_C4, g3, AM.wrap_i64]) | (refine AM.build_w ?_; simp (disch := first | omega | (simp only [AM.DB, List.length_set, List.length_map]; done) | (simp only [AM.DB, List.length_set, List.length_map]; omega)) only [AM.RB, Nat.reduceAdd, Nat.reduceMul, Nat.reduceEqDiff, reduceCtorEq, b13_C4, g3, AM.wrap_i64])))
              refine AM.condV_split (fun hq1 => by omega) (fun hq1 => ?_)
              (first | (simp (disch := first | omega | (simp only [AM.DB, List.length_set, List.length_map]; done) | (simp only [AM.DB, List.length_set, List.length_map]; omega)) only [AM.RB, Nat.reduceAdd, Nat.reduceMul, Nat.reduceEqDiff, reduceCtorEq, b13_C4, AM.wrap_i64]) | skip); (repeat' (first | (refine AM.drawW_fine hp (by kernel_rfl) (by kernel_rfl) ?_; simp (disch := first | omega | (simp only [AM.DB, List.length_set, List.length_map]; done) | (simp only [AM.DB, List.length_set, List.length_map]; omega)) only [AM.RB, Nat.reduceAdd, Nat.reduceMul, Nat.reduceEqDiff, reduceCtorEq, b13_C4, AM.wrap_i64]) | (refine AM.opW_tied (by kernel_rfl) ?_; simp (disch := first | omega | (simp only [AM.DB, List.length_set, List.length_map]; done) | (simp only [AM.DB, List.length_set, List.length_map]; omega)) only [AM.RB, Nat.reduceAdd, Nat.reduceMul, Nat.reduceEqDiff, reduceCtorEq, b13_C4, AM.wrap_i64]) | (refine AM.opW_untied (by kernel_rfl) ?_; simp (disch := first | omega | (simp only [AM.DB, List.length_set, List.length_map]; done) | (simp only [AM.DB, List.length_set, List.length_map]; omega)) only [AM.RB, Nat.reduceAdd, Nat.reduceMul, Nat.reduceEqDiff, reduceCtorEq, b13_C4, AM.wrap_i64]) | (refine AM.build_w ?_; simp (disch := first | omega | (simp only [AM.DB, List.length_set, List.length_map]; done) | (simp only [AM.DB, List.length_set, List.length_map]; omega)) only [AM.RB, Nat.reduceAdd, Nat.reduceMul, Nat.reduceEqDiff, reduceCtorEq, b13_C4, AM.wrap_i64])))
              refine ⟨i + 1, by omega, by simp, by omega, fr3, hto', ⟨v, ?_, hv⟩, M3, hM3, hcnt3⟩
              rw [clm, if_neg (fun q => by rw [hr] at q; simp only at q; omega)]; exact hc3)
          · try (exfalso; omega)
            all_goals (
              have hlen4 : bs.length = 4 := by omega
              (first | (simp (disch := first | omega | (simp only [AM.DB, List.length_set, List.length_map]; done) | (simp only [AM.DB, List.length_set, List.length_map]; omega)) only [AM.RB, Nat.reduceAdd, Nat.reduceMul, Nat.reduceEqDiff, reduceCtorEq, b13_C4, g3, AM.wrap_i64]) | skip); (repeat' (first | (refine AM.drawW_fine hp (by kernel_rfl) (by kernel_rfl) ?_; simp (disch := first | omega | (simp only [AM.DB, List.length_set, List.length_map]; done) | (simp only [AM.DB, List.length_set, List.length_map]; omega)) only [AM.RB, Nat.reduceAdd, Nat.reduceMul, Nat.reduceEqDiff, reduceCtorEq, b13_C4, g3, AM.wrap_i64]) | (refine AM.opW_tied (by kernel_rfl) ?_; simp (disch := first | omega | (simp only [AM.DB, List.length_set, List.length_map]; done) | (simp only [AM.DB, List.length_set, List.length_map]; omega)) only [AM.RB, Nat.reduceAdd, Nat.reduceMul, Nat.reduceEqDiff, reduceCtorEq, b13_C4, g3, AM.wrap_i64]) | (refine AM.opW_untied (by kernel_rfl) ?_; simp (disch := first | omega | (simp only [AM.DB, List.length_set, List.length_map]; done) | (simp only [AM.DB, List.length_set, List.length_map]; omega)) only [AM.RB, Nat.reduceAdd, Nat.reduceMul, Nat.reduceEqDiff, reduceCtorEq, b13_C4, g3, AM.wrap_i64]) | (refine AM.build_w ?_; simp (disch := first | omega | (simp only [AM.DB, List.length_set, List.length_map]; done) | (simp only [AM.DB, List.length_set, List.length_map]; omega)) only [AM.RB, Nat.reduceAdd, Nat.reduceMul, Nat.reduceEqDiff, reduceCtorEq, b13_C4, g3, AM.wrap_i64])))
              refine AM.condV_split (fun hq1 => ?_) (fun hq1 => by omega)
              have hcf := clm_facts l i hto
              (first | (simp (disch := first | omega | (simp only [AM.DB, List.length_set, List.length_map]; done) | (simp only [AM.DB, List.length_set, List.length_map]; omega)) only [AM.RB, Nat.reduceAdd, Nat.reduceMul, Nat.reduceEqDiff, reduceCtorEq, b13_C4, g3]) | skip); (repeat' (first | (refine AM.drawW_fine hp (by kernel_rfl) (by kernel_rfl) ?_; simp (disch := first | omega | (simp only [AM.DB, List.length_set, List.length_map]; done) | (simp only [AM.DB, List.length_set, List.length_map]; omega)) only [AM.RB, Nat.reduceAdd, Nat.reduceMul, Nat.reduceEqDiff, reduceCtorEq, b13_C4, g3]) | (refine AM.opW_tied (by kernel_rfl) ?_; simp (disch := first | omega | (simp only [AM.DB, List.length_set, List.length_map]; done) | (simp only [AM.DB, List.length_set, List.length_map]; omega)) only [AM.RB, Nat.reduceAdd, Nat.reduceMul, Nat.reduceEqDiff, reduceCtorEq, b13_C4, g3]) | (refine AM.opW_untied (by kernel_rfl) ?_; simp (disch := first | omega | (simp only [AM.DB, List.length_set, List.length_map]; done) | (simp only [AM.DB, List.length_set, List.length_map]; omega)) only [AM.RB, Nat.reduceAdd, Nat.reduceMul, Nat.reduceEqDiff, reduceCtorEq, b13_C4, g3]) | (refine AM.build_w ?_; simp (disch := first | omega | (simp only [AM.DB, List.length_set, List.length_map]; done) | (simp only [AM.DB, List.length_set, List.length_map]; omega)) only [AM.RB, Nat.reduceAdd, Nat.reduceMul, Nat.reduceEqDiff, reduceCtorEq, b13_C4, g3])))
              refine find_w hc3 hcf.1 (by omega) fun h5 fr5 => ?_
              have hc5 := hc3.fr0 fr5
              have g5 := fr5.get g3 (fun q => q)
              have hM5 := fr5.get hM3 (fun q => q)
              have lt5 := AM.get_some_lt g5
              have hlo5 := fr5.low
              have hl5 := fr5.hl (fr3.hl hl)
              have hg5 := hc5.1
              obtain ⟨va, vc, rfl⟩ := hc5.2.1.form
              (first | (simp (disch := first | omega | (simp only [AM.DB, List.length_set, List.length_map]; done) | (simp only [AM.DB, List.length_set, List.length_map]; omega)) only [AM.RB, Nat.reduceAdd, Nat.reduceMul, Nat.reduceEqDiff, reduceCtorEq, b13_C4, g5, hg5, AM.bsW_agg bs_31]) | skip); (repeat' (first | (refine AM.drawW_fine hp (by kernel_rfl) (by kernel_rfl) ?_; simp (disch := first | omega | (simp only [AM.DB, List.length_set, List.length_map]; done) | (simp only [AM.DB, List.length_set, List.length_map]; omega)) only [AM.RB, Nat.reduceAdd, Nat.reduceMul, Nat.reduceEqDiff, reduceCtorEq, b13_C4, g5, hg5, AM.bsW_agg bs_31]) | (refine AM.opW_tied (by kernel_rfl) ?_; simp (disch := first | omega | (simp only [AM.DB, List.length_set, List.length_map]; done) | (simp only [AM.DB, List.length_set, List.length_map]; omega)) only [AM.RB, Nat.reduceAdd, Nat.reduceMul, Nat.reduceEqDiff, reduceCtorEq, b13_C4, g5, hg5, AM.bsW_agg bs_31]) | (refine AM.opW_untied (by kernel_rfl) ?_; simp (disch := first | omega | (simp only [AM.DB, List.length_set, List.length_map]; done) | (simp only [AM.DB, List.length_set, List.length_map]; omega)) only [AM.RB, Nat.reduceAdd, Nat.reduceMul, Nat.reduceEqDiff, reduceCtorEq, b13_C4, g5, hg5, AM.bsW_agg bs_31]) | (refine AM.build_w ?_; simp (disch := first | omega | (simp only [AM.DB, List.length_set, List.length_map]; done) | (simp only [AM.DB, List.length_set, List.length_map]; omega)) only [AM.RB, Nat.reduceAdd, Nat.reduceMul, Nat.reduceEqDiff, reduceCtorEq, b13_C4, g5, hg5, AM.bsW_agg bs_31])))
              rw [List.take_length] at hg4 ⊢
              have fr6 : Fr none' h5 (h5.alloc (.cells (encC (nn, genB bs)) 45 false)) := (Fr.refl _ _).alloc _
              have hc6 := hc5.fr0 fr6
              have hM6 := fr6.get hM5 (fun q => q)
              have hx6 : Ow (h5.alloc (.cells (encC (nn, genB bs)) 45 false)) 45 2 (.slice (some ⟨h5.next, 0, none⟩) 1 1) 1 (encC (nn, genB bs)) := AM.Ow.whole (n := 1) (AM.get_alloc_self rfl) rfl hl5
              have hlt6 : ∀ id, idOf (.slice va (clm l i).length vc) id → id < h5.next := fun id q => hc5.2.1.lt q
              refine insert_cw (x := nn) (g := genB bs) hc6.2.1 hc6.2.2.1 hx6 (fun id q e => ?_) (fr6.hl hl5) (by omega) fun v' h7 ho7 hcp7 fr7 hid7 => ?_
              · have := hlt6 id q; have : id = h5.next := e; omega
              have hP := hc6.putIns ho7 hcp7 fr7 hid7
              have lt7 := AM.get_some_lt hP.1
              have lo7 := fr7.low
              simp only [AM.lw_alloc] at lo7
              have hg7 := hP.1
              obtain ⟨va', vc', rfl⟩ := ho7.form
              (first | (simp (disch := first | omega | (simp only [AM.DB, List.length_set, List.length_map]; done) | (simp only [AM.DB, List.length_set, List.length_map]; omega)) only [AM.RB, Nat.reduceAdd, Nat.reduceMul, Nat.reduceEqDiff, reduceCtorEq, b13_C4, hg7, AM.wrap_i64]) | skip); (repeat' (first | (refine AM.drawW_fine hp (by kernel_rfl) (by kernel_rfl) ?_; simp (disch := first | omega | (simp only [AM.DB, List.length_set, List.length_map]; done) | (simp only [AM.DB, List.length_set, List.length_map]; omega)) only [AM.RB, Nat.reduceAdd, Nat.reduceMul, Nat.reduceEqDiff, reduceCtorEq, b13_C4, hg7, AM.wrap_i64]) | (refine AM.opW_tied (by kernel_rfl) ?_; simp (disch := first | omega | (simp only [AM.DB, List.length_set, List.length_map]; done) | (simp only [AM.DB, List.length_set, List.length_map]; omega)) only [AM.RB, Nat.reduceAdd, Nat.reduceMul, Nat.reduceEqDiff, reduceCtorEq, b13_C4, hg7, AM.wrap_i64]) | (refine AM.opW_untied (by kernel_rfl) ?_; simp (disch := first | omega | (simp only [AM.DB, List.length_set, List.length_map]; done) | (simp only [AM.DB, List.length_set, List.length_map]; omega)) only [AM.RB, Nat.reduceAdd, Nat.reduceMul, Nat.reduceEqDiff, reduceCtorEq, b13_C4, hg7, AM.wrap_i64]) | (refine AM.build_w ?_; simp (disch := first | omega | (simp only [AM.DB, List.length_set, List.length_map]; done) | (simp only [AM.DB, List.length_set, List.length_map]; omega)) only [AM.RB, Nat.reduceAdd, Nat.reduceMul, Nat.reduceEqDiff, reduceCtorEq, b13_C4, hg7, AM.wrap_i64])))
              have eclm : clm l (i + 1) = insC (clm l i) nn (genB bs) := by rw [clm, hr, if_pos ⟨rfl, hlen4⟩]
              have nx5 := fr5.next
              simp only [AM.nx_alloc] at hid7
              refine ⟨i + 1, by omega, by simp, by omega, ((fr3.trans (fr5.trans fr6)).then fr7 fun id q1 q2 => ?_).put _ (.inl (by omega)), hto', ⟨_, by rw [eclm]; exact hP.2, fun id q => ?_⟩, M3, ?_, hcnt3⟩
              · have := hv id q2; omega
              · rcases hid7 id q with q | q
                · exact hv id q
                · omega
              · exact fr7.get hM6 (fun q => by have := hv _ q; omega)))
    · (first | (simp (disch := first | omega | (simp only [AM.DB, List.length_set, List.length_map]; done) | (simp only [AM.DB, List.length_set, List.length_map]; omega)) only [AM.RB, Nat.reduceAdd, Nat.reduceMul, Nat.reduceEqDiff, reduceCtorEq, b13_C4, AM.wrap_i64]) | skip); (repeat' (first | (refine AM.drawW_fine hp (by kernel_rfl) (by kernel_rfl) ?_; simp (disch := first | omega | (simp only [AM.DB, List.length_set, List.length_map]; done) | (simp only [AM.DB, List.length_set, List.length_map]; omega)) only [AM.RB, Nat.reduceAdd, Nat.reduceMul, Nat.reduceEqDiff, reduceCtorEq, b13_C4, AM.wrap_i64]) | (refine AM.opW_tied (by kernel_rfl) ?_; simp (disch := first | omega | (simp only [AM.DB, List.length_set, List.length_map]; done) | (simp only [AM.DB, List.length_set, List.length_map]; omega)) only [AM.RB, Nat.reduceAdd, Nat.reduceMul, Nat.reduceEqDiff, reduceCtorEq, b13_C4, AM.wrap_i64]) | (refine AM.opW_untied (by kernel_rfl) ?_; simp (disch := first | omega | (simp only [AM.DB, List.length_set, List.length_map]; done) | (simp only [AM.DB, List.length_set, List.length_map]; omega)) only [AM.RB, Nat.reduceAdd, Nat.reduceMul, Nat.reduceEqDiff, reduceCtorEq, b13_C4, AM.wrap_i64]) | (refine AM.build_w ?_; simp (disch := first | omega | (simp only [AM.DB, List.length_set, List.length_map]; done) | (simp only [AM.DB, List.length_set, List.length_map]; omega)) only [AM.RB, Nat.reduceAdd, Nat.reduceMul, Nat.reduceEqDiff, reduceCtorEq, b13_C4, AM.wrap_i64])))
      refine ⟨i + 1, by omega, by simp, by omega, fr.trans fr2, fun k hkk => ?_, ⟨v, ?_, hv⟩, M, hM2, fun x => ?_⟩
      · by_cases e : k = i
        · subst e; intro q; rw [badR, hr] at q; exact hk q.1
        · exact hto k (by omega)
      · rw [clm, if_neg (fun q => hk (by rw [hr] at q; exact q.1))]; exact hc2
      · rw [cnt_other (by rw [hr]; exact hk)]; exact hcnt x
  · obtain rfl : i = n := by omega
    have hg := hc.1
    obtain ⟨va, vc, rfl⟩ := hc.2.1.form
    (first | (simp (disch := first | omega | (simp only [AM.DB, List.length_set, List.length_map]; done) | (simp only [AM.DB, List.length_set, List.length_map]; omega)) only [AM.RB, Nat.reduceAdd, Nat.reduceMul, Nat.reduceEqDiff, reduceCtorEq, b13_C4, hg]) | skip); (repeat' (first | (refine AM.guard_spl ?_ ?_ <;> (intro hd hp_; simp (disch := first | omega | (simp only [AM.DB, List.length_set, List.length_map]; done) | (simp only [AM.DB, List.length_set, List.length_map]; omega)) only [AM.RB, Nat.reduceAdd, Nat.reduceMul, Nat.reduceEqDiff, reduceCtorEq, b13_C4, hd, hg])) | (refine AM.cond_spl ?_ ?_ <;> (intro hd hp_; simp (disch := first | omega | (simp only [AM.DB, List.length_set, List.length_map]; done) | (simp only [AM.DB, List.length_set, List.length_map]; omega)) only [AM.RB, Nat.reduceAdd, Nat.reduceMul, Nat.reduceEqDiff, reduceCtorEq, b13_C4, hd, hg])) | (refine AM.guard_b ?_ ?_ <;> (intro hd hp_; simp (disch := first | omega | (simp only [AM.DB, List.length_set, List.length_map]; done) | (simp only [AM.DB, List.length_set, List.length_map]; omega)) only [AM.RB, Nat.reduceAdd, Nat.reduceMul, Nat.reduceEqDiff, reduceCtorEq, b13_C4, hd, hg])) | (refine AM.cond_b ?_ ?_ <;> (intro hd hp_; simp (disch := first | omega | (simp only [AM.DB, List.length_set, List.length_map]; done) | (simp only [AM.DB, List.length_set, List.length_map]; omega)) only [AM.RB, Nat.reduceAdd, Nat.reduceMul, Nat.reduceEqDiff, reduceCtorEq, b13_C4, hd, hg])) | (refine AM.drawW_fine hp (by kernel_rfl) (by kernel_rfl) ?_; simp (disch := first | omega | (simp only [AM.DB, List.length_set, List.length_map]; done) | (simp only [AM.DB, List.length_set, List.length_map]; omega)) only [AM.RB, Nat.reduceAdd, Nat.reduceMul, Nat.reduceEqDiff, reduceCtorEq, b13_C4, hg]) | (refine AM.opW_tied (by kernel_rfl) ?_; simp (disch := first | omega | (simp only [AM.DB, List.length_set, List.length_map]; done) | (simp only [AM.DB, List.length_set, List.length_map]; omega)) only [AM.RB, Nat.reduceAdd, Nat.reduceMul, Nat.reduceEqDiff, reduceCtorEq, b13_C4, hg]) | (refine AM.opW_untied (by kernel_rfl) ?_; simp (disch := first | omega | (simp only [AM.DB, List.length_set, List.length_map]; done) | (simp only [AM.DB, List.length_set, List.length_map]; omega)) only [AM.RB, Nat.reduceAdd, Nat.reduceMul, Nat.reduceEqDiff, reduceCtorEq, b13_C4, hg]) | (refine AM.build_w ?_; simp (disch := first | omega | (simp only [AM.DB, List.length_set, List.length_map]; done) | (simp only [AM.DB, List.length_set, List.length_map]; omega)) only [AM.RB, Nat.reduceAdd, Nat.reduceMul, Nat.reduceEqDiff, reduceCtorEq, b13_C4, hg])))
    · exact hfull hto (by omega) _ fr
    · exact hok hto (by omega) _ _ _ hc fr (Nat.le_refl _) fun id q => by have := hv id q; omega

end Go.Proofs.Ytiigibhnjobcaaa

namespace Go.Proofs.Ytiigibhnjobcaaa
open Go.AM
set_option maxRecDepth 8000
theorem b17_C5 : type_of% (And.intro (@AM.bdV_some) (And.intro (@bd_45) (And.intro (@AM.bin_add) (And.intro (@AM.bin_lss) (And.intro (AM.bsW_agg bs_31) (And.intro (AM.bsW_nil bs_31) (And.intro (@AM.fa_ptr) (And.intro (@fd_58_0) (And.intro (@fd_58_1) (And.intro (@AM.fillL_cons) (And.intro (@AM.fillL_nil) (And.intro (@AM.fillS_agg) (And.intro (@AM.fillS_bool) (And.intro (@AM.fillS_func) (And.intro (@AM.fillS_int) (And.intro (@AM.fillS_map) (And.intro (@AM.fillS_pointer) (And.intro (@AM.fillS_slice) (And.intro (@AM.fillS_string) (And.intro (@AM.iaA_ok) (And.intro (AM.ia_array ar_55) (And.intro (AM.ia_array ar_56) (And.intro (@AM.ldO_agg) (And.intro (@AM.ldO_one) (And.intro (@AM.ld_ptr) (And.intro (@lk_38) (And.intro (@lk_4) (And.intro (@AM.op_append) (And.intro (@AM.op_binOp) (And.intro (@AM.op_build) (And.intro (@AM.op_buildSlice) (And.intro (@AM.op_fieldAddr) (And.intro (@AM.op_indexAddr) (And.intro (@AM.op_load) (@AM.op_nilCheck))))))))))))))))))))))))))))))))))) := And.intro (@AM.bdV_some) (And.intro (@bd_45) (And.intro (@AM.bin_add) (And.intro (@AM.bin_lss) (And.intro (AM.bsW_agg bs_31) (And.intro (AM.bsW_nil bs_31) (And.intro (@AM.fa_ptr) (And.intro (@fd_58_0) (And.intro (@fd_58_1) (And.intro (@AM.fillL_cons) (And.intro (@AM.fillL_nil) (And.intro (@AM.fillS_agg) (And.intro (@AM.fillS_bool) (And.intro (@AM.fillS_func) (And.intro (@AM.fillS_int) (And.intro (@AM.fillS_map) (And.intro (@AM.fillS_pointer) (And.intro (@AM.fillS_slice) (And.intro (@AM.fillS_string) (And.intro (@AM.iaA_ok) (And.intro (AM.ia_array ar_55) (And.intro (AM.ia_array ar_56) (And.intro (@AM.ldO_agg) (And.intro (@AM.ldO_one) (And.intro (@AM.ld_ptr) (And.intro (@lk_38) (And.intro (@lk_4) (And.intro (@AM.op_append) (And.intro (@AM.op_binOp) (And.intro (@AM.op_build) (And.intro (@AM.op_buildSlice) (And.intro (@AM.op_fieldAddr) (And.intro (@AM.op_indexAddr) (And.intro (@AM.op_load) (@AM.op_nilCheck))))))))))))))))))))))))))))))))))


/-! ### The document's claims: two rows of cells -/
theorem one_ref : (List.replicate 1024 (Value.bool false) ++ List.replicate 1024 (Value.int .u32 0)).all (·.oneCell') = true := by kernel_rfl
def Rc (h : AHeap) (p : Nat) (f : Int → Option Int) : Prop := ∃ c, h.get p = some (.cells c 58 false) ∧ c.length = 2048 ∧ h.low ≤ p ∧ ∀ n : Nat, n < 1024 → c[n]? = some (.bool (f n).isSome) ∧ ∃ g, c[1024 + n]? = some (.int .u32 g) ∧ ∀ y, f n = some y → y = g
theorem Rc.fr {h h' : AHeap} {p : Nat} {f : Int → Option Int} {S : Nat → Prop} (c : Rc h p f) (fr : Fr S h h') (h1 : ¬ S p) : Rc h' p f := by
  obtain ⟨c, a, b, d, e⟩ := c
  exact ⟨c, fr.get a h1, b, by rw [fr.low]; exact d, e⟩
theorem Rc.fr0 {h h' : AHeap} {p : Nat} {f : Int → Option Int} (c : Rc h p f) (fr : Fr none' h h') : Rc h' p f := c.fr fr fun q => q
theorem rc_zero {h : AHeap} {p : Nat} (hg : h.get p = some (.cells (List.replicate 1024 (.bool false) ++ List.replicate 1024 (.int .u32 0)) 58 false)) (hl : h.low ≤ p) : Rc h p fun _ => none := by
  refine ⟨_, hg, by rw [List.length_append, List.length_replicate, List.length_replicate], hl, fun n hn => ⟨?_, 0, ?_, fun y q => by cases q⟩⟩
  · rw [List.getElem?_append_left (by rw [List.length_replicate]; exact hn), List.getElem?_replicate, if_pos hn]; rfl
  · rw [List.getElem?_append_right (by rw [List.length_replicate]; omega), List.length_replicate, List.getElem?_replicate, if_pos (by omega)]
/-- A cell that is claimed. -/
theorem Rc.claim {h : AHeap} {p : Nat} {f : Int → Option Int} {c : List Value} (b : c.length = 2048) (d : h.low ≤ p) (hlt : p < h.next) (e : ∀ n : Nat, n < 1024 → c[n]? = some (.bool (f n).isSome) ∧ ∃ g, c[1024 + n]? = some (.int .u32 g) ∧ ∀ y, f n = some y → y = g) (x : Nat) (hx : x < 1024) (g : Int) {f' : Int → Option Int} (hf : ∀ y : Int, f' y = if y = x then some g else f y) {h' : AHeap} (hg : h'.get p = some (.cells ((c.set x (.bool true)).set (1024 + x) (.int .u32 g)) 58 false)) (hlo : h'.low = h.low) : Rc h' p f' := by
  refine ⟨_, hg, by simpa using b, by omega, fun n hn => ?_⟩
  obtain ⟨e1, g1, e2, e3⟩ := e n hn
  simp only [List.getElem?_set, List.length_set]
  rw [hf]
  by_cases q : x = n
  · subst q
    rw [if_neg (by omega), if_pos rfl, if_pos (by omega), if_pos rfl, if_pos rfl, if_pos (by omega)]
    exact ⟨rfl, g, rfl, fun y hy => (Option.some.inj hy).symm⟩
  · rw [if_neg (by omega), if_neg q, if_neg (by omega), if_neg (by omega), if_neg (by omega)]
    exact ⟨e1, g1, e2, e3⟩

def allF (f : Int → Option Int) : Nat → List Cm
  | 0 => []
  | n + 1 => allF f n ++ (match f n with | some g => [((n : Int), g)] | none => [])
theorem allF_len (f : Int → Option Int) (n : Nat) : (allF f n).length ≤ n := by
  induction n with
  | zero => exact Nat.le_refl _
  | succ n ih => rw [allF, List.length_append]; cases f n <;> simp <;> omega
theorem allF_facts (f : Int → Option Int) (n : Nat) : Srt (allF f n) ∧ (∀ p ∈ allF f n, p.1 < n) ∧ ∀ x, getC (allF f n) x = if 0 ≤ x ∧ x < n then f x else none := by
  induction n with
  | zero => exact ⟨List.Pairwise.nil, fun p h => (by cases h), fun x => by rw [if_neg (by omega)]; rfl⟩
  | succ n ih =>
    obtain ⟨h1, h2, h3⟩ := ih
    rw [allF]
    refine ⟨?_, fun p hp => ?_, fun x => ?_⟩
    · unfold Srt
      rw [List.pairwise_append]
      refine ⟨h1, by cases f n <;> simp, fun a ha b hb => ?_⟩
      have := h2 a ha
      cases hf : f n with
      | none => rw [hf] at hb; cases hb
      | some g => rw [hf] at hb; obtain rfl := List.mem_singleton.1 hb; exact this
    · rcases List.mem_append.1 hp with hp | hp
      · have := h2 p hp; omega
      · cases hf : f n with
        | none => rw [hf] at hp; cases hp
        | some g => rw [hf] at hp; obtain rfl := List.mem_singleton.1 hp; simp only; omega
    · rw [getC_append, h3]
      by_cases e : x = n
      · subst e
        rw [if_neg (by omega), if_pos (by omega)]
        cases f n with
        | none => rfl
        | some g => simp [getC]
      · have hz : getC (match f n with | some g => [((n : Int), g)] | none => []) x = none := by
          cases f n with
          | none => rfl
          | some g => rw [getC_cons, if_neg (by simp only; omega)]; rfl
        rw [hz]
        by_cases q : 0 ≤ x ∧ x < n
        · rw [if_pos q, if_pos (by omega)]; simp
        · rw [if_neg q, if_neg (by omega)]; rfl
theorem allF_get {L : List Cm} (hs : Srt L) (hb : ∀ x, (getC L x).isSome = true → 0 ≤ x ∧ x < 1024) : allF (getC L) 1024 = L := by
  obtain ⟨h1, _, h3⟩ := allF_facts (getC L) 1024
  refine srt_ext h1 hs fun x => ?_
  rw [h3]
  by_cases q : 0 ≤ x ∧ x < 1024
  · rw [if_pos (by omega)]
  · rw [if_neg (by omega)]
    cases hg : getC L x with
    | none => rfl
    | some g => exact absurd (hb x (by rw [hg]; rfl)) q

theorem refAll_w {p : Nat} {f : Int → Option Int} {h : AHeap} (hc : Rc h p f) (hl : h.low ≤ h.next) {Q : VQ}
    (hq : ∀ v' h', Ow h' 45 2 v' (allF f 1024).length ((allF f 1024).flatMap encC) → Fr none' h h' → (∀ id, idOf v' id → h.next ≤ id) → Q v' h') : W 17 [pv p] h Q := by
  obtain ⟨c, hg, hcl, hlow, hcs⟩ := hc
  refine AM.enter hp (fn := Try.f17) (rs := [.tmp 2]) (nt := 27) (by kernel_rfl) Try.func17 rfl rfl rfl (by kernel_rfl) ?_
  (first | (simp (disch := first | omega | (simp only [AM.DB, List.length_set, List.length_map]; done) | (simp only [AM.DB, List.length_set, List.length_map]; omega)) only [AM.RB, Nat.reduceAdd, Nat.reduceMul, Nat.reduceEqDiff, reduceCtorEq, b17_C5]) | skip); (repeat' (first | (refine AM.drawW_fine hp (by kernel_rfl) (by kernel_rfl) ?_; simp (disch := first | omega | (simp only [AM.DB, List.length_set, List.length_map]; done) | (simp only [AM.DB, List.length_set, List.length_map]; omega)) only [AM.RB, Nat.reduceAdd, Nat.reduceMul, Nat.reduceEqDiff, reduceCtorEq, b17_C5]) | (refine AM.opW_tied (by kernel_rfl) ?_; simp (disch := first | omega | (simp only [AM.DB, List.length_set, List.length_map]; done) | (simp only [AM.DB, List.length_set, List.length_map]; omega)) only [AM.RB, Nat.reduceAdd, Nat.reduceMul, Nat.reduceEqDiff, reduceCtorEq, b17_C5]) | (refine AM.opW_untied (by kernel_rfl) ?_; simp (disch := first | omega | (simp only [AM.DB, List.length_set, List.length_map]; done) | (simp only [AM.DB, List.length_set, List.length_map]; omega)) only [AM.RB, Nat.reduceAdd, Nat.reduceMul, Nat.reduceEqDiff, reduceCtorEq, b17_C5]) | (refine AM.build_w ?_; simp (disch := first | omega | (simp only [AM.DB, List.length_set, List.length_map]; done) | (simp only [AM.DB, List.length_set, List.length_map]; omega)) only [AM.RB, Nat.reduceAdd, Nat.reduceMul, Nat.reduceEqDiff, reduceCtorEq, b17_C5])))
  refine AM.loop_w hp 27 (fun q : Nat × Value => [(0, pv p), (3, q.2), (4, .int .i64 q.1)])
    (fun q h' => q.1 ≤ 1024 ∧ Fr none' h h' ∧ Ow h' 45 2 q.2 (allF f q.1).length ((allF f q.1).flatMap encC) ∧ ∀ id, idOf q.2 id → h.next ≤ id) (fun q => 1024 - q.1) (by kernel_rfl) (0, .slice none 0 0) ?_ ?_ ?_
  · simp (disch := first | omega | (simp only [AM.DB, List.length_set, List.length_map]; done) | (simp only [AM.DB, List.length_set, List.length_map]; omega)) only [AM.RB, Nat.reduceAdd, Nat.reduceMul, Nat.reduceEqDiff, reduceCtorEq, b17_C5]
  · exact ⟨Nat.zero_le _, Fr.refl _ _, Ow.nil _ _ _, fun _ q => q.elim⟩
  rintro ⟨i, s⟩ h1 ρ ⟨hi, fr, ho, hid⟩
  simp only at hi ho hid ⊢
  have hg1 := fr.get hg (fun q => q)
  have hlt1 := AM.get_some_lt hg1
  simp (disch := first | omega | (simp only [AM.DB, List.length_set, List.length_map]; done) | (simp only [AM.DB, List.length_set, List.length_map]; omega)) only [AM.RB, Nat.reduceAdd, Nat.reduceMul, Nat.reduceEqDiff, reduceCtorEq, b17_C5]
  refine AM.condV_split (fun hlt => ?_) (fun hlt => ?_)
  · obtain ⟨e1, g, e2, e3⟩ := hcs i (by omega)
    have e1' : c[0 + i]? = some (.bool (f i).isSome) := by rw [Nat.zero_add]; exact e1
    (first | (simp (disch := first | omega | (simp only [AM.DB, List.length_set, List.length_map]; done) | (simp only [AM.DB, List.length_set, List.length_map]; omega)) only [AM.RB, Nat.reduceAdd, Nat.reduceMul, Nat.reduceEqDiff, reduceCtorEq, b17_C5, hg1, Int.toNat_natCast, e1, e1', e2]) | skip); (repeat' (first | (refine AM.drawW_fine hp (by kernel_rfl) (by kernel_rfl) ?_; simp (disch := first | omega | (simp only [AM.DB, List.length_set, List.length_map]; done) | (simp only [AM.DB, List.length_set, List.length_map]; omega)) only [AM.RB, Nat.reduceAdd, Nat.reduceMul, Nat.reduceEqDiff, reduceCtorEq, b17_C5, hg1, Int.toNat_natCast, e1, e1', e2]) | (refine AM.opW_tied (by kernel_rfl) ?_; simp (disch := first | omega | (simp only [AM.DB, List.length_set, List.length_map]; done) | (simp only [AM.DB, List.length_set, List.length_map]; omega)) only [AM.RB, Nat.reduceAdd, Nat.reduceMul, Nat.reduceEqDiff, reduceCtorEq, b17_C5, hg1, Int.toNat_natCast, e1, e1', e2]) | (refine AM.opW_untied (by kernel_rfl) ?_; simp (disch := first | omega | (simp only [AM.DB, List.length_set, List.length_map]; done) | (simp only [AM.DB, List.length_set, List.length_map]; omega)) only [AM.RB, Nat.reduceAdd, Nat.reduceMul, Nat.reduceEqDiff, reduceCtorEq, b17_C5, hg1, Int.toNat_natCast, e1, e1', e2]) | (refine AM.build_w ?_; simp (disch := first | omega | (simp only [AM.DB, List.length_set, List.length_map]; done) | (simp only [AM.DB, List.length_set, List.length_map]; omega)) only [AM.RB, Nat.reduceAdd, Nat.reduceMul, Nat.reduceEqDiff, reduceCtorEq, b17_C5, hg1, Int.toNat_natCast, e1, e1', e2])))
    refine AM.condV_bool (fun hb => ?_) (fun hb => ?_)
    · (first | (simp (disch := first | omega | (simp only [AM.DB, List.length_set, List.length_map]; done) | (simp only [AM.DB, List.length_set, List.length_map]; omega)) only [AM.RB, Nat.reduceAdd, Nat.reduceMul, Nat.reduceEqDiff, reduceCtorEq, b17_C5, hg1, Int.toNat_natCast, e1, e1', e2]) | skip); (repeat' (first | (refine AM.drawW_fine hp (by kernel_rfl) (by kernel_rfl) ?_; simp (disch := first | omega | (simp only [AM.DB, List.length_set, List.length_map]; done) | (simp only [AM.DB, List.length_set, List.length_map]; omega)) only [AM.RB, Nat.reduceAdd, Nat.reduceMul, Nat.reduceEqDiff, reduceCtorEq, b17_C5, hg1, Int.toNat_natCast, e1, e1', e2]) | (refine AM.opW_tied (by kernel_rfl) ?_; simp (disch := first | omega | (simp only [AM.DB, List.length_set, List.length_map]; done) | (simp only [AM.DB, List.length_set, List.length_map]; omega)) only [AM.RB, Nat.reduceAdd, Nat.reduceMul, Nat.reduceEqDiff, reduceCtorEq, b17_C5, hg1, Int.toNat_natCast, e1, e1', e2]) | (refine AM.opW_untied (by kernel_rfl) ?_; simp (disch := first | omega | (simp only [AM.DB, List.length_set, List.length_map]; done) | (simp only [AM.DB, List.length_set, List.length_map]; omega)) only [AM.RB, Nat.reduceAdd, Nat.reduceMul, Nat.reduceEqDiff, reduceCtorEq, b17_C5, hg1, Int.toNat_natCast, e1, e1', e2]) | (refine AM.build_w ?_; simp (disch := first | omega | (simp only [AM.DB, List.length_set, List.length_map]; done) | (simp only [AM.DB, List.length_set, List.length_map]; omega)) only [AM.RB, Nat.reduceAdd, Nat.reduceMul, Nat.reduceEqDiff, reduceCtorEq, b17_C5, hg1, Int.toNat_natCast, e1, e1', e2])))
      have efi : f i = some g := by
        cases hf : f i with
        | none => rw [hf] at hb; cases hb
        | some y => rw [e3 y hf]
      have eall : allF f (i + 1) = allF f i ++ [((i : Int), g)] := by rw [allF, efi]
      have hll := allF_len f i
      have fr2 : Fr none' h1 (h1.alloc (.cells (encC ((i : Int), g)) 45 false)) := (Fr.refl _ _).alloc _
      have hl1 := fr.hl hl
      refine AM.appends_w ap_31 ap_31 (ho.fr0 fr2) (AM.Rd.whole (n := 1) (c := encC ((i : Int), g)) (AM.get_alloc_self rfl) rfl) rfl (fr2.hl hl1) (AM.fits (by omega) (by omega)) (AM.fits' (by omega)) fun v' h3 ho3 fr3 hid3 => ?_
      have lt3 := fr3.lt (fr2.lt hlt1)
      (first | (simp (disch := first | omega | (simp only [AM.DB, List.length_set, List.length_map]; done) | (simp only [AM.DB, List.length_set, List.length_map]; omega)) only [AM.RB, Nat.reduceAdd, Nat.reduceMul, Nat.reduceEqDiff, reduceCtorEq, b17_C5, AM.wrap_i64]) | skip); (repeat' (first | (refine AM.drawW_fine hp (by kernel_rfl) (by kernel_rfl) ?_; simp (disch := first | omega | (simp only [AM.DB, List.length_set, List.length_map]; done) | (simp only [AM.DB, List.length_set, List.length_map]; omega)) only [AM.RB, Nat.reduceAdd, Nat.reduceMul, Nat.reduceEqDiff, reduceCtorEq, b17_C5, AM.wrap_i64]) | (refine AM.opW_tied (by kernel_rfl) ?_; simp (disch := first | omega | (simp only [AM.DB, List.length_set, List.length_map]; done) | (simp only [AM.DB, List.length_set, List.length_map]; omega)) only [AM.RB, Nat.reduceAdd, Nat.reduceMul, Nat.reduceEqDiff, reduceCtorEq, b17_C5, AM.wrap_i64]) | (refine AM.opW_untied (by kernel_rfl) ?_; simp (disch := first | omega | (simp only [AM.DB, List.length_set, List.length_map]; done) | (simp only [AM.DB, List.length_set, List.length_map]; omega)) only [AM.RB, Nat.reduceAdd, Nat.reduceMul, Nat.reduceEqDiff, reduceCtorEq, b17_C5, AM.wrap_i64]) | (refine AM.build_w ?_; simp (disch := first | omega | (simp only [AM.DB, List.length_set, List.length_map]; done) | (simp only [AM.DB, List.length_set, List.length_map]; omega)) only [AM.RB, Nat.reduceAdd, Nat.reduceMul, Nat.reduceEqDiff, reduceCtorEq, b17_C5, AM.wrap_i64])))
      have nx1 := fr.next
      refine ⟨(i + 1, v'), by simp only; omega, ⟨rfl, by simp⟩, by simp only; omega, (fr.trans fr2).then fr3 fun id q1 q2 => ?_, ?_, fun id q => ?_⟩
      · have := hid id q2; omega
      · rw [eall, List.flatMap_append, List.length_append]; exact ho3
      · rcases hid3 id q with q | q
        · exact hid id q
        · simp only [AM.nx_alloc] at q; omega
    · (first | (simp (disch := first | omega | (simp only [AM.DB, List.length_set, List.length_map]; done) | (simp only [AM.DB, List.length_set, List.length_map]; omega)) only [AM.RB, Nat.reduceAdd, Nat.reduceMul, Nat.reduceEqDiff, reduceCtorEq, b17_C5, AM.wrap_i64]) | skip); (repeat' (first | (refine AM.drawW_fine hp (by kernel_rfl) (by kernel_rfl) ?_; simp (disch := first | omega | (simp only [AM.DB, List.length_set, List.length_map]; done) | (simp only [AM.DB, List.length_set, List.length_map]; omega)) only [AM.RB, Nat.reduceAdd, Nat.reduceMul, Nat.reduceEqDiff, reduceCtorEq, b17_C5, AM.wrap_i64]) | (refine AM.opW_tied (by kernel_rfl) ?_; simp (disch := first | omega | (simp only [AM.DB, List.length_set, List.length_map]; done) | (simp only [AM.DB, List.length_set, List.length_map]; omega)) only [AM.RB, Nat.reduceAdd, Nat.reduceMul, Nat.reduceEqDiff, reduceCtorEq, b17_C5, AM.wrap_i64]) | (refine AM.opW_untied (by kernel_rfl) ?_; simp (disch := first | omega | (simp only [AM.DB, List.length_set, List.length_map]; done) | (simp only [AM.DB, List.length_set, List.length_map]; omega)) only [AM.RB, Nat.reduceAdd, Nat.reduceMul, Nat.reduceEqDiff, reduceCtorEq, b17_C5, AM.wrap_i64]) | (refine AM.build_w ?_; simp (disch := first | omega | (simp only [AM.DB, List.length_set, List.length_map]; done) | (simp only [AM.DB, List.length_set, List.length_map]; omega)) only [AM.RB, Nat.reduceAdd, Nat.reduceMul, Nat.reduceEqDiff, reduceCtorEq, b17_C5, AM.wrap_i64])))
      have efi : f i = none := by
        cases hf : f i with
        | none => rfl
        | some y => rw [hf] at hb; cases hb
      have eall : allF f (i + 1) = allF f i := by rw [allF, efi]; simp
      exact ⟨(i + 1, s), by simp only; omega, ⟨rfl, by simp⟩, by simp only; omega, fr, by rw [eall]; exact ho, hid⟩
  · obtain rfl : i = 1024 := by omega
    (first | (simp (disch := first | omega | (simp only [AM.DB, List.length_set, List.length_map]; done) | (simp only [AM.DB, List.length_set, List.length_map]; omega)) only [AM.RB, Nat.reduceAdd, Nat.reduceMul, Nat.reduceEqDiff, reduceCtorEq, b17_C5]) | skip); (repeat' (first | (refine AM.drawW_fine hp (by kernel_rfl) (by kernel_rfl) ?_; simp (disch := first | omega | (simp only [AM.DB, List.length_set, List.length_map]; done) | (simp only [AM.DB, List.length_set, List.length_map]; omega)) only [AM.RB, Nat.reduceAdd, Nat.reduceMul, Nat.reduceEqDiff, reduceCtorEq, b17_C5]) | (refine AM.opW_tied (by kernel_rfl) ?_; simp (disch := first | omega | (simp only [AM.DB, List.length_set, List.length_map]; done) | (simp only [AM.DB, List.length_set, List.length_map]; omega)) only [AM.RB, Nat.reduceAdd, Nat.reduceMul, Nat.reduceEqDiff, reduceCtorEq, b17_C5]) | (refine AM.opW_untied (by kernel_rfl) ?_; simp (disch := first | omega | (simp only [AM.DB, List.length_set, List.length_map]; done) | (simp only [AM.DB, List.length_set, List.length_map]; omega)) only [AM.RB, Nat.reduceAdd, Nat.reduceMul, Nat.reduceEqDiff, reduceCtorEq, b17_C5]) | (refine AM.build_w ?_; simp (disch := first | omega | (simp only [AM.DB, List.length_set, List.length_map]; done) | (simp only [AM.DB, List.length_set, List.length_map]; omega)) only [AM.RB, Nat.reduceAdd, Nat.reduceMul, Nat.reduceEqDiff, reduceCtorEq, b17_C5])))
    exact hq _ _ ho fr hid

end Go.Proofs.Ytiigibhnjobcaaa

namespace Go.Proofs.Ytiigibhnjobcaaa
open Go.AM
set_option maxRecDepth 8000
theorem b21_C8 : type_of% (And.intro (@Option.isNone_none.{0}) (And.intro (@Option.isNone_some.{0}) (And.intro (@AM.bdV_some) (And.intro (@bd_45) (And.intro (@AM.bin_geq) (And.intro (AM.bin_pnil ul_23) (And.intro (AM.bsW_agg bs_31) (And.intro (AM.bsW_nil bs_31) (And.intro (@AM.ex_tuple) (And.intro (@AM.fa_ptr) (And.intro (@fd_37_0) (And.intro (@AM.fillL_cons) (And.intro (@AM.fillL_nil) (And.intro (@AM.fillS_agg) (And.intro (@AM.fillS_bool) (And.intro (@AM.fillS_func) (And.intro (@AM.fillS_int) (And.intro (@AM.fillS_map) (And.intro (@AM.fillS_pointer) (And.intro (@AM.fillS_slice) (And.intro (@AM.fillS_string) (And.intro (@AM.ldO_agg) (And.intro (@AM.ldO_one) (And.intro (@AM.ld_ptr) (And.intro (AM.len_slice ul_31) (And.intro (@lk_31) (And.intro (@AM.op_binOp) (And.intro (@AM.op_build) (And.intro (@AM.op_buildSlice) (And.intro (@AM.op_call) (And.intro (@AM.op_extract) (And.intro (@AM.op_fieldAddr) (And.intro (@AM.op_len) (And.intro (@AM.op_load) (And.intro (@AM.op_nilCheck) (And.intro (@AM.op_store) (And.intro (@AM.op_unOp) (And.intro (@AM.stO_agg) (And.intro (@AM.stO_bool) (And.intro (@AM.stO_int) (And.intro (@AM.stO_map) (And.intro (@AM.stO_pointer) (And.intro (@AM.stO_slice) (And.intro (@AM.stO_string) (And.intro (@AM.st_ptr) (And.intro (@sz_31) (And.intro (@AM.un_neg) (@AM.un_not)))))))))))))))))))))))))))))))))))))))))))))))) := And.intro (@Option.isNone_none.{0}) (And.intro (@Option.isNone_some.{0}) (And.intro (@AM.bdV_some) (And.intro (@bd_45) (And.intro (@AM.bin_geq) (And.intro (AM.bin_pnil ul_23) (And.intro (AM.bsW_agg bs_31) (And.intro (AM.bsW_nil bs_31) (And.intro (@AM.ex_tuple) (And.intro (@AM.fa_ptr) (And.intro (@fd_37_0) (And.intro (@AM.fillL_cons) (And.intro (@AM.fillL_nil) (And.intro (@AM.fillS_agg) (And.intro (@AM.fillS_bool) (And.intro (@AM.fillS_func) (And.intro (@AM.fillS_int) (And.intro (@AM.fillS_map) (And.intro (@AM.fillS_pointer) (And.intro (@AM.fillS_slice) (And.intro (@AM.fillS_string) (And.intro (@AM.ldO_agg) (And.intro (@AM.ldO_one) (And.intro (@AM.ld_ptr) (And.intro (AM.len_slice ul_31) (And.intro (@lk_31) (And.intro (@AM.op_binOp) (And.intro (@AM.op_build) (And.intro (@AM.op_buildSlice) (And.intro (@AM.op_call) (And.intro (@AM.op_extract) (And.intro (@AM.op_fieldAddr) (And.intro (@AM.op_len) (And.intro (@AM.op_load) (And.intro (@AM.op_nilCheck) (And.intro (@AM.op_store) (And.intro (@AM.op_unOp) (And.intro (@AM.stO_agg) (And.intro (@AM.stO_bool) (And.intro (@AM.stO_int) (And.intro (@AM.stO_map) (And.intro (@AM.stO_pointer) (And.intro (@AM.stO_slice) (And.intro (@AM.stO_string) (And.intro (@AM.st_ptr) (And.intro (@sz_31) (And.intro (@AM.un_neg) (@AM.un_not)))))))))))))))))))))))))))))))))))))))))))))))


/-! ### Take -/
def takeR (L : List Cm) (x : Int) : Int := if 0 ≤ x ∧ x < 1024 then (if (getC L x).isSome = true then 150 else if 16 ≤ L.length then 151 else 0) else 2
def takeL (L : List Cm) (x g : Int) : List Cm := if takeR L x = 0 then insC L x g else L
theorem take_w {p : Nat} {v : Value} {L : List Cm} {x g : Int} {h : AHeap} (hc : Cl h p v L) (hsrt : Srt L) (hn : L.length ≤ 16) (hl : h.low ≤ h.next) {Q : VQ}
    (hq : ∀ v' h', Cl h' p v' (takeL L x g) → Fr (fun id => id = p ∨ idOf v id) h h' → (∀ id, idOf v' id → idOf v id ∨ h.next ≤ id) → Q (.int .i64 (takeR L x)) h') : W 21 [pv p, .int .i64 x, .int .u32 g] h Q := by
  refine AM.enter hp (fn := Try.f21) (rs := [.tmp 6]) (nt := 43) (by kernel_rfl) Try.func21 rfl rfl rfl (by kernel_rfl) ?_
  (first | (simp (disch := first | omega | (simp only [AM.DB, List.length_set, List.length_map]; done) | (simp only [AM.DB, List.length_set, List.length_map]; omega)) only [AM.RB, Nat.reduceAdd, Nat.reduceMul, Nat.reduceEqDiff, reduceCtorEq, b21_C8]) | skip); (repeat' (first | (refine AM.drawW_fine hp (by kernel_rfl) (by kernel_rfl) ?_; simp (disch := first | omega | (simp only [AM.DB, List.length_set, List.length_map]; done) | (simp only [AM.DB, List.length_set, List.length_map]; omega)) only [AM.RB, Nat.reduceAdd, Nat.reduceMul, Nat.reduceEqDiff, reduceCtorEq, b21_C8]) | (refine AM.opW_tied (by kernel_rfl) ?_; simp (disch := first | omega | (simp only [AM.DB, List.length_set, List.length_map]; done) | (simp only [AM.DB, List.length_set, List.length_map]; omega)) only [AM.RB, Nat.reduceAdd, Nat.reduceMul, Nat.reduceEqDiff, reduceCtorEq, b21_C8]) | (refine AM.opW_untied (by kernel_rfl) ?_; simp (disch := first | omega | (simp only [AM.DB, List.length_set, List.length_map]; done) | (simp only [AM.DB, List.length_set, List.length_map]; omega)) only [AM.RB, Nat.reduceAdd, Nat.reduceMul, Nat.reduceEqDiff, reduceCtorEq, b21_C8]) | (refine AM.build_w ?_; simp (disch := first | omega | (simp only [AM.DB, List.length_set, List.length_map]; done) | (simp only [AM.DB, List.length_set, List.length_map]; omega)) only [AM.RB, Nat.reduceAdd, Nat.reduceMul, Nat.reduceEqDiff, reduceCtorEq, b21_C8])))
  refine find_w hc hsrt (by omega) fun h1 fr1 => ?_
  have hc1 := hc.fr0 fr1
  have hl1 := fr1.hl hl
  have lo1 := fr1.low
  have nx1 := fr1.next
  have hg1 := hc1.1
  have lt1 := AM.get_some_lt hg1
  obtain ⟨va, vc, rfl⟩ := hc1.2.1.form
  (first | (simp (disch := first | omega | (simp only [AM.DB, List.length_set, List.length_map]; done) | (simp only [AM.DB, List.length_set, List.length_map]; omega)) only [AM.RB, Nat.reduceAdd, Nat.reduceMul, Nat.reduceEqDiff, reduceCtorEq, b21_C8]) | skip); (repeat' (first | (refine AM.drawW_fine hp (by kernel_rfl) (by kernel_rfl) ?_; simp (disch := first | omega | (simp only [AM.DB, List.length_set, List.length_map]; done) | (simp only [AM.DB, List.length_set, List.length_map]; omega)) only [AM.RB, Nat.reduceAdd, Nat.reduceMul, Nat.reduceEqDiff, reduceCtorEq, b21_C8]) | (refine AM.opW_tied (by kernel_rfl) ?_; simp (disch := first | omega | (simp only [AM.DB, List.length_set, List.length_map]; done) | (simp only [AM.DB, List.length_set, List.length_map]; omega)) only [AM.RB, Nat.reduceAdd, Nat.reduceMul, Nat.reduceEqDiff, reduceCtorEq, b21_C8]) | (refine AM.opW_untied (by kernel_rfl) ?_; simp (disch := first | omega | (simp only [AM.DB, List.length_set, List.length_map]; done) | (simp only [AM.DB, List.length_set, List.length_map]; omega)) only [AM.RB, Nat.reduceAdd, Nat.reduceMul, Nat.reduceEqDiff, reduceCtorEq, b21_C8]) | (refine AM.build_w ?_; simp (disch := first | omega | (simp only [AM.DB, List.length_set, List.length_map]; done) | (simp only [AM.DB, List.length_set, List.length_map]; omega)) only [AM.RB, Nat.reduceAdd, Nat.reduceMul, Nat.reduceEqDiff, reduceCtorEq, b21_C8])))
  refine known_w x _ _ ?_
  (first | (simp (disch := first | omega | (simp only [AM.DB, List.length_set, List.length_map]; done) | (simp only [AM.DB, List.length_set, List.length_map]; omega)) only [AM.RB, Nat.reduceAdd, Nat.reduceMul, Nat.reduceEqDiff, reduceCtorEq, b21_C8, hg1]) | skip); (repeat' (first | (refine AM.guard_spl ?_ ?_ <;> (intro hd hp_; simp (disch := first | omega | (simp only [AM.DB, List.length_set, List.length_map]; done) | (simp only [AM.DB, List.length_set, List.length_map]; omega)) only [AM.RB, Nat.reduceAdd, Nat.reduceMul, Nat.reduceEqDiff, reduceCtorEq, b21_C8, hd, hg1])) | (refine AM.cond_spl ?_ ?_ <;> (intro hd hp_; simp (disch := first | omega | (simp only [AM.DB, List.length_set, List.length_map]; done) | (simp only [AM.DB, List.length_set, List.length_map]; omega)) only [AM.RB, Nat.reduceAdd, Nat.reduceMul, Nat.reduceEqDiff, reduceCtorEq, b21_C8, hd, hg1])) | (refine AM.guard_b ?_ ?_ <;> (intro hd hp_; simp (disch := first | omega | (simp only [AM.DB, List.length_set, List.length_map]; done) | (simp only [AM.DB, List.length_set, List.length_map]; omega)) only [AM.RB, Nat.reduceAdd, Nat.reduceMul, Nat.reduceEqDiff, reduceCtorEq, b21_C8, hd, hg1])) | (refine AM.cond_b ?_ ?_ <;> (intro hd hp_; simp (disch := first | omega | (simp only [AM.DB, List.length_set, List.length_map]; done) | (simp only [AM.DB, List.length_set, List.length_map]; omega)) only [AM.RB, Nat.reduceAdd, Nat.reduceMul, Nat.reduceEqDiff, reduceCtorEq, b21_C8, hd, hg1])) | (refine AM.drawW_fine hp (by kernel_rfl) (by kernel_rfl) ?_; simp (disch := first | omega | (simp only [AM.DB, List.length_set, List.length_map]; done) | (simp only [AM.DB, List.length_set, List.length_map]; omega)) only [AM.RB, Nat.reduceAdd, Nat.reduceMul, Nat.reduceEqDiff, reduceCtorEq, b21_C8, hg1]) | (refine AM.opW_tied (by kernel_rfl) ?_; simp (disch := first | omega | (simp only [AM.DB, List.length_set, List.length_map]; done) | (simp only [AM.DB, List.length_set, List.length_map]; omega)) only [AM.RB, Nat.reduceAdd, Nat.reduceMul, Nat.reduceEqDiff, reduceCtorEq, b21_C8, hg1]) | (refine AM.opW_untied (by kernel_rfl) ?_; simp (disch := first | omega | (simp only [AM.DB, List.length_set, List.length_map]; done) | (simp only [AM.DB, List.length_set, List.length_map]; omega)) only [AM.RB, Nat.reduceAdd, Nat.reduceMul, Nat.reduceEqDiff, reduceCtorEq, b21_C8, hg1]) | (refine AM.build_w ?_; simp (disch := first | omega | (simp only [AM.DB, List.length_set, List.length_map]; done) | (simp only [AM.DB, List.length_set, List.length_map]; omega)) only [AM.RB, Nat.reduceAdd, Nat.reduceMul, Nat.reduceEqDiff, reduceCtorEq, b21_C8, hg1])))
  · have e : takeR L x = 150 := by unfold takeR; rw [if_pos (by assumption), if_pos (by rw [← hasC_get]; assumption)]
    have e2 : takeL L x g = L := by unfold takeL; rw [e, if_neg (by omega)]
    rw [e, e2] at hq
    exact hq _ _ hc1 fr1.weak fun id q => .inl q
  · have e : takeR L x = 151 := by unfold takeR; rw [if_pos (by assumption), if_neg (by rw [← hasC_get]; simp [*]), if_pos (by omega)]
    have e2 : takeL L x g = L := by unfold takeL; rw [e, if_neg (by omega)]
    rw [e, e2] at hq
    exact hq _ _ hc1 fr1.weak fun id q => .inl q
  · have e : takeR L x = 0 := by unfold takeR; rw [if_pos (by assumption), if_neg (by rw [← hasC_get]; simp [*]), if_neg (by omega)]
    have e2 : takeL L x g = insC L x g := by unfold takeL; rw [e, if_pos rfl]
    rw [e, e2] at hq
    have fr2 : Fr none' h1 (h1.alloc (.cells (encC (x, g)) 45 false)) := (Fr.refl _ _).alloc _
    have hc2 := hc1.fr0 fr2
    have hx2 : Ow (h1.alloc (.cells (encC (x, g)) 45 false)) 45 2 (.slice (some ⟨h1.next, 0, none⟩) 1 1) 1 (encC (x, g)) := AM.Ow.whole (n := 1) (AM.get_alloc_self rfl) rfl hl1
    have hlt2 : ∀ id, idOf (.slice va L.length vc) id → id < h1.next := fun id q => hc1.2.1.lt q
    refine insert_cw (x := x) (g := g) hc2.2.1 hc2.2.2.1 hx2 (fun id q e => ?_) (fr2.hl hl1) (by omega) fun v' h3 ho3 hcp3 fr3 hid3 => ?_
    · have := hlt2 id q; have : id = h1.next := e; omega
    have hP := hc2.putIns ho3 hcp3 fr3 hid3
    have lt3 := AM.get_some_lt hP.1
    have lo3 := fr3.low
    simp only [AM.lw_alloc] at lo3
    simp only [AM.nx_alloc] at hid3
    have hg3 := hP.1
    have hlo := hc.2.2.2.1
    obtain ⟨va', vc', rfl⟩ := ho3.form
    (first | (simp (disch := first | omega | (simp only [AM.DB, List.length_set, List.length_map]; done) | (simp only [AM.DB, List.length_set, List.length_map]; omega)) only [AM.RB, Nat.reduceAdd, Nat.reduceMul, Nat.reduceEqDiff, reduceCtorEq, b21_C8, hg3]) | skip); (repeat' (first | (refine AM.drawW_fine hp (by kernel_rfl) (by kernel_rfl) ?_; simp (disch := first | omega | (simp only [AM.DB, List.length_set, List.length_map]; done) | (simp only [AM.DB, List.length_set, List.length_map]; omega)) only [AM.RB, Nat.reduceAdd, Nat.reduceMul, Nat.reduceEqDiff, reduceCtorEq, b21_C8, hg3]) | (refine AM.opW_tied (by kernel_rfl) ?_; simp (disch := first | omega | (simp only [AM.DB, List.length_set, List.length_map]; done) | (simp only [AM.DB, List.length_set, List.length_map]; omega)) only [AM.RB, Nat.reduceAdd, Nat.reduceMul, Nat.reduceEqDiff, reduceCtorEq, b21_C8, hg3]) | (refine AM.opW_untied (by kernel_rfl) ?_; simp (disch := first | omega | (simp only [AM.DB, List.length_set, List.length_map]; done) | (simp only [AM.DB, List.length_set, List.length_map]; omega)) only [AM.RB, Nat.reduceAdd, Nat.reduceMul, Nat.reduceEqDiff, reduceCtorEq, b21_C8, hg3]) | (refine AM.build_w ?_; simp (disch := first | omega | (simp only [AM.DB, List.length_set, List.length_map]; done) | (simp only [AM.DB, List.length_set, List.length_map]; omega)) only [AM.RB, Nat.reduceAdd, Nat.reduceMul, Nat.reduceEqDiff, reduceCtorEq, b21_C8, hg3])))
    refine hq _ _ hP.2 (((fr1.trans fr2).weak.then fr3 fun id q1 q2 => .inr q2).put _ (.inr (.inl rfl))) fun id q => ?_
    rcases hid3 id q with q | q
    · exact .inl q
    · exact .inr (by omega)
  · have e : takeR L x = 2 := by unfold takeR; rw [if_neg (by assumption)]
    have e2 : takeL L x g = L := by unfold takeL; rw [e, if_neg (by omega)]
    rw [e, e2] at hq
    exact hq _ _ hc1 fr1.weak fun id q => .inl q

end Go.Proofs.Ytiigibhnjobcaaa

namespace Go.Proofs.Ytiigibhnjobcaaa
open Go.AM
set_option maxRecDepth 8000
theorem b57_C9 : type_of% (And.intro (@AM.bin_eql) (And.intro (AM.len_slice ul_31) (And.intro (@AM.op_append) (And.intro (@AM.op_binOp) (And.intro (@AM.op_clear) (And.intro (@AM.op_len) (@AM.op_slice))))))) := And.intro (@AM.bin_eql) (And.intro (AM.len_slice ul_31) (And.intro (@AM.op_append) (And.intro (@AM.op_binOp) (And.intro (@AM.op_clear) (And.intro (@AM.op_len) (@AM.op_slice))))))
theorem b20_C9 : type_of% (And.intro (@AM.bin_add) (And.intro (@AM.ex_tuple) (And.intro (@AM.fa_ptr) (And.intro (@fd_37_0) (And.intro (@AM.ldO_agg) (And.intro (@AM.ldO_one) (And.intro (@AM.ld_ptr) (And.intro (@lk_31) (And.intro (@AM.op_binOp) (And.intro (@AM.op_call) (And.intro (@AM.op_extract) (And.intro (@AM.op_fieldAddr) (And.intro (@AM.op_load) (And.intro (@AM.op_nilCheck) (And.intro (@AM.op_store) (And.intro (@AM.resL_two) (And.intro (@AM.stO_agg) (And.intro (@AM.stO_bool) (And.intro (@AM.stO_int) (And.intro (@AM.stO_map) (And.intro (@AM.stO_pointer) (And.intro (@AM.stO_slice) (And.intro (@AM.stO_string) (And.intro (@AM.st_ptr) (@sz_31))))))))))))))))))))))))) := And.intro (@AM.bin_add) (And.intro (@AM.ex_tuple) (And.intro (@AM.fa_ptr) (And.intro (@fd_37_0) (And.intro (@AM.ldO_agg) (And.intro (@AM.ldO_one) (And.intro (@AM.ld_ptr) (And.intro (@lk_31) (And.intro (@AM.op_binOp) (And.intro (@AM.op_call) (And.intro (@AM.op_extract) (And.intro (@AM.op_fieldAddr) (And.intro (@AM.op_load) (And.intro (@AM.op_nilCheck) (And.intro (@AM.op_store) (And.intro (@AM.resL_two) (And.intro (@AM.stO_agg) (And.intro (@AM.stO_bool) (And.intro (@AM.stO_int) (And.intro (@AM.stO_map) (And.intro (@AM.stO_pointer) (And.intro (@AM.stO_slice) (And.intro (@AM.stO_string) (And.intro (@AM.st_ptr) (@sz_31))))))))))))))))))))))))


theorem erase_enc (L : List Cm) (i : Nat) (hi : i < L.length) : (L.eraseIdx i).flatMap encC = (L.flatMap encC).take (i * 2) ++ (L.flatMap encC).drop ((i + 1) * 2) := by
  have e : ∀ j, j ≤ L.length → (L.flatMap encC).take (j * 2) = (L.take j).flatMap encC ∧ (L.flatMap encC).drop (j * 2) = (L.drop j).flatMap encC := by
    intro j hj
    have h1 : L.flatMap encC = (L.take j).flatMap encC ++ (L.drop j).flatMap encC := by rw [← List.flatMap_append, List.take_append_drop]
    have hl : ((L.take j).flatMap encC).length = j * 2 := by rw [AM.flat_length encC_len]; simp; omega
    rw [h1, List.take_left' hl, List.drop_left' hl]; exact ⟨rfl, rfl⟩
  rw [List.eraseIdx_eq_take_drop_succ, List.flatMap_append, (e i (by omega)).1, (e (i + 1) (by omega)).2]

set_option maxRecDepth 8000 in
theorem delete_w {v : Value} {L : List Cm} {i : Nat} {h : AHeap} (ho : Ow h 45 2 v L.length (L.flatMap encC)) (hcp : capPos v) (hi : i < L.length) (hn : L.length ≤ 1000000000) {Q : VQ}
    (hq : ∀ v' h', Ow h' 45 2 v' (L.eraseIdx i).length ((L.eraseIdx i).flatMap encC) → capPos v' → Fr (idOf v) h h' → (∀ id, idOf v' id → idOf v id) → Q v' h') : W 57 [v, .int .i64 (i : Nat), .int .i64 ((i : Int) + 1)] h Q := by
  have hoo := ho
  rcases ho with ⟨_, h0, _⟩ | ⟨id, off, cap, c, o, rfl, hnc, hg, hf, hd, hlo⟩
  · omega
  have t1 : ((i : Int) + 1).toNat = i + 1 := by omega
  have hel : (L.eraseIdx i).length = i + (L.length - (i + 1)) := by rw [List.length_eraseIdx, if_pos hi]; omega
  have hlt := AM.get_some_lt hg
  generalize hnn : L.length = n at *
  refine AM.enter hp (fn := Try.f57) (rs := [.tmp 6]) (nt := 33) (by kernel_rfl) Try.func57 rfl rfl rfl (by kernel_rfl) ?_
  (first | (simp (disch := first | omega | (simp only [AM.DB, List.length_set, List.length_map]; done) | (simp only [AM.DB, List.length_set, List.length_map]; omega)) only [AM.RB, Nat.reduceAdd, Nat.reduceMul, Nat.reduceEqDiff, reduceCtorEq, b57_C9, AM.slc el_31 hg, AM.slbs_lhm_i, AM.slbs_lo_i, AM.slbs_hi_i, AM.slbs_lh_i, Int.toNat_natCast, t1, Nat.sub_zero, Nat.zero_mul]) | skip); (repeat' (first | (refine AM.drawW_fine hp (by kernel_rfl) (by kernel_rfl) ?_; simp (disch := first | omega | (simp only [AM.DB, List.length_set, List.length_map]; done) | (simp only [AM.DB, List.length_set, List.length_map]; omega)) only [AM.RB, Nat.reduceAdd, Nat.reduceMul, Nat.reduceEqDiff, reduceCtorEq, b57_C9, AM.slc el_31 hg, AM.slbs_lhm_i, AM.slbs_lo_i, AM.slbs_hi_i, AM.slbs_lh_i, Int.toNat_natCast, t1, Nat.sub_zero, Nat.zero_mul]) | (refine AM.opW_tied (by kernel_rfl) ?_; simp (disch := first | omega | (simp only [AM.DB, List.length_set, List.length_map]; done) | (simp only [AM.DB, List.length_set, List.length_map]; omega)) only [AM.RB, Nat.reduceAdd, Nat.reduceMul, Nat.reduceEqDiff, reduceCtorEq, b57_C9, AM.slc el_31 hg, AM.slbs_lhm_i, AM.slbs_lo_i, AM.slbs_hi_i, AM.slbs_lh_i, Int.toNat_natCast, t1, Nat.sub_zero, Nat.zero_mul]) | (refine AM.opW_untied (by kernel_rfl) ?_; simp (disch := first | omega | (simp only [AM.DB, List.length_set, List.length_map]; done) | (simp only [AM.DB, List.length_set, List.length_map]; omega)) only [AM.RB, Nat.reduceAdd, Nat.reduceMul, Nat.reduceEqDiff, reduceCtorEq, b57_C9, AM.slc el_31 hg, AM.slbs_lhm_i, AM.slbs_lo_i, AM.slbs_hi_i, AM.slbs_lh_i, Int.toNat_natCast, t1, Nat.sub_zero, Nat.zero_mul]) | (refine AM.build_w ?_; simp (disch := first | omega | (simp only [AM.DB, List.length_set, List.length_map]; done) | (simp only [AM.DB, List.length_set, List.length_map]; omega)) only [AM.RB, Nat.reduceAdd, Nat.reduceMul, Nat.reduceEqDiff, reduceCtorEq, b57_C9, AM.slc el_31 hg, AM.slbs_lhm_i, AM.slbs_lo_i, AM.slbs_hi_i, AM.slbs_lh_i, Int.toNat_natCast, t1, Nat.sub_zero, Nat.zero_mul])))
  refine AM.condV_split (fun hq1 => by omega) (fun hq1 => ?_)
  (first | (simp (disch := first | omega | (simp only [AM.DB, List.length_set, List.length_map]; done) | (simp only [AM.DB, List.length_set, List.length_map]; omega)) only [AM.RB, Nat.reduceAdd, Nat.reduceMul, Nat.reduceEqDiff, reduceCtorEq, b57_C9, AM.slc el_31 hg, AM.slbs_lhm_i, AM.slbs_lo_i, AM.slbs_hi_i, AM.slbs_lh_i, Int.toNat_natCast, t1, Nat.sub_zero, Nat.zero_mul]) | skip); (repeat' (first | (refine AM.drawW_fine hp (by kernel_rfl) (by kernel_rfl) ?_; simp (disch := first | omega | (simp only [AM.DB, List.length_set, List.length_map]; done) | (simp only [AM.DB, List.length_set, List.length_map]; omega)) only [AM.RB, Nat.reduceAdd, Nat.reduceMul, Nat.reduceEqDiff, reduceCtorEq, b57_C9, AM.slc el_31 hg, AM.slbs_lhm_i, AM.slbs_lo_i, AM.slbs_hi_i, AM.slbs_lh_i, Int.toNat_natCast, t1, Nat.sub_zero, Nat.zero_mul]) | (refine AM.opW_tied (by kernel_rfl) ?_; simp (disch := first | omega | (simp only [AM.DB, List.length_set, List.length_map]; done) | (simp only [AM.DB, List.length_set, List.length_map]; omega)) only [AM.RB, Nat.reduceAdd, Nat.reduceMul, Nat.reduceEqDiff, reduceCtorEq, b57_C9, AM.slc el_31 hg, AM.slbs_lhm_i, AM.slbs_lo_i, AM.slbs_hi_i, AM.slbs_lh_i, Int.toNat_natCast, t1, Nat.sub_zero, Nat.zero_mul]) | (refine AM.opW_untied (by kernel_rfl) ?_; simp (disch := first | omega | (simp only [AM.DB, List.length_set, List.length_map]; done) | (simp only [AM.DB, List.length_set, List.length_map]; omega)) only [AM.RB, Nat.reduceAdd, Nat.reduceMul, Nat.reduceEqDiff, reduceCtorEq, b57_C9, AM.slc el_31 hg, AM.slbs_lhm_i, AM.slbs_lo_i, AM.slbs_hi_i, AM.slbs_lh_i, Int.toNat_natCast, t1, Nat.sub_zero, Nat.zero_mul]) | (refine AM.build_w ?_; simp (disch := first | omega | (simp only [AM.DB, List.length_set, List.length_map]; done) | (simp only [AM.DB, List.length_set, List.length_map]; omega)) only [AM.RB, Nat.reduceAdd, Nat.reduceMul, Nat.reduceEqDiff, reduceCtorEq, b57_C9, AM.slc el_31 hg, AM.slbs_lhm_i, AM.slbs_lo_i, AM.slbs_hi_i, AM.slbs_lh_i, Int.toNat_natCast, t1, Nat.sub_zero, Nat.zero_mul])))
  have hcut := AM.Ow.cut (i := i + 1) (j := n) (m := cap) hoo (by omega) (Nat.le_refl _) hnc (Nat.le_refl _)
  have hone : (((L.flatMap encC).drop ((i + 1) * 2)).take ((n - (i + 1)) * 2)).all (·.oneCell') = true := by
    have := encC_one L
    rw [List.all_eq_true] at this ⊢
    exact fun x hx => this x (List.mem_of_mem_drop (List.mem_of_mem_take hx))
  refine AM.append_in ap_31 ap_31 hg hlo hf (by omega) hcut.rd hone (AM.fits (by omega) (by omega)) (AM.fits' (by omega)) fun h2 c2 hg2 hcl2 htk fr2 nx2 => ?_
  rw [← hel] at htk ⊢
  have hlo2 := fr2.low
  have hlt2 := AM.get_some_lt hg2
  generalize hmm : (L.eraseIdx i).length = m at *
  (first | (simp (disch := first | omega | (simp only [AM.DB, List.length_set, List.length_map]; done) | (simp only [AM.DB, List.length_set, List.length_map]; omega)) only [AM.RB, Nat.reduceAdd, Nat.reduceMul, Nat.reduceEqDiff, reduceCtorEq, b57_C9, AM.slc el_31 hg2, AM.slbs_lhm_i, AM.slbs_lo_i, AM.slbs_hi_i, AM.slbs_lh_i, Int.toNat_natCast, t1, Nat.sub_zero, Nat.zero_mul]) | skip); (repeat' (first | (refine AM.drawW_fine hp (by kernel_rfl) (by kernel_rfl) ?_; simp (disch := first | omega | (simp only [AM.DB, List.length_set, List.length_map]; done) | (simp only [AM.DB, List.length_set, List.length_map]; omega)) only [AM.RB, Nat.reduceAdd, Nat.reduceMul, Nat.reduceEqDiff, reduceCtorEq, b57_C9, AM.slc el_31 hg2, AM.slbs_lhm_i, AM.slbs_lo_i, AM.slbs_hi_i, AM.slbs_lh_i, Int.toNat_natCast, t1, Nat.sub_zero, Nat.zero_mul]) | (refine AM.opW_tied (by kernel_rfl) ?_; simp (disch := first | omega | (simp only [AM.DB, List.length_set, List.length_map]; done) | (simp only [AM.DB, List.length_set, List.length_map]; omega)) only [AM.RB, Nat.reduceAdd, Nat.reduceMul, Nat.reduceEqDiff, reduceCtorEq, b57_C9, AM.slc el_31 hg2, AM.slbs_lhm_i, AM.slbs_lo_i, AM.slbs_hi_i, AM.slbs_lh_i, Int.toNat_natCast, t1, Nat.sub_zero, Nat.zero_mul]) | (refine AM.opW_untied (by kernel_rfl) ?_; simp (disch := first | omega | (simp only [AM.DB, List.length_set, List.length_map]; done) | (simp only [AM.DB, List.length_set, List.length_map]; omega)) only [AM.RB, Nat.reduceAdd, Nat.reduceMul, Nat.reduceEqDiff, reduceCtorEq, b57_C9, AM.slc el_31 hg2, AM.slbs_lhm_i, AM.slbs_lo_i, AM.slbs_hi_i, AM.slbs_lh_i, Int.toNat_natCast, t1, Nat.sub_zero, Nat.zero_mul]) | (refine AM.build_w ?_; simp (disch := first | omega | (simp only [AM.DB, List.length_set, List.length_map]; done) | (simp only [AM.DB, List.length_set, List.length_map]; omega)) only [AM.RB, Nat.reduceAdd, Nat.reduceMul, Nat.reduceEqDiff, reduceCtorEq, b57_C9, AM.slc el_31 hg2, AM.slbs_lhm_i, AM.slbs_lo_i, AM.slbs_hi_i, AM.slbs_lh_i, Int.toNat_natCast, t1, Nat.sub_zero, Nat.zero_mul])))
  refine AM.clear_in ap_31 hg2 (by omega) (by omega) fun h3 c3 hg3 hcl3 hk3 fr3 nx3 => ?_
  have hlo3 := fr3.low
  (first | (simp (disch := first | omega | (simp only [AM.DB, List.length_set, List.length_map]; done) | (simp only [AM.DB, List.length_set, List.length_map]; omega)) only [AM.RB, Nat.reduceAdd, Nat.reduceMul, Nat.reduceEqDiff, reduceCtorEq, b57_C9]) | skip); (repeat' (first | (refine AM.drawW_fine hp (by kernel_rfl) (by kernel_rfl) ?_; simp (disch := first | omega | (simp only [AM.DB, List.length_set, List.length_map]; done) | (simp only [AM.DB, List.length_set, List.length_map]; omega)) only [AM.RB, Nat.reduceAdd, Nat.reduceMul, Nat.reduceEqDiff, reduceCtorEq, b57_C9]) | (refine AM.opW_tied (by kernel_rfl) ?_; simp (disch := first | omega | (simp only [AM.DB, List.length_set, List.length_map]; done) | (simp only [AM.DB, List.length_set, List.length_map]; omega)) only [AM.RB, Nat.reduceAdd, Nat.reduceMul, Nat.reduceEqDiff, reduceCtorEq, b57_C9]) | (refine AM.opW_untied (by kernel_rfl) ?_; simp (disch := first | omega | (simp only [AM.DB, List.length_set, List.length_map]; done) | (simp only [AM.DB, List.length_set, List.length_map]; omega)) only [AM.RB, Nat.reduceAdd, Nat.reduceMul, Nat.reduceEqDiff, reduceCtorEq, b57_C9]) | (refine AM.build_w ?_; simp (disch := first | omega | (simp only [AM.DB, List.length_set, List.length_map]; done) | (simp only [AM.DB, List.length_set, List.length_map]; omega)) only [AM.RB, Nat.reduceAdd, Nat.reduceMul, Nat.reduceEqDiff, reduceCtorEq, b57_C9])))
  refine hq _ _ (.inr ⟨id, off, cap, c3, o, rfl, by omega, hg3, by omega, ?_, by omega⟩) hcp ((fr2.trans fr3).mono fun k _ q => q) (fun _ q => q)
  have e1 : (c3.drop off).take (m * 2) = (c2.drop off).take (m * 2) := by
    apply List.ext_getElem?
    intro j
    rw [List.getElem?_take, List.getElem?_take]
    by_cases hj : j < m * 2
    · rw [if_pos hj, if_pos hj, List.getElem?_drop, List.getElem?_drop]
      exact hk3 _ (by omega)
    · rw [if_neg hj, if_neg hj]
  rw [e1, htk, erase_enc L i (by omega), ← hd]
  congr 1
  · rw [List.take_take, Nat.min_eq_left (by omega)]
  · rw [List.take_of_length_le]
    simp only [List.length_drop, List.length_take]; omega

/-! ### Drop -/
def delC (L : List Cm) (x : Int) : List Cm := if (getC L x).isSome = true then L.eraseIdx (posC L x) else L
theorem drop_w {p : Nat} {v : Value} {L : List Cm} {x : Int} {h : AHeap} (hc : Cl h p v L) (hsrt : Srt L) (hn : L.length ≤ 1000000000) {Q : VQ}
    (hq : ∀ v' h', Cl h' p v' (delC L x) → Fr (fun id => id = p ∨ idOf v id) h h' → (∀ id, idOf v' id → idOf v id) → Q (.tuple #[.int .u32 ((getC L x).getD 0), .bool (getC L x).isSome]) h') : W 20 [pv p, .int .i64 x] h Q := by
  refine AM.enter hp (fn := Try.f20) (rs := [.tmp 4, .tmp 5]) (nt := 36) (by kernel_rfl) Try.func20 rfl rfl rfl (by kernel_rfl) ?_
  (first | (simp (disch := first | omega | (simp only [AM.DB, List.length_set, List.length_map]; done) | (simp only [AM.DB, List.length_set, List.length_map]; omega)) only [AM.RB, Nat.reduceAdd, Nat.reduceMul, Nat.reduceEqDiff, reduceCtorEq, b20_C9]) | skip); (repeat' (first | (refine AM.drawW_fine hp (by kernel_rfl) (by kernel_rfl) ?_; simp (disch := first | omega | (simp only [AM.DB, List.length_set, List.length_map]; done) | (simp only [AM.DB, List.length_set, List.length_map]; omega)) only [AM.RB, Nat.reduceAdd, Nat.reduceMul, Nat.reduceEqDiff, reduceCtorEq, b20_C9]) | (refine AM.opW_tied (by kernel_rfl) ?_; simp (disch := first | omega | (simp only [AM.DB, List.length_set, List.length_map]; done) | (simp only [AM.DB, List.length_set, List.length_map]; omega)) only [AM.RB, Nat.reduceAdd, Nat.reduceMul, Nat.reduceEqDiff, reduceCtorEq, b20_C9]) | (refine AM.opW_untied (by kernel_rfl) ?_; simp (disch := first | omega | (simp only [AM.DB, List.length_set, List.length_map]; done) | (simp only [AM.DB, List.length_set, List.length_map]; omega)) only [AM.RB, Nat.reduceAdd, Nat.reduceMul, Nat.reduceEqDiff, reduceCtorEq, b20_C9]) | (refine AM.build_w ?_; simp (disch := first | omega | (simp only [AM.DB, List.length_set, List.length_map]; done) | (simp only [AM.DB, List.length_set, List.length_map]; omega)) only [AM.RB, Nat.reduceAdd, Nat.reduceMul, Nat.reduceEqDiff, reduceCtorEq, b20_C9])))
  refine gen_w hc hsrt (by omega) fun h1 fr1 => ?_
  have hc1 := hc.fr0 fr1
  (first | (simp (disch := first | omega | (simp only [AM.DB, List.length_set, List.length_map]; done) | (simp only [AM.DB, List.length_set, List.length_map]; omega)) only [AM.RB, Nat.reduceAdd, Nat.reduceMul, Nat.reduceEqDiff, reduceCtorEq, b20_C9]) | skip); (repeat' (first | (refine AM.drawW_fine hp (by kernel_rfl) (by kernel_rfl) ?_; simp (disch := first | omega | (simp only [AM.DB, List.length_set, List.length_map]; done) | (simp only [AM.DB, List.length_set, List.length_map]; omega)) only [AM.RB, Nat.reduceAdd, Nat.reduceMul, Nat.reduceEqDiff, reduceCtorEq, b20_C9]) | (refine AM.opW_tied (by kernel_rfl) ?_; simp (disch := first | omega | (simp only [AM.DB, List.length_set, List.length_map]; done) | (simp only [AM.DB, List.length_set, List.length_map]; omega)) only [AM.RB, Nat.reduceAdd, Nat.reduceMul, Nat.reduceEqDiff, reduceCtorEq, b20_C9]) | (refine AM.opW_untied (by kernel_rfl) ?_; simp (disch := first | omega | (simp only [AM.DB, List.length_set, List.length_map]; done) | (simp only [AM.DB, List.length_set, List.length_map]; omega)) only [AM.RB, Nat.reduceAdd, Nat.reduceMul, Nat.reduceEqDiff, reduceCtorEq, b20_C9]) | (refine AM.build_w ?_; simp (disch := first | omega | (simp only [AM.DB, List.length_set, List.length_map]; done) | (simp only [AM.DB, List.length_set, List.length_map]; omega)) only [AM.RB, Nat.reduceAdd, Nat.reduceMul, Nat.reduceEqDiff, reduceCtorEq, b20_C9])))
  refine AM.condV_bool (fun hb => ?_) (fun hb => ?_)
  · (first | (simp (disch := first | omega | (simp only [AM.DB, List.length_set, List.length_map]; done) | (simp only [AM.DB, List.length_set, List.length_map]; omega)) only [AM.RB, Nat.reduceAdd, Nat.reduceMul, Nat.reduceEqDiff, reduceCtorEq, b20_C9]) | skip); (repeat' (first | (refine AM.drawW_fine hp (by kernel_rfl) (by kernel_rfl) ?_; simp (disch := first | omega | (simp only [AM.DB, List.length_set, List.length_map]; done) | (simp only [AM.DB, List.length_set, List.length_map]; omega)) only [AM.RB, Nat.reduceAdd, Nat.reduceMul, Nat.reduceEqDiff, reduceCtorEq, b20_C9]) | (refine AM.opW_tied (by kernel_rfl) ?_; simp (disch := first | omega | (simp only [AM.DB, List.length_set, List.length_map]; done) | (simp only [AM.DB, List.length_set, List.length_map]; omega)) only [AM.RB, Nat.reduceAdd, Nat.reduceMul, Nat.reduceEqDiff, reduceCtorEq, b20_C9]) | (refine AM.opW_untied (by kernel_rfl) ?_; simp (disch := first | omega | (simp only [AM.DB, List.length_set, List.length_map]; done) | (simp only [AM.DB, List.length_set, List.length_map]; omega)) only [AM.RB, Nat.reduceAdd, Nat.reduceMul, Nat.reduceEqDiff, reduceCtorEq, b20_C9]) | (refine AM.build_w ?_; simp (disch := first | omega | (simp only [AM.DB, List.length_set, List.length_map]; done) | (simp only [AM.DB, List.length_set, List.length_map]; omega)) only [AM.RB, Nat.reduceAdd, Nat.reduceMul, Nat.reduceEqDiff, reduceCtorEq, b20_C9])))
    refine find_w hc1 hsrt (by omega) fun h2 fr2 => ?_
    have hc2 := hc1.fr0 fr2
    have hg2 := hc2.1
    obtain ⟨va, vc, rfl⟩ := hc2.2.1.form
    have hpos := posC_at hsrt (x := x) (by rw [hasC_get]; exact hb)
    have hb1 := hpos.1
    (first | (simp (disch := first | omega | (simp only [AM.DB, List.length_set, List.length_map]; done) | (simp only [AM.DB, List.length_set, List.length_map]; omega)) only [AM.RB, Nat.reduceAdd, Nat.reduceMul, Nat.reduceEqDiff, reduceCtorEq, b20_C9, hg2, AM.wrap_i64]) | skip); (repeat' (first | (refine AM.drawW_fine hp (by kernel_rfl) (by kernel_rfl) ?_; simp (disch := first | omega | (simp only [AM.DB, List.length_set, List.length_map]; done) | (simp only [AM.DB, List.length_set, List.length_map]; omega)) only [AM.RB, Nat.reduceAdd, Nat.reduceMul, Nat.reduceEqDiff, reduceCtorEq, b20_C9, hg2, AM.wrap_i64]) | (refine AM.opW_tied (by kernel_rfl) ?_; simp (disch := first | omega | (simp only [AM.DB, List.length_set, List.length_map]; done) | (simp only [AM.DB, List.length_set, List.length_map]; omega)) only [AM.RB, Nat.reduceAdd, Nat.reduceMul, Nat.reduceEqDiff, reduceCtorEq, b20_C9, hg2, AM.wrap_i64]) | (refine AM.opW_untied (by kernel_rfl) ?_; simp (disch := first | omega | (simp only [AM.DB, List.length_set, List.length_map]; done) | (simp only [AM.DB, List.length_set, List.length_map]; omega)) only [AM.RB, Nat.reduceAdd, Nat.reduceMul, Nat.reduceEqDiff, reduceCtorEq, b20_C9, hg2, AM.wrap_i64]) | (refine AM.build_w ?_; simp (disch := first | omega | (simp only [AM.DB, List.length_set, List.length_map]; done) | (simp only [AM.DB, List.length_set, List.length_map]; omega)) only [AM.RB, Nat.reduceAdd, Nat.reduceMul, Nat.reduceEqDiff, reduceCtorEq, b20_C9, hg2, AM.wrap_i64])))
    refine delete_w hc2.2.1 hc2.2.2.1 hb1 hn fun v' h3 ho3 hcp3 fr3 hid3 => ?_
    have hP := hc2.putIns ho3 hcp3 fr3 (fun id q => .inl (hid3 id q))
    have lt3 := AM.get_some_lt hP.1
    have lo3 := fr3.low
    have lo2 := hc2.2.2.2.1
    have hg3 := hP.1
    obtain ⟨va', vc', rfl⟩ := ho3.form
    (first | (simp (disch := first | omega | (simp only [AM.DB, List.length_set, List.length_map]; done) | (simp only [AM.DB, List.length_set, List.length_map]; omega)) only [AM.RB, Nat.reduceAdd, Nat.reduceMul, Nat.reduceEqDiff, reduceCtorEq, b20_C9, hg3]) | skip); (repeat' (first | (refine AM.drawW_fine hp (by kernel_rfl) (by kernel_rfl) ?_; simp (disch := first | omega | (simp only [AM.DB, List.length_set, List.length_map]; done) | (simp only [AM.DB, List.length_set, List.length_map]; omega)) only [AM.RB, Nat.reduceAdd, Nat.reduceMul, Nat.reduceEqDiff, reduceCtorEq, b20_C9, hg3]) | (refine AM.opW_tied (by kernel_rfl) ?_; simp (disch := first | omega | (simp only [AM.DB, List.length_set, List.length_map]; done) | (simp only [AM.DB, List.length_set, List.length_map]; omega)) only [AM.RB, Nat.reduceAdd, Nat.reduceMul, Nat.reduceEqDiff, reduceCtorEq, b20_C9, hg3]) | (refine AM.opW_untied (by kernel_rfl) ?_; simp (disch := first | omega | (simp only [AM.DB, List.length_set, List.length_map]; done) | (simp only [AM.DB, List.length_set, List.length_map]; omega)) only [AM.RB, Nat.reduceAdd, Nat.reduceMul, Nat.reduceEqDiff, reduceCtorEq, b20_C9, hg3]) | (refine AM.build_w ?_; simp (disch := first | omega | (simp only [AM.DB, List.length_set, List.length_map]; done) | (simp only [AM.DB, List.length_set, List.length_map]; omega)) only [AM.RB, Nat.reduceAdd, Nat.reduceMul, Nat.reduceEqDiff, reduceCtorEq, b20_C9, hg3])))
    have e : delC L x = L.eraseIdx (posC L x) := by unfold delC; rw [if_pos hb]
    rw [e] at hq
    exact hq _ _ hP.2 (((fr1.trans fr2).weak.then fr3 fun id q1 q2 => .inr q2).put _ (.inr (.inl rfl))) hid3
  · (first | (simp (disch := first | omega | (simp only [AM.DB, List.length_set, List.length_map]; done) | (simp only [AM.DB, List.length_set, List.length_map]; omega)) only [AM.RB, Nat.reduceAdd, Nat.reduceMul, Nat.reduceEqDiff, reduceCtorEq, b20_C9]) | skip); (repeat' (first | (refine AM.drawW_fine hp (by kernel_rfl) (by kernel_rfl) ?_; simp (disch := first | omega | (simp only [AM.DB, List.length_set, List.length_map]; done) | (simp only [AM.DB, List.length_set, List.length_map]; omega)) only [AM.RB, Nat.reduceAdd, Nat.reduceMul, Nat.reduceEqDiff, reduceCtorEq, b20_C9]) | (refine AM.opW_tied (by kernel_rfl) ?_; simp (disch := first | omega | (simp only [AM.DB, List.length_set, List.length_map]; done) | (simp only [AM.DB, List.length_set, List.length_map]; omega)) only [AM.RB, Nat.reduceAdd, Nat.reduceMul, Nat.reduceEqDiff, reduceCtorEq, b20_C9]) | (refine AM.opW_untied (by kernel_rfl) ?_; simp (disch := first | omega | (simp only [AM.DB, List.length_set, List.length_map]; done) | (simp only [AM.DB, List.length_set, List.length_map]; omega)) only [AM.RB, Nat.reduceAdd, Nat.reduceMul, Nat.reduceEqDiff, reduceCtorEq, b20_C9]) | (refine AM.build_w ?_; simp (disch := first | omega | (simp only [AM.DB, List.length_set, List.length_map]; done) | (simp only [AM.DB, List.length_set, List.length_map]; omega)) only [AM.RB, Nat.reduceAdd, Nat.reduceMul, Nat.reduceEqDiff, reduceCtorEq, b20_C9])))
    have e : delC L x = L := by unfold delC; rw [if_neg (by rw [hb]; simp)]
    rw [e] at hq
    exact hq _ _ hc1 fr1.weak (fun _ q => q)

end Go.Proofs.Ytiigibhnjobcaaa

namespace Go.Proofs.Ytiigibhnjobcaaa
open Go.AM

/-! ### Plain: what is taken and dropped -/
theorem delC_split {L : List Cm} (hs : Srt L) {x : Int} (hx : (getC L x).isSome = true) : ∃ g, L = L.take (posC L x) ++ (x, g) :: L.drop (posC L x + 1) := by
  obtain ⟨h1, h2⟩ := posC_at hs (x := x) (by rw [hasC_get]; exact hx)
  refine ⟨(L.getD (posC L x) d0).2, ?_⟩
  have e : (x, (L.getD (posC L x) d0).2) = L[posC L x] := by
    have : L.getD (posC L x) d0 = L[posC L x] := by simp [List.getD, h1]
    rw [← this]; exact Prod.ext h2.symm rfl
  rw [e, ← List.drop_eq_getElem_cons h1, List.take_append_drop]
theorem delC_srt {L : List Cm} (hs : Srt L) (x : Int) : Srt (delC L x) := by
  unfold delC
  split
  · exact hs.sublist (List.eraseIdx_sublist _ _)
  · exact hs
theorem delC_get {L : List Cm} (hs : Srt L) (x y : Int) : getC (delC L x) y = if y = x then none else getC L y := by
  unfold delC
  by_cases hx : (getC L x).isSome = true
  · rw [if_pos hx, List.eraseIdx_eq_take_drop_succ]
    obtain ⟨g, e⟩ := delC_split hs hx
    have hp := hs
    rw [e] at hp
    unfold Srt at hp
    rw [List.pairwise_append, List.pairwise_cons] at hp
    obtain ⟨_, ⟨hgt, _⟩, hlt⟩ := hp
    have eL : getC L y = (getC (L.take (posC L x)) y).or (if x = y then some g else getC (L.drop (posC L x + 1)) y) := by
      conv => lhs; rw [e]
      rw [getC_append, getC_cons]
    rw [getC_append, eL]
    by_cases h : y = x
    · subst h
      rw [if_pos rfl, getC_none (fun p hp => by have := hlt p hp (y, g) (by simp); simp only at this; omega), getC_none (fun p hp => by have := hgt p hp; simp only at this; omega)]; rfl
    · rw [if_neg h, if_neg (fun q => h q.symm)]
  · rw [if_neg hx]
    by_cases h : y = x
    · subst h; rw [if_pos rfl]; simpa using hx
    · rw [if_neg h]
theorem delC_length (L : List Cm) (x : Int) : (delC L x).length ≤ L.length := by
  unfold delC
  split
  · exact (List.eraseIdx_sublist _ _).length_le
  · exact Nat.le_refl _
theorem delC_length' {L : List Cm} (hs : Srt L) {x : Int} (hx : (getC L x).isSome = true) : (delC L x).length + 1 = L.length := by
  obtain ⟨h1, _⟩ := posC_at hs (x := x) (by rw [hasC_get]; exact hx)
  unfold delC; rw [if_pos hx, List.length_eraseIdx, if_pos h1]; omega
def Good (L : List Cm) : Prop := Srt L ∧ L.length ≤ 16 ∧ ∀ x, (getC L x).isSome = true → 0 ≤ x ∧ x < 1024
theorem good_nil : Good [] := ⟨List.Pairwise.nil, by simp, fun x h => by cases h⟩
theorem takeR_zero {L : List Cm} {x : Int} : takeR L x = 0 ↔ (0 ≤ x ∧ x < 1024) ∧ getC L x = none ∧ L.length < 16 := by
  unfold takeR
  by_cases h1 : 0 ≤ x ∧ x < 1024
  · rw [if_pos h1]
    cases hg : getC L x with
    | none =>
      by_cases h3 : 16 ≤ L.length
      · simp [h3]
      · simp [h3]; omega
    | some g => simp
  · rw [if_neg h1]; simp; omega
theorem takeL_get {L : List Cm} (hs : Srt L) (x g y : Int) : getC (takeL L x g) y = if takeR L x = 0 ∧ y = x then some g else getC L y := by
  unfold takeL
  by_cases h : takeR L x = 0
  · rw [if_pos h, insC_get hs _ _ _ (takeR_zero.1 h).2.1]
    simp [h]
  · rw [if_neg h, if_neg (fun q => h q.1)]
theorem Good.take {L : List Cm} (h : Good L) (x g : Int) : Good (takeL L x g) := by
  by_cases h0 : takeR L x = 0
  · obtain ⟨h1, h2, h3⟩ := takeR_zero.1 h0
    refine ⟨?_, ?_, fun y hy => ?_⟩
    · unfold takeL; rw [if_pos h0]; exact insC_srt h.1 _ h2
    · unfold takeL; rw [if_pos h0, insC_length]; omega
    · rw [takeL_get h.1] at hy
      by_cases e : y = x
      · subst e; exact h1
      · rw [if_neg (fun q => e q.2)] at hy; exact h.2.2 y hy
  · unfold takeL; rw [if_neg h0]; exact h
theorem Good.del {L : List Cm} (h : Good L) (x : Int) : Good (delC L x) := by
  refine ⟨delC_srt h.1 x, Nat.le_trans (delC_length L x) h.2.1, fun y hy => ?_⟩
  rw [delC_get h.1] at hy
  by_cases e : y = x
  · rw [if_pos e] at hy; cases hy
  · rw [if_neg e] at hy; exact h.2.2 y hy

end Go.Proofs.Ytiigibhnjobcaaa

namespace Go.Proofs.Ytiigibhnjobcaaa
open Go.AM
set_option maxRecDepth 8000
theorem b23_C11 : type_of% (And.intro (@AM.alK_some) (And.intro (@al_53) (And.intro (@AM.bdV_some) (And.intro (@bd_53) (And.intro (@AM.bin_add) (And.intro (@AM.bin_lss) (And.intro (@AM.bin_mul) (And.intro (@AM.bin_shr) (And.intro (@AM.bin_sub) (And.intro (AM.bsW_int bs_51) (And.intro (AM.bsW_nil bs_51) (And.intro (AM.bsW_slice bs_51) (And.intro (AM.bsW_string bs_51) (And.intro (AM.cv_int ul_38 ul_5) (And.intro (@AM.ex_tuple) (And.intro (@AM.fa_ptr) (And.intro (@fd_53_2) (And.intro (@AM.fillL_cons) (And.intro (@AM.fillL_nil) (And.intro (@AM.fillS_agg) (And.intro (@AM.fillS_bool) (And.intro (@AM.fillS_func) (And.intro (@AM.fillS_int) (And.intro (@AM.fillS_map) (And.intro (@AM.fillS_pointer) (And.intro (@AM.fillS_slice) (And.intro (@AM.fillS_string) (And.intro (@AM.ldO_agg) (And.intro (@AM.ldO_one) (And.intro (@AM.ld_ptr) (And.intro (@lk_51) (And.intro (@lk_53) (And.intro (@AM.op_alloc) (And.intro (@AM.op_append) (And.intro (@AM.op_binOp) (And.intro (@AM.op_build) (And.intro (@AM.op_buildSlice) (And.intro (@AM.op_call) (And.intro (@AM.op_convert) (And.intro (@AM.op_extract) (And.intro (@AM.op_fieldAddr) (And.intro (@AM.op_load) (And.intro (@AM.op_store) (And.intro (@AM.res_cell) (And.intro (@AM.stO_agg) (And.intro (@AM.stO_bool) (And.intro (@AM.stO_int) (And.intro (@AM.stO_map) (And.intro (@AM.stO_pointer) (And.intro (@AM.stO_slice) (And.intro (@AM.stO_string) (And.intro (@AM.st_ptr) (And.intro (@sz_51) (@sz_53)))))))))))))))))))))))))))))))))))))))))))))))))))))) := And.intro (@AM.alK_some) (And.intro (@al_53) (And.intro (@AM.bdV_some) (And.intro (@bd_53) (And.intro (@AM.bin_add) (And.intro (@AM.bin_lss) (And.intro (@AM.bin_mul) (And.intro (@AM.bin_shr) (And.intro (@AM.bin_sub) (And.intro (AM.bsW_int bs_51) (And.intro (AM.bsW_nil bs_51) (And.intro (AM.bsW_slice bs_51) (And.intro (AM.bsW_string bs_51) (And.intro (AM.cv_int ul_38 ul_5) (And.intro (@AM.ex_tuple) (And.intro (@AM.fa_ptr) (And.intro (@fd_53_2) (And.intro (@AM.fillL_cons) (And.intro (@AM.fillL_nil) (And.intro (@AM.fillS_agg) (And.intro (@AM.fillS_bool) (And.intro (@AM.fillS_func) (And.intro (@AM.fillS_int) (And.intro (@AM.fillS_map) (And.intro (@AM.fillS_pointer) (And.intro (@AM.fillS_slice) (And.intro (@AM.fillS_string) (And.intro (@AM.ldO_agg) (And.intro (@AM.ldO_one) (And.intro (@AM.ld_ptr) (And.intro (@lk_51) (And.intro (@lk_53) (And.intro (@AM.op_alloc) (And.intro (@AM.op_append) (And.intro (@AM.op_binOp) (And.intro (@AM.op_build) (And.intro (@AM.op_buildSlice) (And.intro (@AM.op_call) (And.intro (@AM.op_convert) (And.intro (@AM.op_extract) (And.intro (@AM.op_fieldAddr) (And.intro (@AM.op_load) (And.intro (@AM.op_store) (And.intro (@AM.res_cell) (And.intro (@AM.stO_agg) (And.intro (@AM.stO_bool) (And.intro (@AM.stO_int) (And.intro (@AM.stO_map) (And.intro (@AM.stO_pointer) (And.intro (@AM.stO_slice) (And.intro (@AM.stO_string) (And.intro (@AM.st_ptr) (And.intro (@sz_51) (@sz_53)))))))))))))))))))))))))))))))))))))))))))))))))))))


/-! ### Record -/
def byteG (g : Int) (k : Nat) : Int := IntKind.u8.wrap (g.fdiv (2 ^ (8 * (3 - k))))
def recB : Option Int → List Int
  | none => []
  | some g => [byteG g 0, byteG g 1, byteG g 2, byteG g 3]
def bytesT (g : Int) : Nat → List Int
  | 0 => []
  | k + 1 => bytesT g k ++ [byteG g k]
theorem bytesT_len (g : Int) (k : Nat) : (bytesT g k).length = k := by
  induction k with
  | zero => rfl
  | succ k ih => rw [bytesT, List.length_append, ih]; rfl
theorem record_w {p : Nat} {v : Value} {L : List Cm} {x : Int} {h : AHeap} (hc : Cl h p v L) (hsrt : Srt L) (hn : L.length ≤ 1000000000) (hl : h.low ≤ h.next) {Q : VQ}
    (hq : ∀ v' h', Ow h' 5 1 v' (recB (getC L x)).length ((recB (getC L x)).map (.int .u8)) → Fr none' h h' → (∀ id, idOf v' id → h.next ≤ id) → Q (.agg (#[.int .i64 2, .int .i64 x, v'])) h') : W 23 [pv p, .int .i64 x] h Q := by
  refine AM.enter hp (fn := Try.f23) (rs := [.cell 4 53]) (nt := 34) (by kernel_rfl) Try.func23 rfl rfl rfl (by kernel_rfl) ?_
  (first | (simp (disch := first | omega | (simp only [AM.DB, List.length_set, List.length_map]; done) | (simp only [AM.DB, List.length_set, List.length_map]; omega)) only [AM.RB, Nat.reduceAdd, Nat.reduceMul, Nat.reduceEqDiff, reduceCtorEq, b23_C11]) | skip); (repeat' (first | (refine AM.drawW_fine hp (by kernel_rfl) (by kernel_rfl) ?_; simp (disch := first | omega | (simp only [AM.DB, List.length_set, List.length_map]; done) | (simp only [AM.DB, List.length_set, List.length_map]; omega)) only [AM.RB, Nat.reduceAdd, Nat.reduceMul, Nat.reduceEqDiff, reduceCtorEq, b23_C11]) | (refine AM.opW_tied (by kernel_rfl) ?_; simp (disch := first | omega | (simp only [AM.DB, List.length_set, List.length_map]; done) | (simp only [AM.DB, List.length_set, List.length_map]; omega)) only [AM.RB, Nat.reduceAdd, Nat.reduceMul, Nat.reduceEqDiff, reduceCtorEq, b23_C11]) | (refine AM.opW_untied (by kernel_rfl) ?_; simp (disch := first | omega | (simp only [AM.DB, List.length_set, List.length_map]; done) | (simp only [AM.DB, List.length_set, List.length_map]; omega)) only [AM.RB, Nat.reduceAdd, Nat.reduceMul, Nat.reduceEqDiff, reduceCtorEq, b23_C11]) | (refine AM.build_w ?_; simp (disch := first | omega | (simp only [AM.DB, List.length_set, List.length_map]; done) | (simp only [AM.DB, List.length_set, List.length_map]; omega)) only [AM.RB, Nat.reduceAdd, Nat.reduceMul, Nat.reduceEqDiff, reduceCtorEq, b23_C11])))
  have fr1 : Fr none' h (((h.alloc (.cells [.int .i64 0, .int .i64 0, .slice none 0 0] 53 false)).alloc (.cells [.int .i64 0, .int .i64 0, .slice none 0 0] 53 false)).put (h.next + 1) (some (.cells [.int .i64 2, .int .i64 x, .slice none 0 0] 53 false))) := (((Fr.refl _ _).alloc _).alloc _).put _ (.inl (Nat.le_succ _))
  have g1 : (((h.alloc (.cells [.int .i64 0, .int .i64 0, .slice none 0 0] 53 false)).alloc (.cells [.int .i64 0, .int .i64 0, .slice none 0 0] 53 false)).put (h.next + 1) (some (.cells [.int .i64 2, .int .i64 x, .slice none 0 0] 53 false))).get (h.next + 1) = some (.cells [.int .i64 2, .int .i64 x, .slice none 0 0] 53 false) := by
    simp (disch := first | omega | (simp only [AM.DB, List.length_set, List.length_map]; done) | (simp only [AM.DB, List.length_set, List.length_map]; omega)) only [AM.RB, Nat.reduceAdd, Nat.reduceMul, Nat.reduceEqDiff, reduceCtorEq, b23_C11]
  have g2 : (((h.alloc (.cells [.int .i64 0, .int .i64 0, .slice none 0 0] 53 false)).alloc (.cells [.int .i64 0, .int .i64 0, .slice none 0 0] 53 false)).put (h.next + 1) (some (.cells [.int .i64 2, .int .i64 x, .slice none 0 0] 53 false))).get h.next = some (.cells [.int .i64 0, .int .i64 0, .slice none 0 0] 53 false) := by
    simp (disch := first | omega | (simp only [AM.DB, List.length_set, List.length_map]; done) | (simp only [AM.DB, List.length_set, List.length_map]; omega)) only [AM.RB, Nat.reduceAdd, Nat.reduceMul, Nat.reduceEqDiff, reduceCtorEq, b23_C11]
  generalize ((h.alloc (.cells [.int .i64 0, .int .i64 0, .slice none 0 0] 53 false)).alloc (.cells [.int .i64 0, .int .i64 0, .slice none 0 0] 53 false)).put (h.next + 1) (some (.cells [.int .i64 2, .int .i64 x, .slice none 0 0] 53 false)) = h1 at fr1 g1 g2 ⊢
  refine gen_w (hc.fr0 fr1) hsrt (by omega) fun h2 fr2 => ?_
  have g1' := fr2.get g1 (fun q => q)
  have g2' := fr2.get g2 (fun q => q)
  have lt1 := AM.get_some_lt g1'
  have lt2 := AM.get_some_lt g2'
  have lo1 := fr1.low
  have lo2 := fr2.low
  have fr02 := fr1.trans fr2
  (first | (simp (disch := first | omega | (simp only [AM.DB, List.length_set, List.length_map]; done) | (simp only [AM.DB, List.length_set, List.length_map]; omega)) only [AM.RB, Nat.reduceAdd, Nat.reduceMul, Nat.reduceEqDiff, reduceCtorEq, b23_C11]) | skip); (repeat' (first | (refine AM.drawW_fine hp (by kernel_rfl) (by kernel_rfl) ?_; simp (disch := first | omega | (simp only [AM.DB, List.length_set, List.length_map]; done) | (simp only [AM.DB, List.length_set, List.length_map]; omega)) only [AM.RB, Nat.reduceAdd, Nat.reduceMul, Nat.reduceEqDiff, reduceCtorEq, b23_C11]) | (refine AM.opW_tied (by kernel_rfl) ?_; simp (disch := first | omega | (simp only [AM.DB, List.length_set, List.length_map]; done) | (simp only [AM.DB, List.length_set, List.length_map]; omega)) only [AM.RB, Nat.reduceAdd, Nat.reduceMul, Nat.reduceEqDiff, reduceCtorEq, b23_C11]) | (refine AM.opW_untied (by kernel_rfl) ?_; simp (disch := first | omega | (simp only [AM.DB, List.length_set, List.length_map]; done) | (simp only [AM.DB, List.length_set, List.length_map]; omega)) only [AM.RB, Nat.reduceAdd, Nat.reduceMul, Nat.reduceEqDiff, reduceCtorEq, b23_C11]) | (refine AM.build_w ?_; simp (disch := first | omega | (simp only [AM.DB, List.length_set, List.length_map]; done) | (simp only [AM.DB, List.length_set, List.length_map]; omega)) only [AM.RB, Nat.reduceAdd, Nat.reduceMul, Nat.reduceEqDiff, reduceCtorEq, b23_C11])))
  refine AM.condV_bool (fun hb => ?_) (fun hb => ?_)
  · obtain ⟨g, hg⟩ := Option.isSome_iff_exists.1 hb
    rw [hg]
    (first | (simp (disch := first | omega | (simp only [AM.DB, List.length_set, List.length_map]; done) | (simp only [AM.DB, List.length_set, List.length_map]; omega)) only [AM.RB, Nat.reduceAdd, Nat.reduceMul, Nat.reduceEqDiff, reduceCtorEq, b23_C11]) | skip); (repeat' (first | (refine AM.drawW_fine hp (by kernel_rfl) (by kernel_rfl) ?_; simp (disch := first | omega | (simp only [AM.DB, List.length_set, List.length_map]; done) | (simp only [AM.DB, List.length_set, List.length_map]; omega)) only [AM.RB, Nat.reduceAdd, Nat.reduceMul, Nat.reduceEqDiff, reduceCtorEq, b23_C11]) | (refine AM.opW_tied (by kernel_rfl) ?_; simp (disch := first | omega | (simp only [AM.DB, List.length_set, List.length_map]; done) | (simp only [AM.DB, List.length_set, List.length_map]; omega)) only [AM.RB, Nat.reduceAdd, Nat.reduceMul, Nat.reduceEqDiff, reduceCtorEq, b23_C11]) | (refine AM.opW_untied (by kernel_rfl) ?_; simp (disch := first | omega | (simp only [AM.DB, List.length_set, List.length_map]; done) | (simp only [AM.DB, List.length_set, List.length_map]; omega)) only [AM.RB, Nat.reduceAdd, Nat.reduceMul, Nat.reduceEqDiff, reduceCtorEq, b23_C11]) | (refine AM.build_w ?_; simp (disch := first | omega | (simp only [AM.DB, List.length_set, List.length_map]; done) | (simp only [AM.DB, List.length_set, List.length_map]; omega)) only [AM.RB, Nat.reduceAdd, Nat.reduceMul, Nat.reduceEqDiff, reduceCtorEq, b23_C11])))
    rw [hg] at hq
    refine AM.loop_w hp 34 (fun q : Nat × Value => [(4, pv h.next), (5, pv (h.next + 1)), (6, .int .u32 g), (18, .int .i64 q.1)])
      (fun q h' => q.1 ≤ 4 ∧ Fr none' h h' ∧ h'.get (h.next + 1) = some (.cells [.int .i64 2, .int .i64 x, q.2] 53 false) ∧ h'.get h.next = some (.cells [.int .i64 0, .int .i64 0, .slice none 0 0] 53 false) ∧ Ow h' 5 1 q.2 q.1 ((bytesT g q.1).map (.int .u8)) ∧ ∀ id, idOf q.2 id → h.next + 1 < id) (fun q => 4 - q.1) (by kernel_rfl) (0, .slice none 0 0) ?_ ?_ ?_
    · simp (disch := first | omega | (simp only [AM.DB, List.length_set, List.length_map]; done) | (simp only [AM.DB, List.length_set, List.length_map]; omega)) only [AM.RB, Nat.reduceAdd, Nat.reduceMul, Nat.reduceEqDiff, reduceCtorEq, b23_C11]
    · exact ⟨Nat.zero_le _, fr02, g1', g2', Ow.nil _ _ _, fun _ q => q.elim⟩
    rintro ⟨k, s⟩ h3 ρ ⟨hk, fr3, k1, k2, ho, hid⟩
    simp only at hk k1 ho hid ⊢
    have lt3 := AM.get_some_lt k1
    have lo3 := fr3.low
    obtain ⟨sa, sc, rfl⟩ := ho.form
    simp (disch := first | omega | (simp only [AM.DB, List.length_set, List.length_map]; done) | (simp only [AM.DB, List.length_set, List.length_map]; omega)) only [AM.RB, Nat.reduceAdd, Nat.reduceMul, Nat.reduceEqDiff, reduceCtorEq, b23_C11]
    refine AM.condV_split (fun hlt => ?_) (fun hlt => ?_)
    · (first | (simp (disch := first | omega | (simp only [AM.DB, List.length_set, List.length_map]; done) | (simp only [AM.DB, List.length_set, List.length_map]; omega)) only [AM.RB, Nat.reduceAdd, Nat.reduceMul, Nat.reduceEqDiff, reduceCtorEq, b23_C11, k1, AM.wrap_i64, AM.bin_shr]) | skip); (repeat' (first | (refine AM.drawW_fine hp (by kernel_rfl) (by kernel_rfl) ?_; simp (disch := first | omega | (simp only [AM.DB, List.length_set, List.length_map]; done) | (simp only [AM.DB, List.length_set, List.length_map]; omega)) only [AM.RB, Nat.reduceAdd, Nat.reduceMul, Nat.reduceEqDiff, reduceCtorEq, b23_C11, k1, AM.wrap_i64, AM.bin_shr]) | (refine AM.opW_tied (by kernel_rfl) ?_; simp (disch := first | omega | (simp only [AM.DB, List.length_set, List.length_map]; done) | (simp only [AM.DB, List.length_set, List.length_map]; omega)) only [AM.RB, Nat.reduceAdd, Nat.reduceMul, Nat.reduceEqDiff, reduceCtorEq, b23_C11, k1, AM.wrap_i64, AM.bin_shr]) | (refine AM.opW_untied (by kernel_rfl) ?_; simp (disch := first | omega | (simp only [AM.DB, List.length_set, List.length_map]; done) | (simp only [AM.DB, List.length_set, List.length_map]; omega)) only [AM.RB, Nat.reduceAdd, Nat.reduceMul, Nat.reduceEqDiff, reduceCtorEq, b23_C11, k1, AM.wrap_i64, AM.bin_shr]) | (refine AM.build_w ?_; simp (disch := first | omega | (simp only [AM.DB, List.length_set, List.length_map]; done) | (simp only [AM.DB, List.length_set, List.length_map]; omega)) only [AM.RB, Nat.reduceAdd, Nat.reduceMul, Nat.reduceEqDiff, reduceCtorEq, b23_C11, k1, AM.wrap_i64, AM.bin_shr])))
      have eb : IntKind.u8.wrap (g.fdiv (2 ^ min (8 * (3 - (k : Int))).toNat IntKind.u32.bits)) = byteG g k := by
        unfold byteG
        have : min (8 * (3 - (k : Int))).toNat IntKind.u32.bits = 8 * (3 - k) := by
          show min _ 32 = _; omega
        rw [this]
      rw [eb]
      have fr4 : Fr none' h3 (h3.alloc (.cells [.int .u8 (byteG g k)] 5 false)) := (Fr.refl _ _).alloc _
      refine AM.appends_w ap_51 ap_51 (ho.fr0 fr4) (AM.Rd.whole (n := 1) (c := [.int .u8 (byteG g k)]) (AM.get_alloc_self rfl) rfl) rfl (fr4.hl (fr3.hl hl)) (AM.fits (by omega) (by omega)) (AM.fits' (by omega)) fun v' h5 ho5 fr5 hid5 => ?_
      have k1' := fr5.get (fr4.get k1 (fun q => q)) (fun q => by have := hid _ q; omega)
      have k2' := fr5.get (fr4.get k2 (fun q => q)) (fun q => by have := hid _ q; omega)
      have lt5 := AM.get_some_lt k1'
      have lo5 := fr5.low
      simp only [AM.lw_alloc] at lo5
      simp only [AM.nx_alloc] at hid5
      obtain ⟨sa', sc', rfl⟩ := ho5.form
      (first | (simp (disch := first | omega | (simp only [AM.DB, List.length_set, List.length_map]; done) | (simp only [AM.DB, List.length_set, List.length_map]; omega)) only [AM.RB, Nat.reduceAdd, Nat.reduceMul, Nat.reduceEqDiff, reduceCtorEq, b23_C11, k1', AM.wrap_i64]) | skip); (repeat' (first | (refine AM.drawW_fine hp (by kernel_rfl) (by kernel_rfl) ?_; simp (disch := first | omega | (simp only [AM.DB, List.length_set, List.length_map]; done) | (simp only [AM.DB, List.length_set, List.length_map]; omega)) only [AM.RB, Nat.reduceAdd, Nat.reduceMul, Nat.reduceEqDiff, reduceCtorEq, b23_C11, k1', AM.wrap_i64]) | (refine AM.opW_tied (by kernel_rfl) ?_; simp (disch := first | omega | (simp only [AM.DB, List.length_set, List.length_map]; done) | (simp only [AM.DB, List.length_set, List.length_map]; omega)) only [AM.RB, Nat.reduceAdd, Nat.reduceMul, Nat.reduceEqDiff, reduceCtorEq, b23_C11, k1', AM.wrap_i64]) | (refine AM.opW_untied (by kernel_rfl) ?_; simp (disch := first | omega | (simp only [AM.DB, List.length_set, List.length_map]; done) | (simp only [AM.DB, List.length_set, List.length_map]; omega)) only [AM.RB, Nat.reduceAdd, Nat.reduceMul, Nat.reduceEqDiff, reduceCtorEq, b23_C11, k1', AM.wrap_i64]) | (refine AM.build_w ?_; simp (disch := first | omega | (simp only [AM.DB, List.length_set, List.length_map]; done) | (simp only [AM.DB, List.length_set, List.length_map]; omega)) only [AM.RB, Nat.reduceAdd, Nat.reduceMul, Nat.reduceEqDiff, reduceCtorEq, b23_C11, k1', AM.wrap_i64])))
      have hidn : ∀ id, idOf (.slice sa' (k + 1) sc') id → h.next + 1 < id := fun id q => by
        rcases hid5 id q with q | q
        · exact hid id q
        · omega
      have fr35 : Fr none' h h5 := (fr3.trans fr4).then fr5 fun id q1 q2 => by have := hid id q2; omega
      refine ⟨(k + 1, .slice sa' (k + 1) sc'), by simp only; omega, ?_, by simp only; omega, fr35.put _ (.inl (by omega)), ?_, ?_, ?_, hidn⟩
      · simp
      · rfl
      · exact k2'
      · rw [bytesT, List.map_append]
        exact ho5.same (fun id q => AM.get_put_ne (by have := hidn id q; omega)) rfl
    · obtain rfl : k = 4 := by omega
      (first | (simp (disch := first | omega | (simp only [AM.DB, List.length_set, List.length_map]; done) | (simp only [AM.DB, List.length_set, List.length_map]; omega)) only [AM.RB, Nat.reduceAdd, Nat.reduceMul, Nat.reduceEqDiff, reduceCtorEq, b23_C11, k1, k2]) | skip); (repeat' (first | (refine AM.drawW_fine hp (by kernel_rfl) (by kernel_rfl) ?_; simp (disch := first | omega | (simp only [AM.DB, List.length_set, List.length_map]; done) | (simp only [AM.DB, List.length_set, List.length_map]; omega)) only [AM.RB, Nat.reduceAdd, Nat.reduceMul, Nat.reduceEqDiff, reduceCtorEq, b23_C11, k1, k2]) | (refine AM.opW_tied (by kernel_rfl) ?_; simp (disch := first | omega | (simp only [AM.DB, List.length_set, List.length_map]; done) | (simp only [AM.DB, List.length_set, List.length_map]; omega)) only [AM.RB, Nat.reduceAdd, Nat.reduceMul, Nat.reduceEqDiff, reduceCtorEq, b23_C11, k1, k2]) | (refine AM.opW_untied (by kernel_rfl) ?_; simp (disch := first | omega | (simp only [AM.DB, List.length_set, List.length_map]; done) | (simp only [AM.DB, List.length_set, List.length_map]; omega)) only [AM.RB, Nat.reduceAdd, Nat.reduceMul, Nat.reduceEqDiff, reduceCtorEq, b23_C11, k1, k2]) | (refine AM.build_w ?_; simp (disch := first | omega | (simp only [AM.DB, List.length_set, List.length_map]; done) | (simp only [AM.DB, List.length_set, List.length_map]; omega)) only [AM.RB, Nat.reduceAdd, Nat.reduceMul, Nat.reduceEqDiff, reduceCtorEq, b23_C11, k1, k2])))
      exact hq _ _ (ho.same (fun id q => AM.get_put_ne (by have := hid id q; omega)) rfl) (fr3.put _ (.inl (Nat.le_refl _))) fun id q => by have := hid id q; omega
  · (first | (simp (disch := first | omega | (simp only [AM.DB, List.length_set, List.length_map]; done) | (simp only [AM.DB, List.length_set, List.length_map]; omega)) only [AM.RB, Nat.reduceAdd, Nat.reduceMul, Nat.reduceEqDiff, reduceCtorEq, b23_C11, g1', g2']) | skip); (repeat' (first | (refine AM.drawW_fine hp (by kernel_rfl) (by kernel_rfl) ?_; simp (disch := first | omega | (simp only [AM.DB, List.length_set, List.length_map]; done) | (simp only [AM.DB, List.length_set, List.length_map]; omega)) only [AM.RB, Nat.reduceAdd, Nat.reduceMul, Nat.reduceEqDiff, reduceCtorEq, b23_C11, g1', g2']) | (refine AM.opW_tied (by kernel_rfl) ?_; simp (disch := first | omega | (simp only [AM.DB, List.length_set, List.length_map]; done) | (simp only [AM.DB, List.length_set, List.length_map]; omega)) only [AM.RB, Nat.reduceAdd, Nat.reduceMul, Nat.reduceEqDiff, reduceCtorEq, b23_C11, g1', g2']) | (refine AM.opW_untied (by kernel_rfl) ?_; simp (disch := first | omega | (simp only [AM.DB, List.length_set, List.length_map]; done) | (simp only [AM.DB, List.length_set, List.length_map]; omega)) only [AM.RB, Nat.reduceAdd, Nat.reduceMul, Nat.reduceEqDiff, reduceCtorEq, b23_C11, g1', g2']) | (refine AM.build_w ?_; simp (disch := first | omega | (simp only [AM.DB, List.length_set, List.length_map]; done) | (simp only [AM.DB, List.length_set, List.length_map]; omega)) only [AM.RB, Nat.reduceAdd, Nat.reduceMul, Nat.reduceEqDiff, reduceCtorEq, b23_C11, g1', g2'])))
    have e : getC L x = none := by simpa using hb
    rw [e] at hq
    exact hq _ _ (Ow.nil _ _ _) (fr02.put _ (.inl (Nat.le_refl _))) (fun _ q => q.elim)

end Go.Proofs.Ytiigibhnjobcaaa
