/- Walks of this claim's functions, and plain laws. -/
import Derived.Test.YtbaohngkapmhlaaDoorWa
set_option linter.unusedSimpArgs false
set_option linter.unusedVariables false
namespace Go.Proofs.YtbaohngkapmhlaaDoor
open Go.AM
set_option maxRecDepth 8000
theorem b65_G5 : type_of% (And.intro (@List.map_toArray.{0,0}) (And.intro (@AM.boxK_agg) (And.intro (@AM.boxK_bool) (And.intro (@AM.boxK_func) (And.intro (@AM.boxK_int) (And.intro (@AM.boxK_map) (And.intro (@AM.boxK_pointer) (And.intro (@AM.boxK_slice) (And.intro (@AM.boxK_string) (And.intro (@AM.op_box) (@AM.op_makeFunc))))))))))) := And.intro (@List.map_toArray.{0,0}) (And.intro (@AM.boxK_agg) (And.intro (@AM.boxK_bool) (And.intro (@AM.boxK_func) (And.intro (@AM.boxK_int) (And.intro (@AM.boxK_map) (And.intro (@AM.boxK_pointer) (And.intro (@AM.boxK_slice) (And.intro (@AM.boxK_string) (And.intro (@AM.op_box) (@AM.op_makeFunc))))))))))
theorem b25_G5 : type_of% (And.intro (@AM.aMin_int) (And.intro (@AM.alK_some) (And.intro (@al_26) (And.intro (@al_3) (And.intro (@al_31) (And.intro (@AM.bdV_some) (And.intro (@bd_109) (And.intro (@AM.bin_add) (And.intro (@AM.bin_eql) (And.intro (@AM.bin_gtr) (And.intro (@AM.boxK_agg) (And.intro (@AM.boxK_bool) (And.intro (@AM.boxK_func) (And.intro (@AM.boxK_int) (And.intro (@AM.boxK_map) (And.intro (@AM.boxK_pointer) (And.intro (@AM.boxK_slice) (And.intro (@AM.boxK_string) (And.intro (@AM.fa_ptr) (And.intro (@fd_109_0) (And.intro (@fd_109_1) (And.intro (@fd_109_2) (And.intro (@AM.fillL_cons) (And.intro (@AM.fillL_nil) (And.intro (@AM.fillS_agg) (And.intro (@AM.fillS_bool) (And.intro (@AM.fillS_func) (And.intro (@AM.fillS_int) (And.intro (@AM.fillS_map) (And.intro (@AM.fillS_pointer) (And.intro (@AM.fillS_slice) (And.intro (@AM.fillS_string) (And.intro (@AM.ldO_agg) (And.intro (@AM.ldO_one) (And.intro (@AM.ld_ptr) (And.intro (AM.len_slice ul_22) (And.intro (@lk_26) (And.intro (@lk_3) (And.intro (@lk_31) (And.intro (@lk_94) (And.intro (@AM.op_alloc) (And.intro (@AM.op_append) (And.intro (@AM.op_binOp) (And.intro (@AM.op_box) (And.intro (@AM.op_build) (And.intro (@AM.op_call) (And.intro (@AM.op_fieldAddr) (And.intro (@AM.op_len) (And.intro (@AM.op_load) (And.intro (@AM.op_min2) (And.intro (@AM.op_nilCheck) (And.intro (@AM.op_slice) (And.intro (@AM.op_store) (And.intro (@AM.resL_four) (And.intro (@AM.res_cell) (And.intro (@AM.slbs_hi_i) (And.intro (@AM.slbs_lh_i) (And.intro (@AM.slbs_lo_i) (And.intro (@AM.stO_agg) (And.intro (@AM.stO_bool) (And.intro (@AM.stO_int) (And.intro (@AM.stO_map) (And.intro (@AM.stO_pointer) (And.intro (@AM.stO_slice) (And.intro (@AM.stO_string) (And.intro (@AM.st_ptr) (And.intro (AM.str_cut ul_9) (And.intro (@AM.str_eql) (And.intro (AM.str_len ul_9) (And.intro (@sz_26) (And.intro (@sz_3) (And.intro (@sz_31) (@sz_94))))))))))))))))))))))))))))))))))))))))))))))))))))))))))))))))))))))))) := And.intro (@AM.aMin_int) (And.intro (@AM.alK_some) (And.intro (@al_26) (And.intro (@al_3) (And.intro (@al_31) (And.intro (@AM.bdV_some) (And.intro (@bd_109) (And.intro (@AM.bin_add) (And.intro (@AM.bin_eql) (And.intro (@AM.bin_gtr) (And.intro (@AM.boxK_agg) (And.intro (@AM.boxK_bool) (And.intro (@AM.boxK_func) (And.intro (@AM.boxK_int) (And.intro (@AM.boxK_map) (And.intro (@AM.boxK_pointer) (And.intro (@AM.boxK_slice) (And.intro (@AM.boxK_string) (And.intro (@AM.fa_ptr) (And.intro (@fd_109_0) (And.intro (@fd_109_1) (And.intro (@fd_109_2) (And.intro (@AM.fillL_cons) (And.intro (@AM.fillL_nil) (And.intro (@AM.fillS_agg) (And.intro (@AM.fillS_bool) (And.intro (@AM.fillS_func) (And.intro (@AM.fillS_int) (And.intro (@AM.fillS_map) (And.intro (@AM.fillS_pointer) (And.intro (@AM.fillS_slice) (And.intro (@AM.fillS_string) (And.intro (@AM.ldO_agg) (And.intro (@AM.ldO_one) (And.intro (@AM.ld_ptr) (And.intro (AM.len_slice ul_22) (And.intro (@lk_26) (And.intro (@lk_3) (And.intro (@lk_31) (And.intro (@lk_94) (And.intro (@AM.op_alloc) (And.intro (@AM.op_append) (And.intro (@AM.op_binOp) (And.intro (@AM.op_box) (And.intro (@AM.op_build) (And.intro (@AM.op_call) (And.intro (@AM.op_fieldAddr) (And.intro (@AM.op_len) (And.intro (@AM.op_load) (And.intro (@AM.op_min2) (And.intro (@AM.op_nilCheck) (And.intro (@AM.op_slice) (And.intro (@AM.op_store) (And.intro (@AM.resL_four) (And.intro (@AM.res_cell) (And.intro (@AM.slbs_hi_i) (And.intro (@AM.slbs_lh_i) (And.intro (@AM.slbs_lo_i) (And.intro (@AM.stO_agg) (And.intro (@AM.stO_bool) (And.intro (@AM.stO_int) (And.intro (@AM.stO_map) (And.intro (@AM.stO_pointer) (And.intro (@AM.stO_slice) (And.intro (@AM.stO_string) (And.intro (@AM.st_ptr) (And.intro (AM.str_cut ul_9) (And.intro (@AM.str_eql) (And.intro (AM.str_len ul_9) (And.intro (@sz_26) (And.intro (@sz_3) (And.intro (@sz_31) (@sz_94))))))))))))))))))))))))))))))))))))))))))))))))))))))))))))))))))))))))


/-! ### Parse -/
def colsI (ls : List (List UInt8)) (i : Nat) : Nat := if i = 0 then 32 else min 32 (lineT (ls.getD 0 [])).length
def kindsI (ls : List (List UInt8)) : Nat → List UInt8
  | 0 => []
  | i + 1 => kindsI ls i ++ (ls.getD i []).take (colsI ls 1)
def errI (ls : List (List UInt8)) (i : Nat) : Int := if 32 < i + 1 then 1 else rowE (ls.getD i []) (colsI ls 1)
def okI (ls : List (List UInt8)) (i : Nat) : Prop := ∀ k, k < i → errI ls k = 0
theorem rowP_pos : ∀ (k : Nat) (t : List UInt8) (c : Int) (i j : Nat), rowP t c k i = some j → 0 < j
  | 0, _, _, _, _, h => by cases h
  | k + 1, t, c, i, j, h => by
    rw [rowP] at h
    split at h
    · cases h; omega
    · exact rowP_pos k t c (i + 1) j h
theorem rowE_nonneg (l : List UInt8) (c : Int) : 0 ≤ rowE l c := by
  unfold rowE
  split
  · omega
  · split <;> omega
theorem lineT_le (l : List UInt8) : (lineT l).length ≤ l.length := by unfold lineT; split <;> simp
theorem rowE_zero {l : List UInt8} {c : Int} (h : rowE l c = 0) : sufB l [10] = true ∧ c ≤ (lineT l).length ∧ 0 < (lineT l).length ∧ rowP (lineT l) c (lineT l).length 0 = none := by
  unfold rowE at h
  split at h
  · rename_i i hi
    have := rowP_pos _ _ _ _ _ hi
    omega
  · rename_i hn
    split at h
    · omega
    · rename_i hc
      refine ⟨?_, ?_, ?_, hn⟩
      · cases hs : sufB l [10] with
        | true => rfl
        | false => exact absurd (.inl hs) hc
      · by_cases q : (lineT l).length < c
        · exact absurd (.inr (.inl q)) hc
        · omega
      · by_cases q : (lineT l).length = 0
        · exact absurd (.inr (.inr q)) hc
        · omega
theorem okI_succ {ls : List (List UInt8)} {i : Nat} (h : okI ls i) (h0 : errI ls i = 0) : okI ls (i + 1) := fun k hk => by
  by_cases e : k = i
  · subst e; exact h0
  · exact h k (by omega)
theorem kindsI_len (ls : List (List UInt8)) : ∀ i, okI ls i → (kindsI ls i).length = i * colsI ls 1
  | 0, _ => by simp [kindsI]
  | i + 1, h => by
    have ih := kindsI_len ls i fun k hk => h k (by omega)
    have h0 := h i (by omega)
    unfold errI at h0
    split at h0
    · omega
    · obtain ⟨_, h2, _⟩ := rowE_zero h0
      have := lineT_le (ls.getD i [])
      rw [kindsI, List.length_append, ih, List.length_take, Nat.add_mul, Nat.one_mul]; omega
theorem okI_le {ls : List (List UInt8)} {i : Nat} (h : okI ls i) : i ≤ 32 := by
  by_cases q : i ≤ 32
  · exact q
  · have := h 32 (by omega)
    unfold errI at this
    rw [if_pos (by omega)] at this; cases this
theorem colsI_le (ls : List (List UInt8)) (i : Nat) : colsI ls i ≤ 32 := by unfold colsI; split <;> omega
theorem linesL_mem : ∀ (n : Nat) (l x : List UInt8), x ∈ linesL n l → x.length ≤ l.length ∧ x ≠ []
  | 0, _, _, h => by cases h
  | n + 1, l, x, h => by
    rw [linesL] at h
    split at h
    · cases h
    · rename_i hl
      split at h
      · rename_i i hi
        rcases List.mem_cons.1 h with rfl | h
        · exact ⟨by simp; exact Nat.min_le_right _ _, fun e => by
            have := congrArg List.length e
            have hlt : i < l.length := (List.findIdx?_eq_some_iff_getElem.1 hi).1
            rw [List.length_take, List.length_nil] at this; omega⟩
        · obtain ⟨h1, h2⟩ := linesL_mem n _ x h
          exact ⟨by simp at h1; omega, h2⟩
      · rw [List.mem_singleton] at h; subst h; exact ⟨Nat.le_refl _, hl⟩
abbrev tl0 : List Value := [.int .u32 0, .int .i32 0, .int .u32 0, .slice none 0 0, .slice none 0 0]

theorem linesC_w (l : List UInt8) {h : AHeap} {Q : VQ} (hq : ∀ h', h'.get h.next = some (.cells [strV l] 9 false) → Fr none' h h' → h'.next = h.next + 1 → h'.low = h.low → Q (.func (.func 96) #[] #[.pointer (some ⟨h.next, 0, none⟩)]) h') : W 65 [strV l] h Q := by
  refine AM.enter hp (fn := Tryd.f65) (rs := [.tmp 2]) (nt := 4) (by kernel_rfl) Tryd.func65 rfl rfl rfl (by kernel_rfl) ?_
  simp (maxSteps := 1000000) (disch := first | omega | (simp only [AM.DB, List.length_set, List.length_map]; first | done | omega)) only [AM.RB, Nat.reduceAdd, Nat.reduceMul, Nat.reduceEqDiff, reduceCtorEq, b65_G5]
  generalize hE_ : AHeap.alloc h _ = h1; obtain ⟨g1, fr1, n1, l1⟩ := AM.new_get hE_; clear hE_
  exact hq _ g1 fr1 n1 l1

def ParK (h : AHeap) (L : Nat) (ls : List (List UInt8)) (i : Nat) (S : Nat → Prop) (h' : AHeap) : Prop :=
  Fr none' h h' ∧ h'.get h.next = some (.cells [pv (h.next + 4)] 26 false) ∧ h'.get (h.next + 1) = some (.cells [.int .i64 0] 3 false) ∧ h'.get (h.next + 2) = some (.cells [.int .i64 0] 3 false) ∧ h'.get (h.next + 3) = some (.cells [.int .i64 0] 31 false) ∧
    okI ls i ∧ S h.next ∧ S (h.next + 1) ∧ S (h.next + 2) ∧ S (h.next + 3) ∧ S (h.next + 4) ∧ ∃ kv, Mp h' (h.next + 4) kv i (colsI ls i) (kindsI ls i) tl0 ∧ ∀ id, idOf kv id → S id ∧ L ≤ id
def ParE (h : AHeap) (ls : List (List UInt8)) (S : Nat → Prop) (h' : AHeap) : Prop :=
  ∃ i, i < ls.length ∧ okI ls i ∧ errI ls i ≠ 0 ∧ Fr none' h h' ∧ h'.get h.next = some (.cells [.pointer none] 26 false) ∧ h'.get (h.next + 1) = some (.cells [.int .i64 ((i : Int) + 1)] 3 false) ∧ h'.get (h.next + 2) = some (.cells [.int .i64 (errI ls i)] 3 false) ∧ h'.get (h.next + 3) = some (.cells [.int .i64 10] 31 false) ∧ S h.next ∧ S (h.next + 1) ∧ S (h.next + 2) ∧ S (h.next + 3)
theorem ParK.keep {h : AHeap} {L : Nat} {ls : List (List UInt8)} {i : Nat} {S : Nat → Prop} {h1 h2 : AHeap} (k : ParK h L ls i S h1) (hS : ∀ id, S id → h2.get id = h1.get id) (hB : ∀ id, id < h.next → h2.get id = h1.get id) (hn : h1.next ≤ h2.next) (hl : h2.low = h1.low) : ParK h L ls i S h2 := by
  obtain ⟨fr, k1, k2, k3, k4, ok, s1, s2, s3, s4, s5, kv, m, hid⟩ := k
  refine ⟨fr.ext' hB hn hl, by rw [hS _ s1]; exact k1, by rw [hS _ s2]; exact k2, by rw [hS _ s3]; exact k3, by rw [hS _ s4]; exact k4, ok, s1, s2, s3, s4, s5, kv, ⟨by rw [hS _ s5]; exact m.1, m.2.1.same (fun id q => hS id (hid id q).1) hl, m.2.2.1, by rw [hl]; exact m.2.2.2.1, m.2.2.2.2⟩, hid⟩
theorem ParE.keep {h : AHeap} {ls : List (List UInt8)} {S : Nat → Prop} {h1 h2 : AHeap} (k : ParE h ls S h1) (hS : ∀ id, S id → h2.get id = h1.get id) (hB : ∀ id, id < h.next → h2.get id = h1.get id) (hn : h1.next ≤ h2.next) (hl : h2.low = h1.low) : ParE h ls S h2 := by
  obtain ⟨i, hi, ok, he, fr, k1, k2, k3, k4, s1, s2, s3, s4⟩ := k
  exact ⟨i, hi, ok, he, fr.ext' hB hn hl, by rw [hS _ s1]; exact k1, by rw [hS _ s2]; exact k2, by rw [hS _ s3]; exact k3, by rw [hS _ s4]; exact k4, s1, s2, s3, s4⟩

set_option maxHeartbeats 4000000 in
theorem parse_w (l : List UInt8) (hl : l.length ≤ 9223372036854775807) {h : AHeap} (hlow : h.low ≤ h.next) {Q : VQ}
    (h0 : l = [] → ∀ h', Fr none' h h' → Q (.tuple #[.pointer none, .int .i64 1, .int .i64 1, .int .i64 10]) h')
    (hbad : ∀ i, i < (linesL l.length l).length → okI (linesL l.length l) i → errI (linesL l.length l) i ≠ 0 → ∀ h', Fr none' h h' → Q (.tuple #[.pointer none, .int .i64 ((i : Int) + 1), .int .i64 (errI (linesL l.length l) i), .int .i64 10]) h')
    (hnone : l ≠ [] → okI (linesL l.length l) (linesL l.length l).length → allP (kindsI (linesL l.length l) (linesL l.length l).length) (kindsI (linesL l.length l) (linesL l.length l).length).length = [] → ∀ h', Fr none' h h' → Q (.tuple #[.pointer none, .int .i64 0, .int .i64 0, .int .i64 10]) h')
    (hok : l ≠ [] → okI (linesL l.length l) (linesL l.length l).length → allP (kindsI (linesL l.length l) (linesL l.length l).length) (kindsI (linesL l.length l) (linesL l.length l).length).length ≠ [] → ∀ p kv h', Mp h' p kv (linesL l.length l).length (colsI (linesL l.length l) 1) (kindsI (linesL l.length l) (linesL l.length l).length) tl0 → Fr none' h h' → h.next ≤ p → (∀ id, idOf kv id → h.next ≤ id) → Q (.tuple #[pv p, .int .i64 0, .int .i64 0, .int .i64 0]) h') :
    W 25 [strV l] h Q := by
  refine AM.enter hp (fn := Tryd.f25) (rs := [.cell 2 26, .cell 3 3, .cell 4 3, .cell 5 31]) (nt := 75) (by kernel_rfl) Tryd.func25 rfl rfl rfl (by kernel_rfl) ?_
  simp (maxSteps := 1000000) (disch := first | omega | (simp only [AM.DB, List.length_set, List.length_map]; first | done | omega)) only [AM.RB, Nat.reduceAdd, Nat.reduceMul, Nat.reduceEqDiff, reduceCtorEq, b25_G5]
  refine AM.condV_split (fun he => ?_) (fun hne => ?_)
  · simp (maxSteps := 1000000) (disch := first | omega | (simp only [AM.DB, List.length_set, List.length_map]; first | done | omega)) only [AM.RB, Nat.reduceAdd, Nat.reduceMul, Nat.reduceEqDiff, reduceCtorEq, b25_G5]
    refine h0 he _ ?_
    exact (((((((Fr.refl _ _).alloc _).alloc _).alloc _).alloc _).put _ (.inl (by omega))).put _ (.inl (by omega))).put _ (.inl (by omega)) |>.put _ (.inl (by omega))
  (repeat' (first | (simp (maxSteps := 1000000) (disch := first | omega | (simp only [AM.DB, List.length_set, List.length_map]; first | done | omega)) only [AM.RB, Nat.reduceAdd, Nat.reduceMul, Nat.reduceEqDiff, reduceCtorEq, b25_G5]) | refine AM.drawW_loose (id := 8) hp (by kernel_rfl) (by kernel_rfl) ?_ | refine AM.drawW_loose (id := 10) hp (by kernel_rfl) (by kernel_rfl) ?_ | refine AM.drawW_loose (id := 13) hp (by kernel_rfl) (by kernel_rfl) ?_ | refine AM.drawW_loose (id := 14) hp (by kernel_rfl) (by kernel_rfl) ?_ | refine AM.opW_tied (by kernel_rfl) ?_ | refine AM.opW_untied (by kernel_rfl) ?_ | refine AM.build_w ?_))
  simp only [Nat.add_assoc, Nat.reduceAdd]
  generalize hE_ : AHeap.put _ h.next _ = h1
  have fr1 : Fr none' h h1 := by
    rw [← hE_]
    exact ((((((Fr.refl _ _).alloc _).alloc _).alloc _).alloc _).alloc _).put _ (.inl (Nat.le_refl _))
  have n1 : h1.next = h.next + 5 := by rw [← hE_]; rfl
  have l1 : h1.low = h.low := by rw [← hE_]; rfl
  have f0 : h1.get h.next = some (.cells [pv (h.next + 4)] 26 false) := by rw [← hE_]; simp (maxSteps := 1000000) (disch := first | omega | (simp only [AM.DB, List.length_set, List.length_map]; first | done | omega)) only [AM.RB, Nat.reduceAdd, Nat.reduceMul, Nat.reduceEqDiff, reduceCtorEq, b25_G5]
  have f1 : h1.get (h.next + 1) = some (.cells [.int .i64 0] 3 false) := by rw [← hE_]; simp (maxSteps := 1000000) (disch := first | omega | (simp only [AM.DB, List.length_set, List.length_map]; first | done | omega)) only [AM.RB, Nat.reduceAdd, Nat.reduceMul, Nat.reduceEqDiff, reduceCtorEq, b25_G5]
  have f2 : h1.get (h.next + 2) = some (.cells [.int .i64 0] 3 false) := by rw [← hE_]; simp (maxSteps := 1000000) (disch := first | omega | (simp only [AM.DB, List.length_set, List.length_map]; first | done | omega)) only [AM.RB, Nat.reduceAdd, Nat.reduceMul, Nat.reduceEqDiff, reduceCtorEq, b25_G5]
  have f3 : h1.get (h.next + 3) = some (.cells [.int .i64 0] 31 false) := by rw [← hE_]; simp (maxSteps := 1000000) (disch := first | omega | (simp only [AM.DB, List.length_set, List.length_map]; first | done | omega)) only [AM.RB, Nat.reduceAdd, Nat.reduceMul, Nat.reduceEqDiff, reduceCtorEq, b25_G5]
  have f4 : h1.get (h.next + 4) = some (.cells (.int .i64 (0 : Nat) :: .int .i64 (32 : Nat) :: .slice none 0 0 :: tl0) 109 false) := by rw [← hE_]; simp (maxSteps := 1000000) (disch := first | omega | (simp only [AM.DB, List.length_set, List.length_map]; first | done | omega)) only [AM.RB, Nat.reduceAdd, Nat.reduceMul, Nat.reduceEqDiff, reduceCtorEq, b25_G5]
  clear hE_
  refine linesC_w l fun h2 gw fr2 n2 l2 => ?_
  have hw1 : h1.next = h.next + 5 := n1
  rw [n1] at gw ⊢
  replace f0 := f0.fr0 fr2
  replace f1 := f1.fr0 fr2
  replace f2 := f2.fr0 fr2
  replace f3 := f3.fr0 fr2
  replace f4 := f4.fr0 fr2
  have fr02 := fr1.trans fr2
  have hl2 := hlow.fr0 fr02
  generalize hls : linesL l.length l = ls at *
  have hmem : ∀ x ∈ ls, x.length ≤ l.length ∧ x ≠ [] := fun x hx => by rw [← hls] at hx; exact linesL_mem _ _ _ hx
  simp (maxSteps := 1000000) (disch := first | omega | (simp only [AM.DB, List.length_set, List.length_map]; first | done | omega)) only [AM.RB, Nat.reduceAdd, Nat.reduceMul, Nat.reduceEqDiff, reduceCtorEq, b25_G5]
  refine AM.range_iter3 hp (R := fun _ => False) (A0 := fun id => id = h.next + 5) (xs := ls.map fun x => [strV x]) (AM.entersV_of Tryd.func96 rfl) (by kernel_rfl) (by kernel_rfl) ?_ ?_ hl2 ?_ ?_
    (fun i => AM.JKW h2.next (fun id => id = h.next + 5) (ParK h h2.next ls i)) (fun x => fun A h' => x = .ret ∧ AM.JKW h2.next (fun id => id = h.next + 5) (ParE h ls) A h') ?_ ?_
    (fun i x e A h' => AM.Sh e 75 [(2, pv h.next), (3, pv (h.next + 1)), (4, pv (h.next + 2)), (5, pv (h.next + 3)), (6, x.getD 0 undef)] ∧ AM.JKW h2.next (fun id => id = h.next + 5) (ParK h h2.next ls i) A h') ?_ ?_ ?_ ?_ ?_ ?_
  · intro x hx; obtain ⟨q, _, rfl⟩ := List.mem_map.1 hx; rfl
  · intro id q; exact q.elim
  · rintro id rfl; omega
  · rw [← hls]
    exact lines1_w gw (by omega) (by omega)
  · exact fun i => AM.JKW.stab fun S a b hB hk hS hBl hn' hl' => hk.keep hS (fun id q => hBl id (by omega) (by omega)) hn' hl'
  · exact fun x => AM.Stab.and (AM.JKW.stab fun S a b hB hk hS hBl hn' hl' => hk.keep hS (fun id q => hBl id (by omega) (by omega)) hn' hl')
  · exact fun i x e => AM.Stab.and (AM.JKW.stab fun S a b hB hk hS hBl hn' hl' => hk.keep hS (fun id q => hBl id (by omega) (by omega)) hn' hl')
  · rintro i x A h3 hx ⟨hB, hA, S, hk, hS⟩ hA1 hL3 hlow3 hR3
    rw [List.getElem?_map] at hx
    obtain ⟨q, hq', rfl⟩ := Option.map_eq_some_iff.1 hx
    simp (maxSteps := 1000000) (disch := first | omega | (simp only [AM.DB, List.length_set, List.length_map]; first | done | omega)) only [AM.RB, Nat.reduceAdd, Nat.reduceMul, Nat.reduceEqDiff, reduceCtorEq, b25_G5]
    exact ⟨Nat.le_refl _, fun _ _ _ => trivial, hB, hA, S, hk, hS⟩
  · intro o
    refine ⟨Nat.le_succ _, fun id e => by rcases e with e | e; exact .inl e; exact .inr (by omega), fun id => id < h.next + 5 ∧ h.next ≤ id, ⟨fr02.alloc _, ?_, ?_, ?_, ?_, fun k hk => by omega, by omega, by omega, by omega, by omega, by omega, .slice none 0 0, ⟨?_, Ow.nil _ _ _, rfl, by simp only [AM.lw_alloc]; omega, fun q => q⟩, fun _ q => q.elim⟩, fun id q => ⟨by simp only [AM.nx_alloc]; omega, by omega⟩⟩
    · rw [AM.get_alloc_ne (by omega)]; exact f0
    · rw [AM.get_alloc_ne (by omega)]; exact f1
    · rw [AM.get_alloc_ne (by omega)]; exact f2
    · rw [AM.get_alloc_ne (by omega)]; exact f3
    · rw [AM.get_alloc_ne (by omega)]; exact f4
  · rintro i x e A h3 hx ⟨he, hB, hA, S, ⟨fr3, k0, k1, k2, k3, ok, s0, s1, s2, s3, s4, kv, m, hid⟩, hS⟩ hA1 hL3 hlow3 hR3
    obtain ⟨ρ, rfl⟩ := he.open'
    rw [List.getElem?_map] at hx
    obtain ⟨q, hq', rfl⟩ := Option.map_eq_some_iff.1 hx
    obtain ⟨hql, hqne⟩ := hmem q (List.mem_of_getElem? hq')
    have hgq : ls.getD i [] = q := by simp [List.getD, hq']
    have hils : i < ls.length := (List.getElem?_eq_some_iff.1 hq').1
    have ok32 := okI_le ok
    have hgm := m.1
    have hlw : h3.low ≤ h.next := by omega
    have hlt3 : h.next + 5 ≤ h3.next := by have := AM.get_some_lt hgm; omega
    have hAs : ∀ id, S id → ¬ A id := fun id q => (hS id q).2
    have hAlt : ∀ id, A id → h.next + 5 ≤ id := fun id q => by rcases hA id q with q | q <;> omega
    have hkv : ∀ id, idOf kv id → id ≠ h.next ∧ id ≠ h.next + 1 ∧ id ≠ h.next + 2 ∧ id ≠ h.next + 3 ∧ id ≠ h.next + 4 := fun id q => by have := (hid id q).2; omega
    have hc1 : colsI ls 1 = min 32 (lineT q).length ∨ i ≠ 0 := by
      by_cases e : i = 0
      · left; subst e; unfold colsI; rw [if_neg (by omega), hgq]
      · exact .inr e
    have hcs : i ≠ 0 → colsI ls i = colsI ls 1 := fun e => by unfold colsI; rw [if_neg e, if_neg (by omega)]
    have hc32 := colsI_le ls 1
    by_cases hi0 : i = 0
    case' pos =>
      have hc1 := hc1.resolve_right (fun q => q hi0)
      have hd1 : decide ((i : Int) + 1 = 1) = true := decide_eq_true (by omega)
      (repeat' (first | (simp (maxSteps := 1000000) (disch := first | omega | (simp only [AM.DB, List.length_set, List.length_map]; first | done | omega)) only [AM.RB, Nat.reduceAdd, Nat.reduceMul, Nat.reduceEqDiff, reduceCtorEq, b25_G5, k0, hgm, AM.wrap_i64, hd1]) | refine AM.drawW_loose (id := 8) hp (by kernel_rfl) (by kernel_rfl) ?_ | refine AM.drawW_loose (id := 10) hp (by kernel_rfl) (by kernel_rfl) ?_ | refine AM.drawW_loose (id := 13) hp (by kernel_rfl) (by kernel_rfl) ?_ | refine AM.drawW_loose (id := 14) hp (by kernel_rfl) (by kernel_rfl) ?_ | refine AM.opW_tied (by kernel_rfl) ?_ | refine AM.opW_untied (by kernel_rfl) ?_ | refine AM.build_w ?_))
      generalize hE_ : AHeap.put h3 _ _ = h4; obtain ⟨g4, fr4, n4, l4⟩ := AM.put_get hE_ (by omega); clear hE_
      have k04 := fr4.get k0 (by omega)
      (repeat' (first | (simp (maxSteps := 1000000) (disch := first | omega | (simp only [AM.DB, List.length_set, List.length_map]; first | done | omega)) only [AM.RB, Nat.reduceAdd, Nat.reduceMul, Nat.reduceEqDiff, reduceCtorEq, b25_G5, k04, g4, AM.wrap_i64, hd1]) | refine AM.drawW_loose (id := 8) hp (by kernel_rfl) (by kernel_rfl) ?_ | refine AM.drawW_loose (id := 10) hp (by kernel_rfl) (by kernel_rfl) ?_ | refine AM.drawW_loose (id := 13) hp (by kernel_rfl) (by kernel_rfl) ?_ | refine AM.drawW_loose (id := 14) hp (by kernel_rfl) (by kernel_rfl) ?_ | refine AM.opW_tied (by kernel_rfl) ?_ | refine AM.opW_untied (by kernel_rfl) ?_ | refine AM.build_w ?_))
      refine trim_w q [10] (by omega) _ _ ?_
      have etr : (if sufB q [10] = true then q.take (q.length - [(10 : UInt8)].length) else q) = lineT q := rfl
      rw [etr]
      have emin : min (32 : Int) ((lineT q).length : Int) = (colsI ls 1 : Int) := by rw [hc1]; omega
      (repeat' (first | (simp (maxSteps := 1000000) (disch := first | omega | (simp only [AM.DB, List.length_set, List.length_map]; first | done | omega)) only [AM.RB, Nat.reduceAdd, Nat.reduceMul, Nat.reduceEqDiff, reduceCtorEq, b25_G5, k04, g4, emin]) | refine AM.drawW_loose (id := 8) hp (by kernel_rfl) (by kernel_rfl) ?_ | refine AM.drawW_loose (id := 10) hp (by kernel_rfl) (by kernel_rfl) ?_ | refine AM.drawW_loose (id := 13) hp (by kernel_rfl) (by kernel_rfl) ?_ | refine AM.drawW_loose (id := 14) hp (by kernel_rfl) (by kernel_rfl) ?_ | refine AM.opW_tied (by kernel_rfl) ?_ | refine AM.opW_untied (by kernel_rfl) ?_ | refine AM.build_w ?_))
      generalize hE_ : AHeap.put h4 _ _ = h5; obtain ⟨g5, fr5, n5, l5⟩ := AM.put_get hE_ (by omega); clear hE_
      have k05 := fr5.get k04 (by omega)
      refine ⟨AM.looseOk_by [(0, [0, 3])] (by kernel_rfl) ?_, ?_⟩
      · simp (maxSteps := 1000000) (disch := first | omega | (simp only [AM.DB, List.length_set, List.length_map]; first | done | omega)) only [AM.RB, Nat.reduceAdd, Nat.reduceMul, Nat.reduceEqDiff, reduceCtorEq, b25_G5]
        (repeat' apply And.intro) <;> (first | (refine AM.stable_len _ _ _ _ _ _ (fun _ => ?_); (simp (maxSteps := 1000000) (disch := first | omega | (simp only [AM.DB, List.length_set, List.length_map]; first | done | omega)) only [AM.RB, Nat.reduceAdd, Nat.reduceMul, Nat.reduceEqDiff, reduceCtorEq, b25_G5, k04, k05])) | (refine AM.stable_load _ _ _ _ _ _ ?_; (first | (simp (maxSteps := 1000000) (disch := first | omega | (simp only [AM.DB, List.length_set, List.length_map]; first | done | omega)) only [AM.RB, Nat.reduceAdd, Nat.reduceMul, Nat.reduceEqDiff, reduceCtorEq, b25_G5, k04, k05]) | skip); (first | (refine AM.stabL_int (by omega) ?_; (simp (maxSteps := 1000000) (disch := first | omega | (simp only [AM.DB, List.length_set, List.length_map]; first | done | omega)) only [AM.RB, Nat.reduceAdd, Nat.reduceMul, Nat.reduceEqDiff, reduceCtorEq, b25_G5, k04, k05])) | (refine AM.stabL_ptr (by omega) (by omega) ?_; (simp (maxSteps := 1000000) (disch := first | omega | (simp only [AM.DB, List.length_set, List.length_map]; first | done | omega)) only [AM.RB, Nat.reduceAdd, Nat.reduceMul, Nat.reduceEqDiff, reduceCtorEq, b25_G5, k04, k05])) | (refine AM.stabL_string (by omega) ?_; (simp (maxSteps := 1000000) (disch := first | omega | (simp only [AM.DB, List.length_set, List.length_map]; first | done | omega)) only [AM.RB, Nat.reduceAdd, Nat.reduceMul, Nat.reduceEqDiff, reduceCtorEq, b25_G5, k04, k05])) | (refine AM.stabL_bool (by omega) ?_; (simp (maxSteps := 1000000) (disch := first | omega | (simp only [AM.DB, List.length_set, List.length_map]; first | done | omega)) only [AM.RB, Nat.reduceAdd, Nat.reduceMul, Nat.reduceEqDiff, reduceCtorEq, b25_G5, k04, k05])))))
      have fr35 : Fr (fun k => k = h.next + 4) h3 h5 := fr4.trans fr5
    case' neg =>
      have hd1 : decide ((i : Int) + 1 = 1) = false := decide_eq_false (by omega)
      rw [hcs hi0] at hgm
      (repeat' (first | (simp (maxSteps := 1000000) (disch := first | omega | (simp only [AM.DB, List.length_set, List.length_map]; first | done | omega)) only [AM.RB, Nat.reduceAdd, Nat.reduceMul, Nat.reduceEqDiff, reduceCtorEq, b25_G5, k0, hgm, AM.wrap_i64, hd1]) | refine AM.drawW_loose (id := 8) hp (by kernel_rfl) (by kernel_rfl) ?_ | refine AM.drawW_loose (id := 10) hp (by kernel_rfl) (by kernel_rfl) ?_ | refine AM.drawW_loose (id := 13) hp (by kernel_rfl) (by kernel_rfl) ?_ | refine AM.drawW_loose (id := 14) hp (by kernel_rfl) (by kernel_rfl) ?_ | refine AM.opW_tied (by kernel_rfl) ?_ | refine AM.opW_untied (by kernel_rfl) ?_ | refine AM.build_w ?_))
      generalize hE_ : AHeap.put h3 _ _ = h5; obtain ⟨g5, fr5, n5, l5⟩ := AM.put_get hE_ (by omega); clear hE_
      have k05 := fr5.get k0 (by omega)
      have fr35 : Fr (fun k => k = h.next + 4) h3 h5 := fr5
    all_goals (
      have gi := g5
      have frA : Fr (fun k => h.next ≤ k ∧ k ≤ h.next + 4) h3 h5 := fr35.mono fun k _ q => by omega
      have nA : h5.next = h3.next := by omega
      have lA : h5.low = h3.low := frA.low
      have k15 := fr35.get k1 (by omega)
      have k25 := fr35.get k2 (by omega)
      have k35 := fr35.get k3 (by omega)
      have mo := m.2.1.fr fr35 (fun id q e => by have := hkv id q; omega)
      have fr35' := fr35
      have k1' := k1
      have k2' := k2
      have k3' := k3
      clear fr35 g5 k0 k1 k2 k3 hgm)
    all_goals (
      by_cases hov : (32 : Int) < (i : Int) + 1
      · first | (exfalso; omega) | skip
        all_goals (
          have herr : errI ls i = 1 := by unfold errI; rw [if_pos (by omega)]
          have hd33 := decide_eq_true hov
          (repeat' (first | (simp (maxSteps := 1000000) (disch := first | omega | (simp only [AM.DB, List.length_set, List.length_map]; first | done | omega)) only [AM.RB, Nat.reduceAdd, Nat.reduceMul, Nat.reduceEqDiff, reduceCtorEq, b25_G5, hd33, k05, gi, k15, k25, k35]) | refine AM.drawW_loose (id := 8) hp (by kernel_rfl) (by kernel_rfl) ?_ | refine AM.drawW_loose (id := 10) hp (by kernel_rfl) (by kernel_rfl) ?_ | refine AM.drawW_loose (id := 13) hp (by kernel_rfl) (by kernel_rfl) ?_ | refine AM.drawW_loose (id := 14) hp (by kernel_rfl) (by kernel_rfl) ?_ | refine AM.opW_tied (by kernel_rfl) ?_ | refine AM.opW_untied (by kernel_rfl) ?_ | refine AM.build_w ?_))
          refine ⟨AM.looseOk_by [(3, [0, 5])] (by kernel_rfl) ?_, ?_⟩
          · simp (maxSteps := 1000000) (disch := first | omega | (simp only [AM.DB, List.length_set, List.length_map]; first | done | omega)) only [AM.RB, Nat.reduceAdd, Nat.reduceMul, Nat.reduceEqDiff, reduceCtorEq, b25_G5]
            (repeat' apply And.intro) <;> (first | (refine AM.stable_len _ _ _ _ _ _ (fun _ => ?_); (simp (maxSteps := 1000000) (disch := first | omega | (simp only [AM.DB, List.length_set, List.length_map]; first | done | omega)) only [AM.RB, Nat.reduceAdd, Nat.reduceMul, Nat.reduceEqDiff, reduceCtorEq, b25_G5, k05, gi, k15, k25, k35])) | (refine AM.stable_load _ _ _ _ _ _ ?_; (first | (simp (maxSteps := 1000000) (disch := first | omega | (simp only [AM.DB, List.length_set, List.length_map]; first | done | omega)) only [AM.RB, Nat.reduceAdd, Nat.reduceMul, Nat.reduceEqDiff, reduceCtorEq, b25_G5, k05, gi, k15, k25, k35]) | skip); (first | (refine AM.stabL_int (by omega) ?_; (simp (maxSteps := 1000000) (disch := first | omega | (simp only [AM.DB, List.length_set, List.length_map]; first | done | omega)) only [AM.RB, Nat.reduceAdd, Nat.reduceMul, Nat.reduceEqDiff, reduceCtorEq, b25_G5, k05, gi, k15, k25, k35])) | (refine AM.stabL_ptr (by omega) (by omega) ?_; (simp (maxSteps := 1000000) (disch := first | omega | (simp only [AM.DB, List.length_set, List.length_map]; first | done | omega)) only [AM.RB, Nat.reduceAdd, Nat.reduceMul, Nat.reduceEqDiff, reduceCtorEq, b25_G5, k05, gi, k15, k25, k35])) | (refine AM.stabL_string (by omega) ?_; (simp (maxSteps := 1000000) (disch := first | omega | (simp only [AM.DB, List.length_set, List.length_map]; first | done | omega)) only [AM.RB, Nat.reduceAdd, Nat.reduceMul, Nat.reduceEqDiff, reduceCtorEq, b25_G5, k05, gi, k15, k25, k35])) | (refine AM.stabL_bool (by omega) ?_; (simp (maxSteps := 1000000) (disch := first | omega | (simp only [AM.DB, List.length_set, List.length_map]; first | done | omega)) only [AM.RB, Nat.reduceAdd, Nat.reduceMul, Nat.reduceEqDiff, reduceCtorEq, b25_G5, k05, gi, k15, k25, k35])))))
          generalize hE_ : AHeap.put _ (h.next + 3) _ = h9
          have e0 : h9.get h.next = some (.cells [.pointer none] 26 false) := by rw [← hE_]; simp (maxSteps := 1000000) (disch := first | omega | (simp only [AM.DB, List.length_set, List.length_map]; first | done | omega)) only [AM.RB, Nat.reduceAdd, Nat.reduceMul, Nat.reduceEqDiff, reduceCtorEq, b25_G5]
          have e1 : h9.get (h.next + 1) = some (.cells [.int .i64 ((i : Int) + 1)] 3 false) := by rw [← hE_]; simp (maxSteps := 1000000) (disch := first | omega | (simp only [AM.DB, List.length_set, List.length_map]; first | done | omega)) only [AM.RB, Nat.reduceAdd, Nat.reduceMul, Nat.reduceEqDiff, reduceCtorEq, b25_G5]
          have e2 : h9.get (h.next + 2) = some (.cells [.int .i64 (errI ls i)] 3 false) := by rw [← hE_, herr]; simp (maxSteps := 1000000) (disch := first | omega | (simp only [AM.DB, List.length_set, List.length_map]; first | done | omega)) only [AM.RB, Nat.reduceAdd, Nat.reduceMul, Nat.reduceEqDiff, reduceCtorEq, b25_G5]
          have e3 : h9.get (h.next + 3) = some (.cells [.int .i64 10] 31 false) := by rw [← hE_]; simp (maxSteps := 1000000) (disch := first | omega | (simp only [AM.DB, List.length_set, List.length_map]; first | done | omega)) only [AM.RB, Nat.reduceAdd, Nat.reduceMul, Nat.reduceEqDiff, reduceCtorEq, b25_G5]
          have frB : Fr (fun k => h.next ≤ k ∧ k ≤ h.next + 4) h3 h9 := by
            rw [← hE_]
            exact (((frA.put _ (.inr (by omega))).put _ (.inr (by omega))).put _ (.inr (by omega))).put _ (.inr (by omega))
          have nB : h9.next = h3.next := by rw [← hE_]; simpa using nA
          have lB := frB.low
          clear hE_
          refine ⟨by omega, by omega, fun id q1 q2 => frB.old id q1 fun q3 => by have := hAlt id (by simpa using q2); omega, by omega, hA, S, ⟨i, hils, ok, by omega, fr3.fresh frB (fun id q => q.1), e0, e1, e2, e3, s0, s1, s2, s3⟩, fun id q => ⟨by have := (hS id q).1; omega, (hS id q).2⟩⟩)
      have hd33 := decide_eq_false hov
      (repeat' (first | (simp (maxSteps := 1000000) (disch := first | omega | (simp only [AM.DB, List.length_set, List.length_map]; first | done | omega)) only [AM.RB, Nat.reduceAdd, Nat.reduceMul, Nat.reduceEqDiff, reduceCtorEq, b25_G5, hd33, k05, gi]) | refine AM.drawW_loose (id := 8) hp (by kernel_rfl) (by kernel_rfl) ?_ | refine AM.drawW_loose (id := 10) hp (by kernel_rfl) (by kernel_rfl) ?_ | refine AM.drawW_loose (id := 13) hp (by kernel_rfl) (by kernel_rfl) ?_ | refine AM.drawW_loose (id := 14) hp (by kernel_rfl) (by kernel_rfl) ?_ | refine AM.opW_tied (by kernel_rfl) ?_ | refine AM.opW_untied (by kernel_rfl) ?_ | refine AM.build_w ?_))
      refine row_w q (colsI ls 1) ⟨by omega, by omega⟩ (by omega) _ _ ?_
      have hrn := rowE_nonneg q (colsI ls 1)
      have herr : errI ls i = rowE q (colsI ls 1) := by unfold errI; rw [if_neg (by omega), hgq]
      by_cases hce : 0 < rowE q (colsI ls 1)
      · have hd34 := decide_eq_true hce
        (repeat' (first | (simp (maxSteps := 1000000) (disch := first | omega | (simp only [AM.DB, List.length_set, List.length_map]; first | done | omega)) only [AM.RB, Nat.reduceAdd, Nat.reduceMul, Nat.reduceEqDiff, reduceCtorEq, b25_G5, hd34, k05, gi, k15, k25, k35]) | refine AM.drawW_loose (id := 8) hp (by kernel_rfl) (by kernel_rfl) ?_ | refine AM.drawW_loose (id := 10) hp (by kernel_rfl) (by kernel_rfl) ?_ | refine AM.drawW_loose (id := 13) hp (by kernel_rfl) (by kernel_rfl) ?_ | refine AM.drawW_loose (id := 14) hp (by kernel_rfl) (by kernel_rfl) ?_ | refine AM.opW_tied (by kernel_rfl) ?_ | refine AM.opW_untied (by kernel_rfl) ?_ | refine AM.build_w ?_))
        refine ⟨AM.looseOk_by [(3, [0, 6])] (by kernel_rfl) ?_, ?_⟩
        · simp (maxSteps := 1000000) (disch := first | omega | (simp only [AM.DB, List.length_set, List.length_map]; first | done | omega)) only [AM.RB, Nat.reduceAdd, Nat.reduceMul, Nat.reduceEqDiff, reduceCtorEq, b25_G5]
          (repeat' apply And.intro) <;> (first | (refine AM.stable_len _ _ _ _ _ _ (fun _ => ?_); (simp (maxSteps := 1000000) (disch := first | omega | (simp only [AM.DB, List.length_set, List.length_map]; first | done | omega)) only [AM.RB, Nat.reduceAdd, Nat.reduceMul, Nat.reduceEqDiff, reduceCtorEq, b25_G5, k05, gi, k15, k25, k35])) | (refine AM.stable_load _ _ _ _ _ _ ?_; (first | (simp (maxSteps := 1000000) (disch := first | omega | (simp only [AM.DB, List.length_set, List.length_map]; first | done | omega)) only [AM.RB, Nat.reduceAdd, Nat.reduceMul, Nat.reduceEqDiff, reduceCtorEq, b25_G5, k05, gi, k15, k25, k35]) | skip); (first | (refine AM.stabL_int (by omega) ?_; (simp (maxSteps := 1000000) (disch := first | omega | (simp only [AM.DB, List.length_set, List.length_map]; first | done | omega)) only [AM.RB, Nat.reduceAdd, Nat.reduceMul, Nat.reduceEqDiff, reduceCtorEq, b25_G5, k05, gi, k15, k25, k35])) | (refine AM.stabL_ptr (by omega) (by omega) ?_; (simp (maxSteps := 1000000) (disch := first | omega | (simp only [AM.DB, List.length_set, List.length_map]; first | done | omega)) only [AM.RB, Nat.reduceAdd, Nat.reduceMul, Nat.reduceEqDiff, reduceCtorEq, b25_G5, k05, gi, k15, k25, k35])) | (refine AM.stabL_string (by omega) ?_; (simp (maxSteps := 1000000) (disch := first | omega | (simp only [AM.DB, List.length_set, List.length_map]; first | done | omega)) only [AM.RB, Nat.reduceAdd, Nat.reduceMul, Nat.reduceEqDiff, reduceCtorEq, b25_G5, k05, gi, k15, k25, k35])) | (refine AM.stabL_bool (by omega) ?_; (simp (maxSteps := 1000000) (disch := first | omega | (simp only [AM.DB, List.length_set, List.length_map]; first | done | omega)) only [AM.RB, Nat.reduceAdd, Nat.reduceMul, Nat.reduceEqDiff, reduceCtorEq, b25_G5, k05, gi, k15, k25, k35])))))
        generalize hE_ : AHeap.put _ (h.next + 3) _ = h9
        have e0 : h9.get h.next = some (.cells [.pointer none] 26 false) := by rw [← hE_]; simp (maxSteps := 1000000) (disch := first | omega | (simp only [AM.DB, List.length_set, List.length_map]; first | done | omega)) only [AM.RB, Nat.reduceAdd, Nat.reduceMul, Nat.reduceEqDiff, reduceCtorEq, b25_G5]
        have e1 : h9.get (h.next + 1) = some (.cells [.int .i64 ((i : Int) + 1)] 3 false) := by rw [← hE_]; simp (maxSteps := 1000000) (disch := first | omega | (simp only [AM.DB, List.length_set, List.length_map]; first | done | omega)) only [AM.RB, Nat.reduceAdd, Nat.reduceMul, Nat.reduceEqDiff, reduceCtorEq, b25_G5]
        have e2 : h9.get (h.next + 2) = some (.cells [.int .i64 (errI ls i)] 3 false) := by rw [← hE_, herr]; simp (maxSteps := 1000000) (disch := first | omega | (simp only [AM.DB, List.length_set, List.length_map]; first | done | omega)) only [AM.RB, Nat.reduceAdd, Nat.reduceMul, Nat.reduceEqDiff, reduceCtorEq, b25_G5]
        have e3 : h9.get (h.next + 3) = some (.cells [.int .i64 10] 31 false) := by rw [← hE_]; simp (maxSteps := 1000000) (disch := first | omega | (simp only [AM.DB, List.length_set, List.length_map]; first | done | omega)) only [AM.RB, Nat.reduceAdd, Nat.reduceMul, Nat.reduceEqDiff, reduceCtorEq, b25_G5]
        have frB : Fr (fun k => h.next ≤ k ∧ k ≤ h.next + 4) h3 h9 := by
          rw [← hE_]
          exact (((frA.put _ (.inr (by omega))).put _ (.inr (by omega))).put _ (.inr (by omega))).put _ (.inr (by omega))
        have nB : h9.next = h3.next := by rw [← hE_]; simpa using nA
        have lB := frB.low
        clear hE_
        refine ⟨by omega, by omega, fun id q1 q2 => frB.old id q1 fun q3 => by have := hAlt id (by simpa using q2); omega, by omega, hA, S, ⟨i, hils, ok, by omega, fr3.fresh frB (fun id q => q.1), e0, e1, e2, e3, s0, s1, s2, s3⟩, fun id q => ⟨by have := (hS id q).1; omega, (hS id q).2⟩⟩
      have hd34 := decide_eq_false hce
      have herr0 : errI ls i = 0 := by omega
      obtain ⟨_, z2, z3, _⟩ := rowE_zero (show rowE q (colsI ls 1) = 0 by omega)
      have zl := lineT_le q
      obtain ⟨ka, kc, rfl⟩ := mo.form
      have hkl := kindsI_len ls i ok
      have hkb : (kindsI ls i).length ≤ 32 * 32 := by rw [hkl]; exact Nat.mul_le_mul (by omega) hc32
      have tc : (q.take (colsI ls 1)).length = colsI ls 1 := by rw [List.length_take]; omega
      (repeat' (first | (simp (maxSteps := 1000000) (disch := first | omega | (simp only [AM.DB, List.length_set, List.length_map]; first | done | omega)) only [AM.RB, Nat.reduceAdd, Nat.reduceMul, Nat.reduceEqDiff, reduceCtorEq, b25_G5, hd34, k05, gi, Int.toNat_natCast, Nat.sub_zero]) | refine AM.drawW_loose (id := 8) hp (by kernel_rfl) (by kernel_rfl) ?_ | refine AM.drawW_loose (id := 10) hp (by kernel_rfl) (by kernel_rfl) ?_ | refine AM.drawW_loose (id := 13) hp (by kernel_rfl) (by kernel_rfl) ?_ | refine AM.drawW_loose (id := 14) hp (by kernel_rfl) (by kernel_rfl) ?_ | refine AM.opW_tied (by kernel_rfl) ?_ | refine AM.opW_untied (by kernel_rfl) ?_ | refine AM.build_w ?_))
      refine AM.appendS_w ap_94 ul_9 mo (by omega) (AM.fits (by omega) (by omega)) (AM.fits' (by omega)) fun kv' h6 mo6 fr6 hid6 => ?_
      have k06 := fr6.get k05 (fun q => by have := hkv _ q; omega)
      have gi6 := fr6.get gi (fun q => by have := hkv _ q; omega)
      have nx6 := fr6.next
      have lo6 := fr6.low
      have lt06 := AM.get_some_lt k06
      have lti6 := AM.get_some_lt gi6
      obtain ⟨ka', kc', rfl⟩ := mo6.form
      (repeat' (first | (simp (maxSteps := 1000000) (disch := first | omega | (simp only [AM.DB, List.length_set, List.length_map]; first | done | omega)) only [AM.RB, Nat.reduceAdd, Nat.reduceMul, Nat.reduceEqDiff, reduceCtorEq, b25_G5, k06, gi6]) | refine AM.drawW_loose (id := 8) hp (by kernel_rfl) (by kernel_rfl) ?_ | refine AM.drawW_loose (id := 10) hp (by kernel_rfl) (by kernel_rfl) ?_ | refine AM.drawW_loose (id := 13) hp (by kernel_rfl) (by kernel_rfl) ?_ | refine AM.drawW_loose (id := 14) hp (by kernel_rfl) (by kernel_rfl) ?_ | refine AM.opW_tied (by kernel_rfl) ?_ | refine AM.opW_untied (by kernel_rfl) ?_ | refine AM.build_w ?_))
      generalize hE_ : AHeap.put h6 _ _ = h7; obtain ⟨g7, fr7, n7, l7⟩ := AM.put_get hE_ (by omega); clear hE_
      have k07 := fr7.get k06 (by omega)
      refine ⟨AM.looseOk_by [(0, [0, 12])] (by kernel_rfl) ?_, ?_⟩
      · simp (maxSteps := 1000000) (disch := first | omega | (simp only [AM.DB, List.length_set, List.length_map]; first | done | omega)) only [AM.RB, Nat.reduceAdd, Nat.reduceMul, Nat.reduceEqDiff, reduceCtorEq, b25_G5]
        (repeat' apply And.intro) <;> (first | (refine AM.stable_len _ _ _ _ _ _ (fun _ => ?_); (simp (maxSteps := 1000000) (disch := first | omega | (simp only [AM.DB, List.length_set, List.length_map]; first | done | omega)) only [AM.RB, Nat.reduceAdd, Nat.reduceMul, Nat.reduceEqDiff, reduceCtorEq, b25_G5, k05, k06, k07])) | (refine AM.stable_load _ _ _ _ _ _ ?_; (first | (simp (maxSteps := 1000000) (disch := first | omega | (simp only [AM.DB, List.length_set, List.length_map]; first | done | omega)) only [AM.RB, Nat.reduceAdd, Nat.reduceMul, Nat.reduceEqDiff, reduceCtorEq, b25_G5, k05, k06, k07]) | skip); (first | (refine AM.stabL_int (by omega) ?_; (simp (maxSteps := 1000000) (disch := first | omega | (simp only [AM.DB, List.length_set, List.length_map]; first | done | omega)) only [AM.RB, Nat.reduceAdd, Nat.reduceMul, Nat.reduceEqDiff, reduceCtorEq, b25_G5, k05, k06, k07])) | (refine AM.stabL_ptr (by omega) (by omega) ?_; (simp (maxSteps := 1000000) (disch := first | omega | (simp only [AM.DB, List.length_set, List.length_map]; first | done | omega)) only [AM.RB, Nat.reduceAdd, Nat.reduceMul, Nat.reduceEqDiff, reduceCtorEq, b25_G5, k05, k06, k07])) | (refine AM.stabL_string (by omega) ?_; (simp (maxSteps := 1000000) (disch := first | omega | (simp only [AM.DB, List.length_set, List.length_map]; first | done | omega)) only [AM.RB, Nat.reduceAdd, Nat.reduceMul, Nat.reduceEqDiff, reduceCtorEq, b25_G5, k05, k06, k07])) | (refine AM.stabL_bool (by omega) ?_; (simp (maxSteps := 1000000) (disch := first | omega | (simp only [AM.DB, List.length_set, List.length_map]; first | done | omega)) only [AM.RB, Nat.reduceAdd, Nat.reduceMul, Nat.reduceEqDiff, reduceCtorEq, b25_G5, k05, k06, k07])))))
      have frC : Fr (fun k => k = h.next + 4 ∨ idOf (.slice ka (kindsI ls i).length kc) k) h3 h7 := by
        have f1 : Fr (fun k => k = h.next + 4 ∨ idOf (.slice ka (kindsI ls i).length kc) k) h3 h5 := fr35'.mono fun k _ q => .inl q
        exact (f1.then fr6 fun k _ q => .inr q).then fr7 fun k _ q => .inl q
      have hidk : ∀ id, idOf (.slice ka' ((kindsI ls i).length + (q.take (colsI ls 1)).length) kc') id → h2.next ≤ id ∧ id < h6.next ∧ ¬ A id := fun id q1 => by
        refine ⟨?_, mo6.lt q1, fun e => ?_⟩
        · rcases hid6 id q1 with q1 | q1
          · exact (hid id q1).2
          · omega
        · rcases hid6 id q1 with q1 | q1
          · exact hAs _ (hid id q1).1 e
          · have := (hA1 id e).2; omega
      refine ⟨by omega, by omega, fun id q1 q2 => frC.old id q1 fun q3 => ?_, by omega, hA, fun id => S id ∨ idOf (.slice ka' ((kindsI ls i).length + (q.take (colsI ls 1)).length) kc') id, ⟨fr3.fresh frC (fun id q1 => ?_), k07, frC.get k1' ?_, frC.get k2' ?_, frC.get k3' ?_, okI_succ ok herr0, .inl s0, .inl s1, .inl s2, .inl s3, .inl s4, _, ⟨?_, ?_, rfl, by omega, fun q1 => ?_⟩, fun id q1 => ⟨.inr q1, (hidk id q1).1⟩⟩, fun id q1 => ?_⟩
      · have hA9 := hA1 id (by simpa using q2)
        rcases q3 with q3 | q3
        · rcases hA9.1 with e | e <;> omega
        · exact hAs _ (hid id q3).1 (by simpa using q2)
      · rcases q1 with q1 | q1
        · omega
        · have := (hid id q1).2; omega
      · intro q1
        rcases q1 with q1 | q1
        · omega
        · have := hkv _ q1; omega
      · intro q1
        rcases q1 with q1 | q1
        · omega
        · have := hkv _ q1; omega
      · intro q1
        rcases q1 with q1 | q1
        · omega
        · have := hkv _ q1; omega
      · have ec : colsI ls (i + 1) = colsI ls 1 := by unfold colsI; rw [if_neg (by omega), if_neg (by omega)]
        rw [ec]; exact g7
      · have ek : kindsI ls (i + 1) = kindsI ls i ++ q.take (colsI ls 1) := by rw [kindsI, hgq]
        rw [ek, List.length_append, List.map_append]
        exact mo6.fr fr7 fun id q1 e => by have := (hidk id q1).1; omega
      · have := (hidk _ q1).1; omega
      · rcases q1 with q1 | q1
        · exact ⟨by have := (hS id q1).1; omega, hAs id q1⟩
        · exact ⟨by have := (hidk id q1).2.1; omega, (hidk id q1).2.2⟩)
  · rintro A h3 ⟨hB, hA, S, ⟨fr3, k0, k1, k2, k3, ok, s0, s1, s2, s3, s4, kv, m, hid⟩, hS⟩ hA1 hL3 hlow3
    rw [List.length_map] at ok m
    have hlne : ls ≠ [] := by
      rw [← hls]
      intro e
      cases l with
      | nil => exact hne rfl
      | cons x r =>
        rw [List.length_cons, linesL, if_neg (by simp)] at e
        split at e <;> cases e
    have hR : 0 < ls.length := List.length_pos_iff.2 hlne
    have ok32 := okI_le ok
    have hc32 := colsI_le ls 1
    have hkl := kindsI_len ls ls.length ok
    have hkb : (kindsI ls ls.length).length ≤ 32 * 32 := by rw [hkl]; exact Nat.mul_le_mul (by omega) hc32
    have ec : colsI ls ls.length = colsI ls 1 := by unfold colsI; rw [if_neg (by omega), if_neg (by omega)]
    rw [ec] at m
    have hl3 := hlow.fr0 fr3
    have nx3 := fr3.next
    have lo3 := fr3.low
    have hlt3 : h.next + 5 ≤ h3.next := by have := AM.get_some_lt m.1; omega
    (repeat' (first | (simp (maxSteps := 1000000) (disch := first | omega | (simp only [AM.DB, List.length_set, List.length_map]; first | done | omega)) only [AM.RB, Nat.reduceAdd, Nat.reduceMul, Nat.reduceEqDiff, reduceCtorEq, b25_G5, k0]) | refine AM.drawW_loose (id := 8) hp (by kernel_rfl) (by kernel_rfl) ?_ | refine AM.drawW_loose (id := 10) hp (by kernel_rfl) (by kernel_rfl) ?_ | refine AM.drawW_loose (id := 13) hp (by kernel_rfl) (by kernel_rfl) ?_ | refine AM.drawW_loose (id := 14) hp (by kernel_rfl) (by kernel_rfl) ?_ | refine AM.opW_tied (by kernel_rfl) ?_ | refine AM.opW_untied (by kernel_rfl) ?_ | refine AM.build_w ?_))
    refine all_w m hR (by omega) hl3 _ fun va h4 ho4 fr4 _ => ?_
    obtain ⟨aa, ac, rfl⟩ := ho4.form
    have k04 := k0.fr0 fr4
    have k14 := k1.fr0 fr4
    have k24 := k2.fr0 fr4
    have k34 := k3.fr0 fr4
    have lt4 := AM.get_some_lt k34
    have lo4 := fr4.low
    have fr04 := fr3.trans fr4
    (first | (simp (maxSteps := 1000000) (disch := first | omega | (simp only [AM.DB, List.length_set, List.length_map]; first | done | omega)) only [AM.RB, Nat.reduceAdd, Nat.reduceMul, Nat.reduceEqDiff, reduceCtorEq, b25_G5, k04, k14, k24, k34]) | skip); (repeat' (first | ((first | refine AM.guard_spl ?_ ?_ | refine AM.cond_spl ?_ ?_ | refine AM.guard_b ?_ ?_ | refine AM.cond_b ?_ ?_) <;> (intro hd hp_; simp (maxSteps := 1000000) (disch := first | omega | (simp only [AM.DB, List.length_set, List.length_map]; first | done | omega)) only [AM.RB, Nat.reduceAdd, Nat.reduceMul, Nat.reduceEqDiff, reduceCtorEq, b25_G5, hd, k04, k14, k24, k34])) | ((first | refine AM.drawW_loose (id := 8) hp (by kernel_rfl) (by kernel_rfl) ?_ | refine AM.drawW_loose (id := 10) hp (by kernel_rfl) (by kernel_rfl) ?_ | refine AM.drawW_loose (id := 13) hp (by kernel_rfl) (by kernel_rfl) ?_ | refine AM.drawW_loose (id := 14) hp (by kernel_rfl) (by kernel_rfl) ?_ | refine AM.opW_tied (by kernel_rfl) ?_ | refine AM.opW_untied (by kernel_rfl) ?_ | refine AM.build_w ?_); simp (maxSteps := 1000000) (disch := first | omega | (simp only [AM.DB, List.length_set, List.length_map]; first | done | omega)) only [AM.RB, Nat.reduceAdd, Nat.reduceMul, Nat.reduceEqDiff, reduceCtorEq, b25_G5, k04, k14, k24, k34])))
    · refine hnone hne ok (List.eq_nil_of_length_eq_zero (by omega)) _ ((((fr04.put _ (.inl (by omega))).put _ (.inl (by omega))).put _ (.inl (by omega))).put _ (.inl (by omega)))
    · have frE : ∀ (o0 o1 o2 o3 : Option AObj), Fr (fun k => h.next ≤ k ∧ k ≤ h.next + 3) h4 ((((h4.put h.next o0).put (h.next + 1) o1).put (h.next + 2) o2).put (h.next + 3) o3) := fun o0 o1 o2 o3 => ((((Fr.refl _ h4).put _ (.inr (by omega))).put _ (.inr (by omega))).put _ (.inr (by omega))).put _ (.inr (by omega))
      refine hok hne ok (fun e => hp_ (by rw [e]; rfl)) _ kv _ ((m.fr0 fr4).fr (frE _ _ _ _) (by omega) (fun id q e => by have := (hid id q).2; omega)) ((((fr04.put _ (.inl (by omega))).put _ (.inl (by omega))).put _ (.inl (by omega))).put _ (.inl (by omega))) (by omega) (fun id q => by have := (hid id q).2; omega)
  · rintro x A h3 ⟨rfl, hB, hA, S, ⟨i, hi, ok, herr, fr3, e0, e1, e2, e3, s0, s1, s2, s3⟩, hS⟩ hA1 hL3 hlow3
    simp (maxSteps := 1000000) (disch := first | omega | (simp only [AM.DB, List.length_set, List.length_map]; first | done | omega)) only [AM.RB, Nat.reduceAdd, Nat.reduceMul, Nat.reduceEqDiff, reduceCtorEq, b25_G5, e0, e1, e2, e3]
    exact hbad i hi ok herr _ fr3

end Go.Proofs.YtbaohngkapmhlaaDoor

namespace Go.Proofs.YtbaohngkapmhlaaDoor
open Go.AM
set_option maxRecDepth 8000
theorem b78_G6 : type_of% (And.intro (@AM.fa_ptr) (And.intro (@fd_126_1) (And.intro (@AM.ldO_agg) (And.intro (@AM.ldO_one) (And.intro (@AM.ld_ptr) (And.intro (AM.len_slice ul_94) (And.intro (@lk_94) (And.intro (@AM.op_append) (And.intro (@AM.op_call) (And.intro (@AM.op_fieldAddr) (And.intro (@AM.op_len) (And.intro (@AM.op_load) (And.intro (@AM.op_nilCheck) (And.intro (@AM.op_store) (And.intro (@AM.resL_two) (And.intro (@AM.stO_agg) (And.intro (@AM.stO_bool) (And.intro (@AM.stO_int) (And.intro (@AM.stO_map) (And.intro (@AM.stO_pointer) (And.intro (@AM.stO_slice) (And.intro (@AM.stO_string) (And.intro (@AM.st_ptr) (@sz_94)))))))))))))))))))))))) := And.intro (@AM.fa_ptr) (And.intro (@fd_126_1) (And.intro (@AM.ldO_agg) (And.intro (@AM.ldO_one) (And.intro (@AM.ld_ptr) (And.intro (AM.len_slice ul_94) (And.intro (@lk_94) (And.intro (@AM.op_append) (And.intro (@AM.op_call) (And.intro (@AM.op_fieldAddr) (And.intro (@AM.op_len) (And.intro (@AM.op_load) (And.intro (@AM.op_nilCheck) (And.intro (@AM.op_store) (And.intro (@AM.resL_two) (And.intro (@AM.stO_agg) (And.intro (@AM.stO_bool) (And.intro (@AM.stO_int) (And.intro (@AM.stO_map) (And.intro (@AM.stO_pointer) (And.intro (@AM.stO_slice) (And.intro (@AM.stO_string) (And.intro (@AM.st_ptr) (@sz_94)))))))))))))))))))))))
theorem b79_G6 : type_of% (And.intro (AM.bsW_int bs_94) (And.intro (AM.bsW_nil bs_94) (And.intro (AM.bsW_slice bs_94) (And.intro (AM.bsW_string bs_94) (And.intro (@AM.fa_ptr) (And.intro (@fd_126_1) (And.intro (@AM.ldO_agg) (And.intro (@AM.ldO_one) (And.intro (@AM.ld_ptr) (And.intro (@lk_94) (And.intro (@AM.op_append) (And.intro (@AM.op_buildSlice) (And.intro (@AM.op_call) (And.intro (@AM.op_fieldAddr) (And.intro (@AM.op_load) (And.intro (@AM.op_nilCheck) (And.intro (@AM.op_store) (And.intro (@AM.stO_agg) (And.intro (@AM.stO_bool) (And.intro (@AM.stO_int) (And.intro (@AM.stO_map) (And.intro (@AM.stO_pointer) (And.intro (@AM.stO_slice) (And.intro (@AM.stO_string) (And.intro (@AM.st_ptr) (@sz_94)))))))))))))))))))))))))) := And.intro (AM.bsW_int bs_94) (And.intro (AM.bsW_nil bs_94) (And.intro (AM.bsW_slice bs_94) (And.intro (AM.bsW_string bs_94) (And.intro (@AM.fa_ptr) (And.intro (@fd_126_1) (And.intro (@AM.ldO_agg) (And.intro (@AM.ldO_one) (And.intro (@AM.ld_ptr) (And.intro (@lk_94) (And.intro (@AM.op_append) (And.intro (@AM.op_buildSlice) (And.intro (@AM.op_call) (And.intro (@AM.op_fieldAddr) (And.intro (@AM.op_load) (And.intro (@AM.op_nilCheck) (And.intro (@AM.op_store) (And.intro (@AM.stO_agg) (And.intro (@AM.stO_bool) (And.intro (@AM.stO_int) (And.intro (@AM.stO_map) (And.intro (@AM.stO_pointer) (And.intro (@AM.stO_slice) (And.intro (@AM.stO_string) (And.intro (@AM.st_ptr) (@sz_94)))))))))))))))))))))))))


/-! ### A Builder -/
def Bd (h : AHeap) (b : Nat) (buf : Value) (bs : List UInt8) : Prop :=
  (∃ a, h.get b = some (.cells [a, buf] 126 false) ∧ (a = .pointer none ∨ a = pv b)) ∧ Ow h 5 1 buf bs.length (bs.map bV) ∧ h.low ≤ b ∧ ¬ idOf buf b
theorem Bd.fr {h h' : AHeap} {b : Nat} {buf : Value} {bs : List UInt8} {S : Nat → Prop} (m : Bd h b buf bs) (fr : Fr S h h') (h1 : ¬ S b) (h2 : ∀ id, idOf buf id → ¬ S id) : Bd h' b buf bs := by
  obtain ⟨⟨a, g, ha⟩, o, l, n⟩ := m
  exact ⟨⟨a, fr.get g h1, ha⟩, o.fr fr h2, by rw [fr.low]; exact l, n⟩
theorem Bd.fr0 {h h' : AHeap} {b : Nat} {buf : Value} {bs : List UInt8} (m : Bd h b buf bs) (fr : Fr none' h h') : Bd h' b buf bs := m.fr fr (fun q => q) (fun _ _ q => q)
theorem prim_copy : prims 103 = some pCopy := by
  unfold prims; rw [if_neg (by decide), if_pos rfl]
theorem prim_str : prims 80 = some pStr := by
  unfold prims; rw [if_neg (by decide), if_neg (by decide), if_pos rfl]
theorem copyCheck_w {h : AHeap} {b : Nat} {buf : Value} {bs : List UInt8} (m : Bd h b buf bs) {Q : VQ}
    (hq : ∀ h', h'.get b = some (.cells [pv b, buf] 126 false) → Bd h' b buf bs → Fr (fun k => k = b) h h' → h'.next = h.next → Q (.tuple #[]) h') : W 103 [pv b] h Q := by
  obtain ⟨⟨a, g, ha⟩, o, l, n⟩ := m
  have lt := AM.get_some_lt g
  rcases ha with rfl | rfl
  · have g' : (h.put b (some (.cells [pv b, buf] 126 false))).get b = some (.cells [pv b, buf] 126 false) := AM.get_put_self rfl lt
    have fr : Fr (fun k => k = b) h (h.put b (some (.cells [pv b, buf] 126 false))) := (Fr.refl _ _).put _ (.inr rfl)
    refine AM.callW_prim hp prim_copy (v := .tuple #[]) (h' := h.put b (some (.cells [pv b, buf] 126 false))) ⟨0, ?_⟩ (hq _ g' ⟨⟨_, g', .inr rfl⟩, o.fr fr (fun id q e => n (by rw [← e]; exact q)), l, n⟩ fr rfl)
    show pCopy _ [.pointer (some ⟨b, 0, none⟩)] h = _
    simp only [pCopy, g, List.getElem?_cons_zero]
    rw [if_pos ⟨l, trivial, trivial, rfl, trivial⟩]
    rfl
  · refine AM.callW_prim hp prim_copy (v := .tuple #[]) (h' := h) ⟨0, ?_⟩ (hq _ g ⟨⟨_, g, .inr rfl⟩, o, l, n⟩ (Fr.refl _ _) rfl)
    show pCopy _ [.pointer (some ⟨b, 0, none⟩)] h = _
    simp only [pCopy, g, List.getElem?_cons_zero, and_self, if_true]
theorem bytesL_map (l : List UInt8) : bytesL (l.map bV) = some l := by
  induction l with
  | nil => rfl
  | cons c l ih =>
    have hc := UInt8.toNat_lt c
    rw [List.map_cons, bytesL, if_pos (by omega), ih]
    simp
theorem string_w {h : AHeap} {b : Nat} {buf : Value} {bs : List UInt8} (m : Bd h b buf bs) (h0 : bs ≠ []) {Q : VQ}
    (hq : ∀ h', Fr (idOf buf) h h' → h'.next = h.next → Q (strV bs) h') : W 80 [pv b] h Q := by
  obtain ⟨⟨a, g, ha⟩, o, l, n⟩ := m
  have hlen : bs.length ≠ 0 := by simpa using h0
  rcases o with ⟨_, e, _⟩ | ⟨id, off, cap, c, ob, rfl, hnc, hg, hf, hd, hlo⟩
  · exact absurd e hlen
  have fr : Fr (idOf (.slice (some ⟨id, off, none⟩) bs.length cap)) h (h.put id none) := (Fr.refl _ _).put _ (.inr rfl)
  refine AM.callW_prim hp prim_str (v := strV bs) (h' := h.put id none) ⟨0, ?_⟩ (hq _ fr rfl)
  show pStr _ [.pointer (some ⟨b, 0, none⟩)] h = _
  simp only [Nat.mul_one] at hf hd
  have hne : id ≠ b := fun e => n e.symm
  have e1 : ([a, Value.slice (some ⟨id, off, none⟩) bs.length cap][1]? : Option Value) = some (.slice (some ⟨id, off, none⟩) bs.length cap) := rfl
  simp only [pStr, g, e1, hg, hd, bytesL_map]
  rw [if_pos ⟨l, trivial, trivial, rfl, trivial, hlo, hne, trivial, by omega, by omega, hnc⟩]
  rfl
theorem write_w {h : AHeap} {b : Nat} {buf : Value} {bs : List UInt8} {s : Value} {n : Nat} {l : List UInt8} (m : Bd h b buf bs) (hs : Rd h 5 1 s n (l.map bV)) (hsb : ¬ idOf s b) (hb : bs.length + n ≤ 4000000) (hlow : h.low ≤ h.next) {Q : VQ}
    (hq : ∀ buf' h', Bd h' b buf' (bs ++ l) → Fr (fun id => id = b ∨ idOf buf id) h h' → (∀ id, idOf buf' id → idOf buf id ∨ h.next ≤ id) → Q (.tuple #[.int .i64 n, .nilIface]) h') : W 78 [pv b, s] h Q := by
  obtain ⟨sa, sc, rfl⟩ := hs.form
  have hln : l.length = n := by have := hs.length; rw [List.length_map] at this; omega
  refine AM.enter hp (fn := Tryd.f78) (rs := [.tmp 4, .tmp 5]) (nt := 19) (by kernel_rfl) Tryd.func78 rfl rfl rfl (by kernel_rfl) ?_
  (first | (simp (maxSteps := 1000000) (disch := first | omega | (simp only [AM.DB, List.length_set, List.length_map]; first | done | omega)) only [AM.RB, Nat.reduceAdd, Nat.reduceMul, Nat.reduceEqDiff, reduceCtorEq, b78_G6]) | skip)
  refine copyCheck_w m fun h1 g1 m1 fr1 n1 => ?_
  have hs1 := hs.fr fr1 (fun id q e => hsb (by rw [← e]; exact q))
  have lo1 := fr1.low
  obtain ⟨ba, bc, rfl⟩ := m1.2.1.form
  (first | (simp (maxSteps := 1000000) (disch := first | omega | (simp only [AM.DB, List.length_set, List.length_map]; first | done | omega)) only [AM.RB, Nat.reduceAdd, Nat.reduceMul, Nat.reduceEqDiff, reduceCtorEq, b78_G6, g1]) | skip)
  refine AM.appends_w ap_94 ap_94 m1.2.1 hs1 (AM.bytes_one l) (by omega) (AM.fits (by omega) (by omega)) (AM.fits' (by omega)) fun buf' h2 o2 fr2 hid2 => ?_
  have hnb := m1.2.2.2
  have g2 := fr2.get g1 hnb
  have lt2 := AM.get_some_lt g2
  have lo2 := fr2.low
  have lb := m.2.2.1
  obtain ⟨ba', bc', rfl⟩ := o2.form
  have lt1 := AM.get_some_lt g1
  (first | (simp (maxSteps := 1000000) (disch := first | omega | (simp only [AM.DB, List.length_set, List.length_map]; first | done | omega)) only [AM.RB, Nat.reduceAdd, Nat.reduceMul, Nat.reduceEqDiff, reduceCtorEq, b78_G6, g2]) | skip)
  generalize hE_ : AHeap.put h2 _ _ = h3; obtain ⟨g3, fr3, n3, l3⟩ := AM.put_get hE_ (by omega); clear hE_
  have hidb : ∀ id, idOf (.slice ba' (bs.length + n) bc') id → id ≠ b := fun id q e => by
    subst e
    rcases hid2 _ q with q | q
    · exact hnb q
    · omega
  refine hq _ _ ⟨⟨_, g3, .inr rfl⟩, ?_, by omega, fun q => hidb _ q rfl⟩ ?_ (fun id q => ?_)
  · rw [List.length_append, List.map_append, hln]
    exact o2.fr fr3 hidb
  · exact ((fr1.mono fun k _ q => .inl q).then fr2 fun k _ q => .inr q).then fr3 fun k _ q => .inl q
  · rcases hid2 id q with q | q
    · exact .inl q
    · exact .inr (by omega)
theorem writeByte_w {h : AHeap} {b : Nat} {buf : Value} {bs : List UInt8} {c : UInt8} (m : Bd h b buf bs) (hb : bs.length ≤ 4000000) (hlow : h.low ≤ h.next) {Q : VQ}
    (hq : ∀ buf' h', Bd h' b buf' (bs ++ [c]) → Fr (fun id => id = b ∨ idOf buf id) h h' → (∀ id, idOf buf' id → idOf buf id ∨ h.next ≤ id) → Q .nilIface h') : W 79 [pv b, bV c] h Q := by
  refine AM.enter hp (fn := Tryd.f79) (rs := [.tmp 4]) (nt := 17) (by kernel_rfl) Tryd.func79 rfl rfl rfl (by kernel_rfl) ?_
  (first | (simp (maxSteps := 1000000) (disch := first | omega | (simp only [AM.DB, List.length_set, List.length_map]; first | done | omega)) only [AM.RB, Nat.reduceAdd, Nat.reduceMul, Nat.reduceEqDiff, reduceCtorEq, b79_G6]) | skip)
  refine copyCheck_w m fun h1 g1 m1 fr1 n1 => ?_
  have lo1 := fr1.low
  obtain ⟨ba, bc, rfl⟩ := m1.2.1.form
  (first | (simp (maxSteps := 1000000) (disch := first | omega | (simp only [AM.DB, List.length_set, List.length_map]; first | done | omega)) only [AM.RB, Nat.reduceAdd, Nat.reduceMul, Nat.reduceEqDiff, reduceCtorEq, b79_G6, g1]) | skip)
  generalize hE_ : AHeap.alloc h1 _ = h2; obtain ⟨g2, fr2, n2, l2⟩ := AM.new_get hE_; clear hE_
  refine AM.appends_w ap_94 ap_94 (m1.2.1.fr0 fr2) (AM.Rd.whole (n := 1) (c := [bV c]) g2 rfl) rfl (by omega) (AM.fits (by omega) (by omega)) (AM.fits' (by omega)) fun buf' h3 o3 fr3 hid3 => ?_
  have hnb := m1.2.2.2
  have g13 := fr3.get (g1.fr0 fr2) hnb
  have lt3 := AM.get_some_lt g13
  have lo3 := fr3.low
  have lb := m.2.2.1
  obtain ⟨ba', bc', rfl⟩ := o3.form
  have lt1 := AM.get_some_lt g1
  (first | (simp (maxSteps := 1000000) (disch := first | omega | (simp only [AM.DB, List.length_set, List.length_map]; first | done | omega)) only [AM.RB, Nat.reduceAdd, Nat.reduceMul, Nat.reduceEqDiff, reduceCtorEq, b79_G6, g13]) | skip)
  generalize hE_ : AHeap.put h3 _ _ = h4; obtain ⟨g4, fr4, n4, l4⟩ := AM.put_get hE_ (by omega); clear hE_
  have hidb : ∀ id, idOf (.slice ba' (bs.length + 1) bc') id → id ≠ b := fun id q e => by
    subst e
    rcases hid3 _ q with q | q
    · exact hnb q
    · omega
  refine hq _ _ ⟨⟨_, g4, .inr rfl⟩, ?_, by omega, fun q => hidb _ q rfl⟩ ?_ (fun id q => ?_)
  · rw [List.length_append, List.map_append]
    exact o3.fr fr4 hidb
  · exact (((fr1.mono fun k _ q => .inl q).trans fr2.weak).then fr3 fun k _ q => .inr q).then fr4 fun k _ q => .inl q
  · rcases hid3 id q with q | q
    · exact .inl q
    · exact .inr (by omega)

end Go.Proofs.YtbaohngkapmhlaaDoor

namespace Go.Proofs.YtbaohngkapmhlaaDoor
open Go.AM
set_option maxRecDepth 8000
theorem b102_G7 : type_of% (And.intro (@AM.aMin_int) (And.intro (@AM.bin_add) (And.intro (@AM.bin_lss) (And.intro (@AM.ldO_agg) (And.intro (@AM.ldO_one) (And.intro (@AM.ld_ptr) (And.intro (AM.len_slice ul_94) (And.intro (@lk_3) (And.intro (@lk_94) (And.intro (@AM.op_binOp) (And.intro (@AM.op_call) (And.intro (@AM.op_len) (And.intro (@AM.op_load) (And.intro (@AM.op_min2) (And.intro (@AM.op_slice) (And.intro (@AM.op_unOp) (And.intro (@AM.un_neg) (@AM.un_not)))))))))))))))))) := And.intro (@AM.aMin_int) (And.intro (@AM.bin_add) (And.intro (@AM.bin_lss) (And.intro (@AM.ldO_agg) (And.intro (@AM.ldO_one) (And.intro (@AM.ld_ptr) (And.intro (AM.len_slice ul_94) (And.intro (@lk_3) (And.intro (@lk_94) (And.intro (@AM.op_binOp) (And.intro (@AM.op_call) (And.intro (@AM.op_len) (And.intro (@AM.op_load) (And.intro (@AM.op_min2) (And.intro (@AM.op_slice) (And.intro (@AM.op_unOp) (And.intro (@AM.un_neg) (@AM.un_not)))))))))))))))))
theorem b77_G7 : type_of% (And.intro (@List.map_toArray.{0,0}) (And.intro (@AM.bin_lss) (And.intro (@AM.boxK_agg) (And.intro (@AM.boxK_bool) (And.intro (@AM.boxK_func) (And.intro (@AM.boxK_int) (And.intro (@AM.boxK_map) (And.intro (@AM.boxK_pointer) (And.intro (@AM.boxK_slice) (And.intro (@AM.boxK_string) (And.intro (@AM.ldO_agg) (And.intro (@AM.ldO_one) (And.intro (@AM.ld_ptr) (And.intro (@lk_3) (And.intro (@AM.op_binOp) (And.intro (@AM.op_box) (And.intro (@AM.op_load) (And.intro (@AM.op_makeFunc) (@AM.op_makeInterface))))))))))))))))))) := And.intro (@List.map_toArray.{0,0}) (And.intro (@AM.bin_lss) (And.intro (@AM.boxK_agg) (And.intro (@AM.boxK_bool) (And.intro (@AM.boxK_func) (And.intro (@AM.boxK_int) (And.intro (@AM.boxK_map) (And.intro (@AM.boxK_pointer) (And.intro (@AM.boxK_slice) (And.intro (@AM.boxK_string) (And.intro (@AM.ldO_agg) (And.intro (@AM.ldO_one) (And.intro (@AM.ld_ptr) (And.intro (@lk_3) (And.intro (@AM.op_binOp) (And.intro (@AM.op_box) (And.intro (@AM.op_load) (And.intro (@AM.op_makeFunc) (@AM.op_makeInterface))))))))))))))))))
theorem b37_G7 : type_of% (And.intro (@AM.alK_some) (And.intro (@al_126) (And.intro (@AM.fa_ptr) (And.intro (@fd_109_1) (And.intro (@fd_109_2) (And.intro (@AM.ldO_agg) (And.intro (@AM.ldO_one) (And.intro (@AM.ld_ptr) (And.intro (@lk_3) (And.intro (@lk_94) (And.intro (@AM.op_alloc) (And.intro (@AM.op_call) (And.intro (@AM.op_fieldAddr) (And.intro (@AM.op_load) (@AM.op_nilCheck))))))))))))))) := And.intro (@AM.alK_some) (And.intro (@al_126) (And.intro (@AM.fa_ptr) (And.intro (@fd_109_1) (And.intro (@fd_109_2) (And.intro (@AM.ldO_agg) (And.intro (@AM.ldO_one) (And.intro (@AM.ld_ptr) (And.intro (@lk_3) (And.intro (@lk_94) (And.intro (@AM.op_alloc) (And.intro (@AM.op_call) (And.intro (@AM.op_fieldAddr) (And.intro (@AM.op_load) (@AM.op_nilCheck))))))))))))))


/-! ### Text -/
theorem chunk1_w {w1 w2 kid koff kc : Nat} {R C : Nat} {K : List UInt8} {h : AHeap} {e1 e2 : TypeId} {o1 o2 : Bool} (g1 : h.get w1 = some (.cells [.slice (some ⟨kid, koff, none⟩) K.length kc] e1 o1)) (g2 : h.get w2 = some (.cells [.int .i64 C] e2 o2))
    (hk : Ow h 5 1 (.slice (some ⟨kid, koff, none⟩) K.length kc) K.length (K.map bV)) (hn : K.length = R * C) (hC : 0 < C) (hb : K.length ≤ 4000000) :
    IterOk Tryd.prog prims (.func (.func 102) #[] #[pv w1, pv w2]) (fun id => id = w1 ∨ id = w2 ∨ id = kid) ((List.range R).map fun k => [.slice (some ⟨kid, koff + k * C, none⟩) C C]) h := by
  intro y J E h0 hnx hR hlow hJ hE hy hJ0
  rcases hk with ⟨q, _⟩ | ⟨id, off, cap, c, o, q, hnc, hg, hf, hd, hlo⟩
  · cases q
  cases q
  have g1' : h0.get w1 = some (.cells [.slice (some ⟨kid, koff, none⟩) K.length kc] e1 o1) := by rw [hR w1 (AM.get_some_lt g1) (.inl rfl)]; exact g1
  have g2' : h0.get w2 = some (.cells [.int .i64 C] e2 o2) := by rw [hR w2 (AM.get_some_lt g2) (.inr (.inl rfl))]; exact g2
  have hg' : h0.get kid = some (.cells c 5 o) := by rw [hR kid (AM.get_some_lt hg) (.inr (.inr rfl))]; exact hg
  refine AM.enter hp (fn := Tryd.f102) (rs := []) (nt := 31) (by kernel_rfl) Tryd.func102 rfl rfl rfl (by kernel_rfl) ?_
  simp (maxSteps := 1000000) (disch := first | omega | (simp only [AM.DB, List.length_set, List.length_map]; first | done | omega)) only [AM.RB, Nat.reduceAdd, Nat.reduceMul, Nat.reduceEqDiff, reduceCtorEq, b102_G7]
  refine AM.loop_w hp 31 (fun q : Nat × Nat => [(0, y), (1, pv w1), (2, pv w2), (4, .int .i64 q.2)])
    (fun q h' => q.2 = q.1 * C ∧ q.1 ≤ R ∧ (∀ id, (id = w1 ∨ id = w2 ∨ id = kid) → h'.get id = h0.get id) ∧ h0.next ≤ h'.next ∧ h'.low = h0.low ∧ ∃ A, J q.1 A h' ∧ ∀ id, A id → h0.next ≤ id ∧ id < h'.next) (fun q => R - q.1) (by kernel_rfl) (0, 0) ?_ ?_ ?_
  · simp (maxSteps := 1000000) (disch := first | omega | (simp only [AM.DB, List.length_set, List.length_map]; first | done | omega)) only [AM.RB, Nat.reduceAdd, Nat.reduceMul, Nat.reduceEqDiff, reduceCtorEq, b102_G7]
  · exact ⟨by simp, Nat.zero_le _, fun _ _ => rfl, Nat.le_refl _, rfl, none', hJ0, fun _ q => q.elim⟩
  rintro ⟨k, i⟩ h1 ρ ⟨hik, hkR, hs, hn1, hl1, A, hJk, hA⟩
  simp only at hik hkR hJk ⊢
  have k1 : h1.get w1 = some (.cells [.slice (some ⟨kid, koff, none⟩) K.length kc] e1 o1) := by rw [hs w1 (.inl rfl)]; exact g1'
  have k2 : h1.get w2 = some (.cells [.int .i64 C] e2 o2) := by rw [hs w2 (.inr (.inl rfl))]; exact g2'
  have kg : h1.get kid = some (.cells c 5 o) := by rw [hs kid (.inr (.inr rfl))]; exact hg'
  simp (maxSteps := 1000000) (disch := first | omega | (simp only [AM.DB, List.length_set, List.length_map]; first | done | omega)) only [AM.RB, Nat.reduceAdd, Nat.reduceMul, Nat.reduceEqDiff, reduceCtorEq, b102_G7, k1]
  refine AM.condV_split (fun hlt => ?_) (fun hlt => ?_)
  · have hkl : k < R := by
      by_cases q : k < R
      · exact q
      · have : R * C ≤ k * C := Nat.mul_le_mul_right C (by omega)
        omega
    have hiC : i + C ≤ K.length := by
      have := Nat.mul_le_mul_right C (show k + 1 ≤ R by omega)
      rw [Nat.add_mul, Nat.one_mul] at this; omega
    have emin : min (C : Int) ((K.length - i : Nat) : Int) = C := by omega
    have tic : ((i : Int) + (C : Int)).toNat = i + C := by omega
    (repeat' (first | (simp (maxSteps := 1000000) (disch := first | omega | (simp only [AM.DB, List.length_set, List.length_map]; first | done | omega)) only [AM.RB, Nat.reduceAdd, Nat.reduceMul, Nat.reduceEqDiff, reduceCtorEq, b102_G7, k1, k2, AM.slc el_94 kg, AM.slbs_lo_i, AM.slbs_lhm_i, Int.toNat_natCast, Nat.mul_one, emin, AM.wrap_i64, tic, Nat.add_sub_cancel_left]) | refine AM.drawW_fine hp (by kernel_rfl) (by kernel_rfl) (by kernel_rfl) ?_ | refine AM.opW_tied (by kernel_rfl) ?_ | refine AM.opW_untied (by kernel_rfl) ?_))
    have hx : ((List.range R).map fun k => [Value.slice (some ⟨kid, koff + k * C, none⟩) C C])[k]? = some [.slice (some ⟨kid, koff + i, none⟩) C C] := by
      rw [List.getElem?_map, List.getElem?_range hkl, hik]; rfl
    refine AM.CallW.mono (hy k _ A h1 hx hJk hA hn1 hl1 hs) ?_
    rintro v h2 ⟨b, rfl, q1, q2, q3, q4⟩
    have hs2 : ∀ id, (id = w1 ∨ id = w2 ∨ id = kid) → h2.get id = h0.get id := fun id q => by
      have hlt0 : id < h1.next := by
        rcases q with rfl | rfl | rfl
        · exact AM.get_some_lt k1
        · exact AM.get_some_lt k2
        · exact AM.get_some_lt kg
      rw [q3 id hlt0 (.inr q)]; exact hs id q
    have k22 : h2.get w2 = some (.cells [.int .i64 C] e2 o2) := by rw [hs2 w2 (.inr (.inl rfl))]; exact g2'
    have hA2 : ∀ id, A id → h0.next ≤ id ∧ id < h2.next := fun id q => ⟨(hA id q).1, by have := (hA id q).2; omega⟩
    cases b with
    | true =>
      (first | (simp (maxSteps := 1000000) (disch := first | omega | (simp only [AM.DB, List.length_set, List.length_map]; first | done | omega)) only [AM.RB, Nat.reduceAdd, Nat.reduceMul, Nat.reduceEqDiff, reduceCtorEq, b102_G7, k22, AM.wrap_i64]) | skip); (repeat' (first | ((first | refine AM.guard_spl ?_ ?_ | refine AM.cond_spl ?_ ?_ | refine AM.guard_b ?_ ?_ | refine AM.cond_b ?_ ?_) <;> (intro hd hp_; simp (maxSteps := 1000000) (disch := first | omega | (simp only [AM.DB, List.length_set, List.length_map]; first | done | omega)) only [AM.RB, Nat.reduceAdd, Nat.reduceMul, Nat.reduceEqDiff, reduceCtorEq, b102_G7, hd, k22, AM.wrap_i64])) | ((first | refine AM.drawW_fine hp (by kernel_rfl) (by kernel_rfl) (by kernel_rfl) ?_ | refine AM.opW_tied (by kernel_rfl) ?_ | refine AM.opW_untied (by kernel_rfl) ?_ | refine AM.build_w ?_); simp (maxSteps := 1000000) (disch := first | omega | (simp only [AM.DB, List.length_set, List.length_map]; first | done | omega)) only [AM.RB, Nat.reduceAdd, Nat.reduceMul, Nat.reduceEqDiff, reduceCtorEq, b102_G7, k22, AM.wrap_i64])))
      refine ⟨(k + 1, i + C), by simp only; omega, congrArg _ (by simp only; omega), by simp only; rw [Nat.add_mul, Nat.one_mul]; omega, by simp only; omega, hs2, by omega, by omega, A, by simpa using q4, hA2⟩
    | false =>
      (first | (simp (maxSteps := 1000000) (disch := first | omega | (simp only [AM.DB, List.length_set, List.length_map]; first | done | omega)) only [AM.RB, Nat.reduceAdd, Nat.reduceMul, Nat.reduceEqDiff, reduceCtorEq, b102_G7]) | skip); (repeat' (first | ((first | refine AM.guard_spl ?_ ?_ | refine AM.cond_spl ?_ ?_ | refine AM.guard_b ?_ ?_ | refine AM.cond_b ?_ ?_) <;> (intro hd hp_; simp (maxSteps := 1000000) (disch := first | omega | (simp only [AM.DB, List.length_set, List.length_map]; first | done | omega)) only [AM.RB, Nat.reduceAdd, Nat.reduceMul, Nat.reduceEqDiff, reduceCtorEq, b102_G7, hd])) | ((first | refine AM.drawW_fine hp (by kernel_rfl) (by kernel_rfl) (by kernel_rfl) ?_ | refine AM.opW_tied (by kernel_rfl) ?_ | refine AM.opW_untied (by kernel_rfl) ?_ | refine AM.build_w ?_); simp (maxSteps := 1000000) (disch := first | omega | (simp only [AM.DB, List.length_set, List.length_map]; first | done | omega)) only [AM.RB, Nat.reduceAdd, Nat.reduceMul, Nat.reduceEqDiff, reduceCtorEq, b102_G7])))
      exact ⟨A, hA2, by omega, by omega, .inr (by simpa using q4)⟩
  · have e : k = R := by
      by_cases q : k < R
      · have := Nat.mul_le_mul_right C (show k + 1 ≤ R by omega)
        rw [Nat.add_mul, Nat.one_mul] at this; omega
      · omega
    subst e
    (first | (simp (maxSteps := 1000000) (disch := first | omega | (simp only [AM.DB, List.length_set, List.length_map]; first | done | omega)) only [AM.RB, Nat.reduceAdd, Nat.reduceMul, Nat.reduceEqDiff, reduceCtorEq, b102_G7]) | skip); (repeat' (first | ((first | refine AM.guard_spl ?_ ?_ | refine AM.cond_spl ?_ ?_ | refine AM.guard_b ?_ ?_ | refine AM.cond_b ?_ ?_) <;> (intro hd hp_; simp (maxSteps := 1000000) (disch := first | omega | (simp only [AM.DB, List.length_set, List.length_map]; first | done | omega)) only [AM.RB, Nat.reduceAdd, Nat.reduceMul, Nat.reduceEqDiff, reduceCtorEq, b102_G7, hd])) | ((first | refine AM.drawW_fine hp (by kernel_rfl) (by kernel_rfl) (by kernel_rfl) ?_ | refine AM.opW_tied (by kernel_rfl) ?_ | refine AM.opW_untied (by kernel_rfl) ?_ | refine AM.build_w ?_); simp (maxSteps := 1000000) (disch := first | omega | (simp only [AM.DB, List.length_set, List.length_map]; first | done | omega)) only [AM.RB, Nat.reduceAdd, Nat.reduceMul, Nat.reduceEqDiff, reduceCtorEq, b102_G7])))
    exact ⟨A, hA, hn1, hl1, .inl (by rw [List.length_map, List.length_range]; exact hJk)⟩
theorem chunkC_w {s : Value} {C : Nat} {h : AHeap} {Q : VQ} (hs : s.cells = #[s]) (h1 : s.oneCell' = true) (hC : 0 < C)
    (hq : ∀ h', h'.get h.next = some (.cells [s] 94 false) → h'.get (h.next + 1) = some (.cells [.int .i64 C] 3 false) → Fr none' h h' → h'.next = h.next + 2 →
      Q (.func (.func 102) #[] #[pv h.next, pv (h.next + 1)]) h') : W 77 [s, .int .i64 C] h Q := by
  have hc := decide_eq_false (show ¬ (C : Int) < 1 by omega)
  refine AM.enter hp (fn := Tryd.f77) (rs := [.tmp 4]) (nt := 9) (by kernel_rfl) Tryd.func77 rfl rfl rfl (by kernel_rfl) ?_
  simp (maxSteps := 1000000) (disch := first | omega | (simp only [AM.DB, List.length_set, List.length_map]; first | done | omega)) only [AM.RB, Nat.reduceAdd, Nat.reduceMul, Nat.reduceEqDiff, reduceCtorEq, b77_G7, AM.boxK_one _ _ s _ hs h1, hc]
  refine hq _ ?_ ?_ (((Fr.refl _ _).alloc _).alloc _) rfl
  all_goals simp (maxSteps := 1000000) (disch := first | omega | (simp only [AM.DB, List.length_set, List.length_map]; first | done | omega)) only [AM.RB, Nat.reduceAdd, Nat.reduceMul, Nat.reduceEqDiff, reduceCtorEq, b77_G7]

def textP (K : List UInt8) (C : Nat) : Nat → List UInt8
  | 0 => []
  | k + 1 => textP K C k ++ ((K.drop (k * C)).take C ++ [10])
theorem textP_len (K : List UInt8) (C : Nat) : ∀ R, R * C ≤ K.length → (textP K C R).length = R * C + R
  | 0, _ => by simp [textP]
  | k + 1, h => by
    have h' := h
    rw [Nat.add_mul, Nat.one_mul] at h'
    rw [textP, List.length_append, textP_len K C k (by omega), List.length_append, List.length_take, List.length_drop, Nat.add_mul, Nat.one_mul]
    simp; omega

set_option maxHeartbeats 1000000 in
theorem text_w {h : AHeap} {p : Nat} {kv : Value} {R C : Nat} {K : List UInt8} {tl : List Value} (m : Mp h p kv R C K tl) (hR : 0 < R) (hC : 0 < C) (hK : K.length = R * C) (hb : R ≤ 32 ∧ C ≤ 32) (hl : h.low ≤ h.next) {Q : VQ}
    (hq : ∀ h', Fr none' h h' → Q (strV (textP K C R)) h') : W 37 [pv p] h Q := by
  have hg := m.1
  have hKb : K.length ≤ 1024 := by rw [hK]; exact Nat.le_trans (Nat.mul_le_mul hb.1 hb.2) (by decide)
  have hK0 : 0 < K.length := by rw [hK]; exact Nat.mul_pos hR hC
  obtain ⟨ka, kc, rfl⟩ := m.2.1.form
  obtain ⟨kid, koff, hka⟩ : ∃ kid koff, ka = some ⟨kid, koff, none⟩ := by
    rcases m.2.1 with ⟨_, e, _⟩ | ⟨id, off, cap, c, o, q, _⟩
    · omega
    · cases q; exact ⟨_, _, rfl⟩
  subst hka
  have hpl := AM.get_some_lt hg
  have hkl : kid < h.next := m.2.1.lt rfl
  refine AM.enter hp (fn := Tryd.f37) (rs := [.tmp 2]) (nt := 21) (by kernel_rfl) Tryd.func37 rfl rfl rfl (by kernel_rfl) ?_
  (repeat' (first | (simp (maxSteps := 1000000) (disch := first | omega | (simp only [AM.DB, List.length_set, List.length_map]; first | done | omega)) only [AM.RB, Nat.reduceAdd, Nat.reduceMul, Nat.reduceEqDiff, reduceCtorEq, b37_G7]) | refine AM.drawW_fine hp (by kernel_rfl) (by kernel_rfl) (by kernel_rfl) ?_ | refine AM.opW_tied (by kernel_rfl) ?_ | refine AM.opW_untied (by kernel_rfl) ?_))
  refine none_w m hR _ ?_
  (repeat' (first | (simp (maxSteps := 1000000) (disch := first | omega | (simp only [AM.DB, List.length_set, List.length_map]; first | done | omega)) only [AM.RB, Nat.reduceAdd, Nat.reduceMul, Nat.reduceEqDiff, reduceCtorEq, b37_G7]) | refine AM.drawW_fine hp (by kernel_rfl) (by kernel_rfl) (by kernel_rfl) ?_ | refine AM.opW_tied (by kernel_rfl) ?_ | refine AM.opW_untied (by kernel_rfl) ?_))
  generalize hE_ : AHeap.alloc h _ = h1; obtain ⟨g1, fr1, n1, l1⟩ := AM.new_get hE_; clear hE_
  have hg1 := hg.fr0 fr1
  (repeat' (first | (simp (maxSteps := 1000000) (disch := first | omega | (simp only [AM.DB, List.length_set, List.length_map]; first | done | omega)) only [AM.RB, Nat.reduceAdd, Nat.reduceMul, Nat.reduceEqDiff, reduceCtorEq, b37_G7, hg1, hg]) | refine AM.drawW_fine hp (by kernel_rfl) (by kernel_rfl) (by kernel_rfl) ?_ | refine AM.opW_tied (by kernel_rfl) ?_ | refine AM.opW_untied (by kernel_rfl) ?_))
  refine chunkC_w (s := .slice (some ⟨kid, koff, none⟩) K.length kc) rfl rfl hC fun h2 w1 w2 fr2 n2 => ?_
  have fr02 := fr1.trans fr2
  have hl2 := hl.fr0 fr02
  have g12 := g1.fr0 fr2
  have mk2 := m.2.1.fr0 fr02
  have lo2 := fr02.low
  simp (maxSteps := 1000000) (disch := first | omega | (simp only [AM.DB, List.length_set, List.length_map]; first | done | omega)) only [AM.RB, Nat.reduceAdd, Nat.reduceMul, Nat.reduceEqDiff, reduceCtorEq, b37_G7]
  refine AM.range_iter hp (R := fun id => id = h1.next ∨ id = h1.next + 1 ∨ id = kid) (xs := (List.range R).map fun k => [.slice (some ⟨kid, koff + k * C, none⟩) C C]) (AM.entersV_of Tryd.func102 rfl) (by kernel_rfl) (by kernel_rfl) ?_ ?_ hl2 ?_
    (fun i => AM.JK h2.next (fun S h' => Fr none' h h' ∧ ∃ buf, Bd h' h.next buf (textP K C i) ∧ S h.next ∧ ∀ id, idOf buf id → S id ∧ h2.next ≤ id)) (fun _ _ _ => False) ?_ (fun _ => AM.Stab.no) (fun env x => (env.set 16 (x.getD 0 undef)).set 4 (x.getD 0 undef)) ?_ ?_ ?_ ?_ ?_
  · intro x hx; obtain ⟨q, _, rfl⟩ := List.mem_map.1 hx; rfl
  · rintro id (rfl | rfl | rfl) <;> omega
  · exact chunk1_w w1 w2 mk2 hK hC (by omega)
  · intro i
    refine AM.JK.stab fun S a b hB ⟨fr, buf, bd, sb, hid⟩ hS hBl hn' hl' => ⟨fr.ext hBl (by omega) hn' hl', buf, ?_, sb, hid⟩
    obtain ⟨⟨x, g, hx⟩, o, l, n⟩ := bd
    exact ⟨⟨x, by rw [hS _ sb]; exact g, hx⟩, o.same (fun id q => hS id (hid id q).1) hl', by rw [hl']; exact l, n⟩
  · intro x hx h5
    obtain ⟨q, _, rfl⟩ := List.mem_map.1 hx
    simp (maxSteps := 1000000) (disch := first | omega | (simp only [AM.DB, List.length_set, List.length_map]; first | done | omega)) only [AM.RB, Nat.reduceAdd, Nat.reduceMul, Nat.reduceEqDiff, reduceCtorEq, b37_G7]
  · intro o
    refine ⟨Nat.le_succ _, fun id e => by omega, fun id => id = h.next, ⟨fr02.alloc _, .slice none 0 0, ⟨⟨_, ?_, .inl rfl⟩, Ow.nil _ _ _, by simp only [AM.lw_alloc]; omega, fun q => q⟩, rfl, fun _ q => q.elim⟩, ?_⟩
    · rw [AM.get_alloc_ne (by omega)]; exact g12
    · rintro id rfl
      exact ⟨by simp only [AM.nx_alloc]; omega, by omega⟩
  · rintro i x A h3 hx ⟨hB, hA, S, ⟨fr3, buf, bd, sb, hid⟩, hS⟩ hA1 hL3 hlow3 hR3
    rw [List.getElem?_map] at hx
    obtain ⟨q, hq', rfl⟩ := Option.map_eq_some_iff.1 hx
    obtain ⟨hqR, rfl⟩ : i < R ∧ q = i := by
      have := List.getElem?_eq_some_iff.1 hq'
      obtain ⟨h1, h2⟩ := this
      simp at h1 h2; omega
    have hqC : q * C + C ≤ K.length := by
      have := Nat.mul_le_mul_right C (show q + 1 ≤ R by omega)
      rw [Nat.add_mul, Nat.one_mul] at this; omega
    have htl := textP_len K C q (by omega)
    have hmk3 := m.2.1.fr0 fr3
    have hrow : Rd h3 5 1 (.slice (some ⟨kid, koff + q * C, none⟩) C C) C (((K.drop (q * C)).take C).map bV) := by
      rcases hmk3 with ⟨e, _⟩ | ⟨id', off', cap', c, o, e, hnc, hgk, hf, hd, hlo⟩
      · cases e
      cases e
      refine .inr ⟨kid, koff + q * C, C, c, _, o, rfl, Nat.le_refl _, hgk, by omega, ?_, .inr rfl⟩
      rw [List.map_take, List.map_drop, ← hd, List.drop_take, List.take_take, List.drop_drop]
      congr 1
      omega
    have hlow := hl.fr0 fr3
    have hn3 := fr3.next
    (repeat' (first | (simp (maxSteps := 1000000) (disch := first | omega | (simp only [AM.DB, List.length_set, List.length_map]; first | done | omega)) only [AM.RB, Nat.reduceAdd, Nat.reduceMul, Nat.reduceEqDiff, reduceCtorEq, b37_G7]) | refine AM.drawW_fine hp (by kernel_rfl) (by kernel_rfl) (by kernel_rfl) ?_ | refine AM.opW_tied (by kernel_rfl) ?_ | refine AM.opW_untied (by kernel_rfl) ?_))
    refine write_w bd hrow (fun e => by have : h.next = kid := e; omega) (by omega) hlow fun buf4 h4 bd4 fr4 hid4 => ?_
    have hS4 : ∀ id, (id = h.next ∨ idOf buf id) → S id := fun id q => q.elim (fun e => by rw [e]; exact sb) (fun e => (hid id e).1)
    have n4 := fr4.next
    have l4 := fr4.low
    have hlow4 := fr4.hl hlow
    (repeat' (first | (simp (maxSteps := 1000000) (disch := first | omega | (simp only [AM.DB, List.length_set, List.length_map]; first | done | omega)) only [AM.RB, Nat.reduceAdd, Nat.reduceMul, Nat.reduceEqDiff, reduceCtorEq, b37_G7]) | refine AM.drawW_fine hp (by kernel_rfl) (by kernel_rfl) (by kernel_rfl) ?_ | refine AM.opW_tied (by kernel_rfl) ?_ | refine AM.opW_untied (by kernel_rfl) ?_))
    refine writeByte_w (c := 10) bd4 (by simp; omega) hlow4 fun buf5 h5 bd5 fr5 hid5 => ?_
    have n5 := fr5.next
    have l5 := fr5.low
    (repeat' (first | (simp (maxSteps := 1000000) (disch := first | omega | (simp only [AM.DB, List.length_set, List.length_map]; first | done | omega)) only [AM.RB, Nat.reduceAdd, Nat.reduceMul, Nat.reduceEqDiff, reduceCtorEq, b37_G7]) | refine AM.drawW_fine hp (by kernel_rfl) (by kernel_rfl) (by kernel_rfl) ?_ | refine AM.opW_tied (by kernel_rfl) ?_ | refine AM.opW_untied (by kernel_rfl) ?_))
    have hb4 : ∀ id, idOf buf4 id → h2.next ≤ id ∧ ¬ A id := fun id q1 => by
      rcases hid4 id q1 with q1 | q1
      · exact ⟨(hid id q1).2, (hS id (hid id q1).1).2⟩
      · exact ⟨by omega, fun e => by have := (hA1 id e).2; omega⟩
    have hb5 : ∀ id, idOf buf5 id → h2.next ≤ id ∧ ¬ A id := fun id q1 => by
      rcases hid5 id q1 with q1 | q1
      · exact hb4 id q1
      · exact ⟨by omega, fun e => by have := (hA1 id e).2; omega⟩
    have frA : Fr (fun id => id = h.next ∨ (h2.next ≤ id ∧ ¬ A id)) h3 h5 :=
      (fr4.mono fun id _ q => q.elim .inl fun e => .inr ⟨(hid id e).2, (hS id (hid id e).1).2⟩).then fr5 fun id _ q => q.elim .inl fun e => .inr (hb4 id e)
    refine ⟨by omega, by omega, fun id q1 q2 => frA.old id q1 fun q3 => ?_, by omega, hA, fun id => id = h.next ∨ idOf buf5 id, ⟨fr3.fresh frA fun id q => by omega, buf5, ?_, .inl rfl, fun id q => ⟨.inr q, (hb5 id q).1⟩⟩, ?_⟩
    · rcases q3 with rfl | q3
      · rcases q2 with q2 | q2
        · have := (hS _ sb).2; exact this q2
        · omega
      · rcases q2 with q2 | q2
        · exact q3.2 q2
        · omega
    · rw [textP, ← List.append_assoc]; exact bd5
    · rintro id (rfl | q1)
      · exact ⟨by omega, (hS _ sb).2⟩
      · exact ⟨bd5.2.1.lt q1, (hb5 id q1).2⟩
  · rintro A h3 ⟨hB, hA, S, ⟨fr3, buf, bd, sb, hid⟩, hS⟩ hA1 hL3 hlow3
    rw [List.length_map, List.length_range] at bd
    (repeat' (first | (simp (maxSteps := 1000000) (disch := first | omega | (simp only [AM.DB, List.length_set, List.length_map]; first | done | omega)) only [AM.RB, Nat.reduceAdd, Nat.reduceMul, Nat.reduceEqDiff, reduceCtorEq, b37_G7]) | refine AM.drawW_fine hp (by kernel_rfl) (by kernel_rfl) (by kernel_rfl) ?_ | refine AM.opW_tied (by kernel_rfl) ?_ | refine AM.opW_untied (by kernel_rfl) ?_))
    have htl := textP_len K C R (by omega)
    refine string_w bd (fun e => by rw [e] at htl; simp at htl; omega) fun h4 fr4 n4 => ?_
    (repeat' (first | (simp (maxSteps := 1000000) (disch := first | omega | (simp only [AM.DB, List.length_set, List.length_map]; first | done | omega)) only [AM.RB, Nat.reduceAdd, Nat.reduceMul, Nat.reduceEqDiff, reduceCtorEq, b37_G7]) | refine AM.drawW_fine hp (by kernel_rfl) (by kernel_rfl) (by kernel_rfl) ?_ | refine AM.opW_tied (by kernel_rfl) ?_ | refine AM.opW_untied (by kernel_rfl) ?_))
    exact hq _ (fr3.fresh fr4 fun id q => by have := (hid id q).2; omega)
  · intro _ _ _ q; exact q.elim

end Go.Proofs.YtbaohngkapmhlaaDoor

namespace Go.Proofs.YtbaohngkapmhlaaDoor
open Go.AM

/-! ### The document's reading, byte by byte -/
inductive RefR where
  | err (a b : Int)
  | ok (L : List (List UInt8))
def refGo : List UInt8 → List (List UInt8) → List UInt8 → Bool → RefR
  | [], L, r, f => if r ≠ [] then .err (L.length + 1) (r.length + 1) else if f = true then .ok L else .err 0 0
  | c :: rest, L, r, f =>
    if 32 < L.length + 1 then .err (L.length + 1) 1
    else if c = 10 then
      (if r.length = 0 ∨ (1 < L.length + 1 ∧ r.length < (L.getD 0 []).length) then .err (L.length + 1) (r.length + 1) else refGo rest (L ++ [r]) [] f)
    else if cellB c = false ∨ 32 ≤ r.length ∨ (1 < L.length + 1 ∧ (L.getD 0 []).length ≤ r.length) then .err (L.length + 1) (r.length + 1)
    else refGo rest L (r ++ [c]) (f || !decide (c = 35))
/-- The width that a row must keep to. -/
def capL (L : List (List UInt8)) : Nat := if L.length = 0 then 32 else (L.getD 0 []).length
theorem refGo_row (L : List (List UInt8)) (T rest : List UInt8) (hL : L.length + 1 ≤ 32) (hc : capL L ≤ 32) (hT : (10 : UInt8) ∉ T) : ∀ (k i : Nat) (f : Bool), T.length - i = k → i ≤ T.length →
    refGo (T.drop i ++ rest) L (T.take i) f = match rowP T (capL L) k i with
      | some j => .err (L.length + 1) j
      | none => refGo rest L T (f || (T.drop i).any fun c => !decide (c = 35))
  | 0, i, f, hk, hi => by
    have : i = T.length := by omega
    subst this
    simp [rowP]
  | k + 1, i, f, hk, hi => by
    have hlt : i < T.length := by omega
    have hgi : T.getD i 0 = T[i] := by simp [List.getD, hlt]
    have hne : T[i] ≠ 10 := fun e => hT (by rw [← e]; exact List.getElem_mem hlt)
    have hmin : min i T.length = i := by omega
    rw [List.drop_eq_getElem_cons hlt, List.cons_append, refGo, if_neg (by omega), if_neg hne, rowP, hgi]
    have hcond : (cellB T[i] = false ∨ 32 ≤ (T.take i).length ∨ (1 < L.length + 1 ∧ (L.getD 0 []).length ≤ (T.take i).length)) ↔ (cellB T[i] = false ∨ (capL L : Int) ≤ i) := by
      rw [List.length_take, hmin]
      unfold capL at hc ⊢
      by_cases e : L.length = 0
      · rw [if_pos e]; constructor
        · rintro (q | q | q)
          · exact .inl q
          · exact .inr (by omega)
          · omega
        · rintro (q | q)
          · exact .inl q
          · exact .inr (.inl (by omega))
      · rw [if_neg e] at hc ⊢; constructor
        · rintro (q | q | q)
          · exact .inl q
          · exact .inr (by omega)
          · exact .inr (by omega)
        · rintro (q | q)
          · exact .inl q
          · exact .inr (.inr ⟨by omega, by omega⟩)
    by_cases hb : cellB T[i] = false ∨ (capL L : Int) ≤ i
    · rw [if_pos (hcond.2 hb), if_pos hb, List.length_take, hmin]; rfl
    · rw [if_neg (fun q => hb (hcond.1 q)), if_neg hb]
      have e : T.take i ++ [T[i]] = T.take (i + 1) := by rw [List.take_add_one]; simp [hlt]
      rw [e, refGo_row L T rest hL hc hT k (i + 1) _ (by omega) (by omega), List.any_cons, Bool.or_assoc]
theorem rowP_congr {T : List UInt8} {c d : Int} (h : ∀ i : Nat, i < T.length → (c ≤ i ↔ d ≤ i)) : ∀ (k i : Nat), i + k ≤ T.length → rowP T c k i = rowP T d k i
  | 0, _, _ => rfl
  | k + 1, i, hk => by
    have := h i (by omega)
    rw [rowP, rowP, rowP_congr h k (i + 1) (by omega)]
    simp only [this]
theorem rowP_none {T : List UInt8} {c : Int} : ∀ (k i : Nat), rowP T c k i = none → ∀ j : Nat, i ≤ j → j < i + k → cellB (T.getD j 0) = true ∧ (j : Int) < c
  | 0, i, _, j, h1, h2 => by omega
  | k + 1, i, h, j, h1, h2 => by
    rw [rowP] at h
    split at h
    · cases h
    · rename_i hc
      by_cases e : j = i
      · subst e
        refine ⟨?_, ?_⟩
        · cases q : cellB (T.getD j 0) with
          | true => rfl
          | false => exact absurd (.inl q) hc
        · by_cases q : c ≤ j
          · exact absurd (.inr q) hc
          · omega
      · exact rowP_none k (i + 1) h j (by omega) (by omega)

/-- One line. -/
theorem refGo_line (L : List (List UInt8)) (T rest : List UInt8) (f : Bool) (hL : L.length + 1 ≤ 32) (hc : capL L ≤ 32) (hT : (10 : UInt8) ∉ T) (hsuf : sufB (T ++ [10]) [10] = true) (hlt : lineT (T ++ [10]) = T) (C : Nat) (hC : C = if L.length = 0 then min 32 T.length else capL L) :
    refGo (T ++ 10 :: rest) L [] f = if rowE (T ++ [10]) C ≠ 0 then .err (L.length + 1) (rowE (T ++ [10]) C) else refGo rest (L ++ [T]) [] (f || T.any fun c => !decide (c = 35)) := by
  have h0 := refGo_row L T (10 :: rest) hL hc hT T.length 0 f (by omega) (by omega)
  rw [List.drop_zero, List.take_zero] at h0
  have hcg : rowP T (capL L) T.length 0 = rowP T C T.length 0 := by
    refine rowP_congr (fun i hi => ?_) _ _ (by omega)
    rw [hC]
    unfold capL
    by_cases e : L.length = 0
    · rw [if_pos e, if_pos e]; omega
    · rw [if_neg e, if_neg e]
  rw [hcg] at h0
  rw [h0]
  unfold rowE
  rw [hlt, hsuf]
  cases hr : rowP T C T.length 0 with
  | some j =>
    have := rowP_pos _ _ _ _ _ hr
    simp only
    rw [if_pos (by omega)]
  | none =>
    simp only
    rw [refGo, if_neg (by omega), if_pos rfl]
    have hcond : (T.length = 0 ∨ (1 < L.length + 1 ∧ T.length < (L.getD 0 []).length)) ↔ (true = false ∨ (T.length : Int) < C ∨ T.length = 0) := by
      rw [hC]
      unfold capL
      by_cases e : L.length = 0
      · rw [if_pos e]; constructor
        · rintro (q | q)
          · exact .inr (.inr q)
          · omega
        · rintro (q | q | q)
          · cases q
          · omega
          · exact .inl q
      · rw [if_neg e, if_neg e]; constructor
        · rintro (q | q)
          · exact .inr (.inr q)
          · exact .inr (.inl (by omega))
        · rintro (q | q | q)
          · cases q
          · exact .inr ⟨by omega, by omega⟩
          · exact .inl q
    by_cases hb : T.length = 0 ∨ (1 < L.length + 1 ∧ T.length < (L.getD 0 []).length)
    · rw [if_pos hb, if_pos (hcond.1 hb), if_pos (by omega)]
    · rw [if_neg hb, if_neg (fun q => hb (hcond.2 q)), if_neg (by simp)]
/-- The last line, if it has no end. -/
theorem refGo_last (L : List (List UInt8)) (T : List UInt8) (f : Bool) (hL : L.length + 1 ≤ 32) (hc : capL L ≤ 32) (hT : (10 : UInt8) ∉ T) (hT0 : T ≠ []) (hsuf : sufB T [10] = false) (hlt : lineT T = T) (C : Nat) (hC : C = if L.length = 0 then min 32 T.length else capL L) :
    refGo T L [] f = .err (L.length + 1) (rowE T C) := by
  have h0 := refGo_row L T [] hL hc hT T.length 0 f (by omega) (by omega)
  rw [List.drop_zero, List.take_zero, List.append_nil] at h0
  have hcg : rowP T (capL L) T.length 0 = rowP T C T.length 0 := by
    refine rowP_congr (fun i hi => ?_) _ _ (by omega)
    rw [hC]
    unfold capL
    by_cases e : L.length = 0
    · rw [if_pos e, if_pos e]; omega
    · rw [if_neg e, if_neg e]
  rw [hcg] at h0
  rw [h0]
  unfold rowE
  rw [hlt, hsuf]
  cases hr : rowP T C T.length 0 with
  | some j => rfl
  | none =>
    simp only
    rw [refGo, if_pos hT0, if_pos (.inl trivial)]

theorem sufB_snoc (T : List UInt8) : sufB (T ++ [10]) [10] = true ∧ lineT (T ++ [10]) = T := by
  have h : sufB (T ++ [10]) [10] = true := by
    unfold sufB; simp
  refine ⟨h, ?_⟩
  unfold lineT
  rw [if_pos h]; simp
theorem sufB_no {T : List UInt8} (hT : (10 : UInt8) ∉ T) : sufB T [10] = false ∧ lineT T = T := by
  have h : sufB T [10] = false := by
    cases e : sufB T [10] with
    | false => rfl
    | true =>
      unfold sufB at e
      simp only [Bool.and_eq_true, decide_eq_true_eq] at e
      exact absurd (List.mem_of_mem_drop (by rw [e.2]; simp : (10 : UInt8) ∈ T.drop (T.length - [(10 : UInt8)].length))) hT
  refine ⟨h, ?_⟩
  unfold lineT
  rw [if_neg (by rw [h]; simp)]
/-- The first line of a text. -/
theorem linesL_cons (n : Nat) (r : List UInt8) (hr : r ≠ []) (hn : r.length ≤ n) : (∃ T rest, (10 : UInt8) ∉ T ∧ r = T ++ 10 :: rest ∧ linesL n r = (T ++ [10]) :: linesL rest.length rest ∧ rest.length < r.length) ∨ ((10 : UInt8) ∉ r ∧ linesL n r = [r]) := by
  obtain ⟨m, rfl⟩ : ∃ m, n = m + 1 := ⟨n - 1, by have := List.length_pos_iff.2 hr; omega⟩
  rw [linesL, if_neg hr]
  cases hf : r.findIdx? (· == 10) with
  | none =>
    right
    refine ⟨fun q => ?_, rfl⟩
    have := List.findIdx?_eq_none_iff.1 hf 10 q
    simp at this
  | some j =>
    left
    obtain ⟨hj, h1, h2⟩ := List.findIdx?_eq_some_iff_getElem.1 hf
    have e10 : r[j] = 10 := by simpa using h1
    refine ⟨r.take j, r.drop (j + 1), fun q => ?_, ?_, ?_, ?_⟩
    · obtain ⟨i, hi, e⟩ := List.getElem_of_mem q
      simp at hi
      have := h2 i (by omega)
      rw [List.getElem_take] at e
      simp [e] at this
    · rw [← e10, ← List.drop_eq_getElem_cons hj, List.take_append_drop]
    · have e : r.take (j + 1) = r.take j ++ [10] := by rw [List.take_add_one]; simp [hj, e10]
      simp only
      rw [e, linesL_eq m _ _ (by simp; omega) (Nat.le_refl _)]
    · simp; omega


theorem colsI_one {ls : List (List UInt8)} (h0 : errI ls 0 = 0) : colsI ls 1 = (lineT (ls.getD 0 [])).length ∧ (lineT (ls.getD 0 [])).length ≤ 32 := by
  unfold errI at h0
  rw [if_neg (by omega)] at h0
  obtain ⟨_, _, _, hn⟩ := rowE_zero h0
  have h1 := rowP_none _ _ hn
  have hc : colsI ls 1 = min 32 (lineT (ls.getD 0 [])).length := by unfold colsI; rw [if_neg (by omega)]
  have : (lineT (ls.getD 0 [])).length ≤ 32 := by
    by_cases q : (lineT (ls.getD 0 [])).length ≤ 32
    · exact q
    · have := (h1 32 (by omega) (by omega)).2
      omega
  exact ⟨by omega, this⟩
abbrev freeL (T : List UInt8) : Bool := T.any fun c => !decide (c = 35)
theorem refGo_main (ls : List (List UInt8)) : ∀ (k : Nat) (r : List UInt8) (L : List (List UInt8)) (f : Bool) (i : Nat), r.length ≤ k → i = L.length → i ≤ ls.length → L = (ls.take i).map lineT → ls.drop i = linesL r.length r → okI ls i →
    (∃ j, i ≤ j ∧ j < ls.length ∧ okI ls j ∧ errI ls j ≠ 0 ∧ refGo r L [] f = .err ((j : Int) + 1) (errI ls j)) ∨
    (okI ls ls.length ∧ refGo r L [] f = if (f || (ls.drop i).any fun x => freeL (lineT x)) = true then .ok (ls.map lineT) else .err 0 0)
  | k, [], L, f, i, _, hi, hils, hL, hd, ok => by
    right
    have e : ls.drop i = [] := by rw [hd]; rfl
    have : i = ls.length := by
      have := congrArg List.length e
      simp at this; omega
    subst this
    refine ⟨ok, ?_⟩
    rw [e, refGo, if_neg (by simp)]
    rw [hL, List.take_length]; simp
  | 0, c :: r, _, _, _, h, _, _, _, _, _ => by simp at h
  | k + 1, c :: r, L, f, i, hk, hi, hils, hL, hd, ok => by
    have hlen : (ls.drop i).length = ls.length - i := by simp
    have hilt : i < ls.length := by
      rcases linesL_cons (c :: r).length (c :: r) (by simp) (Nat.le_refl _) with ⟨T, rest, _, _, e, _⟩ | ⟨_, e⟩
      · rw [hd, e] at hlen; simp at hlen; omega
      · rw [hd, e] at hlen; simp at hlen; omega
    by_cases hov : 32 < L.length + 1
    · left
      refine ⟨i, Nat.le_refl _, hilt, ok, ?_, ?_⟩
      · unfold errI; rw [if_pos (by omega)]; omega
      · unfold errI; rw [if_pos (by omega), refGo, if_pos hov, hi]
    · have hcap : capL L ≤ 32 ∧ (L.length ≠ 0 → capL L = colsI ls 1) := by
        unfold capL
        by_cases e : L.length = 0
        · rw [if_pos e]; exact ⟨Nat.le_refl _, fun q => absurd e q⟩
        · rw [if_neg e]
          have hg : L.getD 0 [] = lineT (ls.getD 0 []) := by
            rw [hL]
            have h0 : 0 < ls.length := by omega
            simp [List.getD, show 0 < i by omega, h0]
          obtain ⟨h1, h2⟩ := colsI_one (ok 0 (by omega))
          rw [hg]
          exact ⟨h2, fun _ => h1.symm⟩
      have hCi : ∀ x, ls.getD i [] = x → colsI ls 1 = if L.length = 0 then min 32 (lineT x).length else capL L := fun x hx => by
        by_cases e : L.length = 0
        · rw [if_pos e]
          have : i = 0 := by omega
          subst this
          unfold colsI; rw [if_neg (by omega), hx]
        · rw [if_neg e]; exact (hcap.2 e).symm
      have herr : ∀ x, ls.getD i [] = x → errI ls i = rowE x (colsI ls 1) := fun x hx => by
        unfold errI; rw [if_neg (by omega), hx]
      rcases linesL_cons (c :: r).length (c :: r) (by simp) (Nat.le_refl _) with ⟨T, rest, hT, er, e, hlt⟩ | ⟨hT, e⟩
      · rw [e] at hd
        have hgi : ls.getD i [] = T ++ [10] := by
          have := congrArg (fun l => l[0]?) hd
          simp at this
          simp [List.getD, this]
        obtain ⟨s1, s2⟩ := sufB_snoc T
        have hC := hCi _ hgi
        rw [s2] at hC
        have key := refGo_line L T rest f (by omega) hcap.1 hT s1 s2 (colsI ls 1) hC
        have he := herr _ hgi
        rw [er, key]
        by_cases h0 : rowE (T ++ [10]) (colsI ls 1) ≠ 0
        · left
          rw [if_pos h0]
          exact ⟨i, Nat.le_refl _, hilt, ok, by rw [he]; exact h0, by rw [he, hi]⟩
        · rw [if_neg h0]
          have h0' : errI ls i = 0 := by rw [he]; omega
          have htk : ls.take (i + 1) = ls.take i ++ [T ++ [10]] := by
            rw [List.take_add_one]
            have : ls[i]? = some (T ++ [10]) := by
              have := congrArg (fun l => l[0]?) hd
              simpa using this
            rw [this]; rfl
          have hd' : ls.drop (i + 1) = linesL rest.length rest := by
            have := congrArg List.tail hd
            simpa using this
          rcases refGo_main ls k rest (L ++ [T]) (f || freeL T) (i + 1) (by simp only [List.length_cons] at hk hlt; omega) (by simp [hi]) (by omega) (by rw [htk, List.map_append, hL]; simp [s2]) hd' (okI_succ ok h0') with ⟨j, j1, j2, j3, j4, j5⟩ | ⟨o1, o2⟩
          · exact .inl ⟨j, by omega, j2, j3, j4, j5⟩
          · right
            refine ⟨o1, ?_⟩
            rw [o2, hd', hd, List.any_cons, s2, Bool.or_assoc]
      · rw [e] at hd
        have hgi : ls.getD i [] = c :: r := by
          have := congrArg (fun l => l[0]?) hd
          simp at this
          simp [List.getD, this]
        obtain ⟨s1, s2⟩ := sufB_no hT
        have hC := hCi _ hgi
        rw [s2] at hC
        have key := refGo_last L (c :: r) f (by omega) hcap.1 hT (by simp) s1 s2 (colsI ls 1) hC
        have he := herr _ hgi
        left
        refine ⟨i, Nat.le_refl _, hilt, ok, fun q => ?_, by rw [key, he, hi]⟩
        rw [he] at q
        have := (rowE_zero q).1
        rw [s1] at this; cases this

end Go.Proofs.YtbaohngkapmhlaaDoor

namespace Go.Proofs.YtbaohngkapmhlaaDoor
open Go.AM
set_option maxRecDepth 8000
theorem b69_G9 : type_of% (And.intro (@AM.bin_eql) (@AM.op_binOp)) := And.intro (@AM.bin_eql) (@AM.op_binOp)
theorem b75_G9 : type_of% (And.intro (@AM.fa_ptr) (And.intro (@fd_120_0) (And.intro (@AM.iaO_ok) (And.intro (AM.ia_slice el_118) (And.intro (@AM.ldO_agg) (And.intro (@AM.ldO_one) (And.intro (@AM.ld_ptr) (And.intro (@lk_118) (And.intro (@lk_9) (And.intro (@AM.op_fieldAddr) (And.intro (@AM.op_indexAddr) (And.intro (@AM.op_len) (And.intro (@AM.op_load) (And.intro (@AM.op_nilCheck) (AM.str_len ul_9))))))))))))))) := And.intro (@AM.fa_ptr) (And.intro (@fd_120_0) (And.intro (@AM.iaO_ok) (And.intro (AM.ia_slice el_118) (And.intro (@AM.ldO_agg) (And.intro (@AM.ldO_one) (And.intro (@AM.ld_ptr) (And.intro (@lk_118) (And.intro (@lk_9) (And.intro (@AM.op_fieldAddr) (And.intro (@AM.op_indexAddr) (And.intro (@AM.op_len) (And.intro (@AM.op_load) (And.intro (@AM.op_nilCheck) (AM.str_len ul_9))))))))))))))
theorem b71_G9 : type_of% (And.intro (@AM.bin_mul) (And.intro (@AM.fa_ptr) (And.intro (@fd_120_0) (And.intro (@AM.iaO_ok) (And.intro (AM.ia_slice el_118) (And.intro (@AM.ldO_agg) (And.intro (@AM.ldO_one) (And.intro (@AM.ld_ptr) (And.intro (AM.len_slice ul_118) (And.intro (@lk_118) (And.intro (@lk_9) (And.intro (@AM.op_binOp) (And.intro (@AM.op_fieldAddr) (And.intro (@AM.op_indexAddr) (And.intro (@AM.op_len) (And.intro (@AM.op_load) (And.intro (@AM.op_nilCheck) (AM.str_len ul_9)))))))))))))))))) := And.intro (@AM.bin_mul) (And.intro (@AM.fa_ptr) (And.intro (@fd_120_0) (And.intro (@AM.iaO_ok) (And.intro (AM.ia_slice el_118) (And.intro (@AM.ldO_agg) (And.intro (@AM.ldO_one) (And.intro (@AM.ld_ptr) (And.intro (AM.len_slice ul_118) (And.intro (@lk_118) (And.intro (@lk_9) (And.intro (@AM.op_binOp) (And.intro (@AM.op_fieldAddr) (And.intro (@AM.op_indexAddr) (And.intro (@AM.op_len) (And.intro (@AM.op_load) (And.intro (@AM.op_nilCheck) (AM.str_len ul_9)))))))))))))))))
theorem b74_G9 : type_of% (And.intro (@AM.bin_geq) (And.intro (@AM.bin_lss) (And.intro (@AM.bin_quo) (And.intro (@AM.bin_rem) (And.intro (@AM.fa_ptr) (And.intro (@fd_120_0) (And.intro (@AM.iaO_ok) (And.intro (AM.ia_slice el_118) (And.intro (@AM.ldO_agg) (And.intro (@AM.ldO_one) (And.intro (@AM.ld_ptr) (And.intro (@lk_118) (And.intro (@lk_9) (And.intro (@AM.op_binOp) (And.intro (@AM.op_call) (And.intro (@AM.op_fieldAddr) (And.intro (@AM.op_index) (And.intro (@AM.op_indexAddr) (And.intro (@AM.op_load) (And.intro (@AM.op_nilCheck) (AM.str_idx ul_9))))))))))))))))))))) := And.intro (@AM.bin_geq) (And.intro (@AM.bin_lss) (And.intro (@AM.bin_quo) (And.intro (@AM.bin_rem) (And.intro (@AM.fa_ptr) (And.intro (@fd_120_0) (And.intro (@AM.iaO_ok) (And.intro (AM.ia_slice el_118) (And.intro (@AM.ldO_agg) (And.intro (@AM.ldO_one) (And.intro (@AM.ld_ptr) (And.intro (@lk_118) (And.intro (@lk_9) (And.intro (@AM.op_binOp) (And.intro (@AM.op_call) (And.intro (@AM.op_fieldAddr) (And.intro (@AM.op_index) (And.intro (@AM.op_indexAddr) (And.intro (@AM.op_load) (And.intro (@AM.op_nilCheck) (AM.str_idx ul_9))))))))))))))))))))


/-! ### The document's map in memory -/
def Rp (h : AHeap) (p : Nat) (lv : Value) (L : List (List UInt8)) : Prop :=
  h.get p = some (.cells [lv] 120 false) ∧ Ow h 9 1 lv L.length (L.map strV) ∧ h.low ≤ p ∧ ¬ idOf lv p
theorem Rp.fr {h h' : AHeap} {p : Nat} {lv : Value} {L : List (List UInt8)} {S : Nat → Prop} (m : Rp h p lv L) (fr : Fr S h h') (h1 : ¬ S p) (h2 : ∀ id, idOf lv id → ¬ S id) : Rp h' p lv L :=
  ⟨fr.get m.1 h1, m.2.1.fr fr h2, by rw [fr.low]; exact m.2.2.1, m.2.2.2⟩
theorem Rp.fr0 {h h' : AHeap} {p : Nat} {lv : Value} {L : List (List UInt8)} (m : Rp h p lv L) (fr : Fr none' h h') : Rp h' p lv L := m.fr fr (fun q => q) (fun _ _ q => q)
theorem strs_get (L : List (List UInt8)) {j : Nat} (hj : j < L.length) : (L.map strV)[j]? = some (strV (L.getD j [])) := by simp [List.getD, hj]
theorem Rd.ldst {h : AHeap} {e : TypeId} {s : Value} {n : Nat} {L : List (List UInt8)} (x : Rd h e 1 s n (L.map strV)) {t : TypeId} (ht : lkI Tryd.prog t = some none) (j : Nat) (hj : j < n) : aLoad Tryd.prog h t (elP s 1 j) = some (strV (L.getD j [])) := by
  rw [x.ld ht j hj]
  exact strs_get L (by have := x.length; rw [List.length_map] at this; omega)
theorem u8_lit (c : UInt8) (d : Nat) (hd : d < 256) : decide ((c.toNat : Int) = d) = decide (c = UInt8.ofNat d) := by
  rw [decide_eq_decide]
  constructor
  · intro q; apply UInt8.toNat_inj.1; rw [UInt8.toNat_ofNat']; omega
  · intro q; rw [q, UInt8.toNat_ofNat']; omega
theorem refCell_w (c : UInt8) (h : AHeap) (Q : VQ) (hq : Q (.bool (cellB c)) h) : W 69 [bV c] h Q := by
  have d1 := u8_lit c 35 (by omega)
  have d2 := u8_lit c 46 (by omega)
  have d3 := u8_lit c 60 (by omega)
  have d4 := u8_lit c 62 (by omega)
  have d5 := u8_lit c 94 (by omega)
  have d6 := u8_lit c 118 (by omega)
  have e : cellB c = (decide ((c.toNat : Int) = 35) || decide ((c.toNat : Int) = 46) || decide ((c.toNat : Int) = 60) || decide ((c.toNat : Int) = 62) || decide ((c.toNat : Int) = 94) || decide ((c.toNat : Int) = 118)) := by
    unfold cellB
    rw [show decide ((c.toNat : Int) = 35) = _ from d1, show decide ((c.toNat : Int) = 46) = _ from d2, show decide ((c.toNat : Int) = 60) = _ from d3, show decide ((c.toNat : Int) = 62) = _ from d4, show decide ((c.toNat : Int) = 94) = _ from d5, show decide ((c.toNat : Int) = 118) = _ from d6]
    rfl
  rw [e] at hq
  clear e d1 d2 d3 d4 d5 d6
  refine AM.enter hp (fn := Tryd.f69) (rs := [.tmp 2]) (nt := 25) (by kernel_rfl) Tryd.func69 rfl rfl rfl (by kernel_rfl) ?_
  (first | (simp (maxSteps := 1000000) (disch := first | omega | (simp only [AM.DB, List.length_set, List.length_map]; first | done | omega)) only [AM.RB, Nat.reduceAdd, Nat.reduceMul, Nat.reduceEqDiff, reduceCtorEq, b69_G9]) | skip); (repeat' (first | ((first | refine AM.guard_spl ?_ ?_ | refine AM.cond_spl ?_ ?_ | refine AM.guard_b ?_ ?_ | refine AM.cond_b ?_ ?_) <;> (intro hd hp_; simp (maxSteps := 1000000) (disch := first | omega | (simp only [AM.DB, List.length_set, List.length_map]; first | done | omega)) only [AM.RB, Nat.reduceAdd, Nat.reduceMul, Nat.reduceEqDiff, reduceCtorEq, b69_G9, hd])) | ((first | refine AM.drawW_fine hp (by kernel_rfl) (by kernel_rfl) (by kernel_rfl) ?_ | refine AM.opW_tied (by kernel_rfl) ?_ | refine AM.opW_untied (by kernel_rfl) ?_ | refine AM.build_w ?_); simp (maxSteps := 1000000) (disch := first | omega | (simp only [AM.DB, List.length_set, List.length_map]; first | done | omega)) only [AM.RB, Nat.reduceAdd, Nat.reduceMul, Nat.reduceEqDiff, reduceCtorEq, b69_G9])))
  all_goals (simpa [*] using hq)

theorem refCols_w {h : AHeap} {p : Nat} {lv : Value} {L : List (List UInt8)} (m : Rp h p lv L) (hL : 0 < L.length) {Q : VQ} (hq : Q (.int .i64 (L.getD 0 []).length) h) : W 75 [pv p] h Q := by
  have hg := m.1
  have hr := m.2.1.rd
  obtain ⟨la, lc, rfl⟩ := m.2.1.form
  refine AM.enter hp (fn := Tryd.f75) (rs := [.tmp 2]) (nt := 10) (by kernel_rfl) Tryd.func75 rfl rfl rfl (by kernel_rfl) ?_
  (first | (simp (maxSteps := 1000000) (disch := first | omega | (simp only [AM.DB, List.length_set, List.length_map]; first | done | omega)) only [AM.RB, Nat.reduceAdd, Nat.reduceMul, Nat.reduceEqDiff, reduceCtorEq, b75_G9, hg, hr.ia el_118, Rd.ldst hr lk_9, Int.toNat_zero]) | skip)
  exact hq
theorem refCells_w {h : AHeap} {p : Nat} {lv : Value} {L : List (List UInt8)} (m : Rp h p lv L) (hL : 0 < L.length) (hb : L.length ≤ 4000000 ∧ (L.getD 0 []).length ≤ 4000000) {Q : VQ} (hq : Q (.int .i64 (L.length * (L.getD 0 []).length : Nat)) h) : W 71 [pv p] h Q := by
  have hg := m.1
  have hr := m.2.1.rd
  obtain ⟨la, lc, rfl⟩ := m.2.1.form
  have hm : (L.length : Int) * (L.getD 0 []).length ≤ 4000000 * 4000000 := Int.mul_le_mul (by omega) (by omega) (by omega) (by omega)
  have hm0 : (0 : Int) ≤ L.length * (L.getD 0 []).length := Int.mul_nonneg (by omega) (by omega)
  refine AM.enter hp (fn := Tryd.f71) (rs := [.tmp 2]) (nt := 16) (by kernel_rfl) Tryd.func71 rfl rfl rfl (by kernel_rfl) ?_
  (repeat' (first | (simp (maxSteps := 1000000) (disch := first | omega | (simp only [AM.DB, List.length_set, List.length_map]; first | done | omega)) only [AM.RB, Nat.reduceAdd, Nat.reduceMul, Nat.reduceEqDiff, reduceCtorEq, b71_G9, hg, hr.ia el_118, Rd.ldst hr lk_9, Int.toNat_zero, AM.wrap_i64]) | refine AM.drawW_fine hp (by kernel_rfl) (by kernel_rfl) (by kernel_rfl) ?_ | refine AM.opW_tied (by kernel_rfl) ?_ | refine AM.opW_untied (by kernel_rfl) ?_))
  exact hq
/-- What the document finds at a number. -/
def rkind (L : List (List UInt8)) (i : Int) : UInt8 := if 0 ≤ i ∧ i < (L.length * (L.getD 0 []).length : Nat) then (L.getD (i.toNat / (L.getD 0 []).length) []).getD (i.toNat % (L.getD 0 []).length) 0 else 0
theorem refKind_w {h : AHeap} {p : Nat} {lv : Value} {L : List (List UInt8)} (m : Rp h p lv L) (hL : 0 < L.length) (hb : L.length ≤ 4000000 ∧ (L.getD 0 []).length ≤ 4000000) (hall : ∀ T ∈ L, T.length = (L.getD 0 []).length) (i : Int) {Q : VQ} (hq : Q (bV (rkind L i)) h) : W 74 [pv p, .int .i64 i] h Q := by
  have hg := m.1
  have hr := m.2.1.rd
  obtain ⟨la, lc, rfl⟩ := m.2.1.form
  refine AM.enter hp (fn := Tryd.f74) (rs := [.tmp 4]) (nt := 28) (by kernel_rfl) Tryd.func74 rfl rfl rfl (by kernel_rfl) ?_
  unfold rkind at hq
  by_cases h0 : i < 0
  · rw [if_neg (by omega)] at hq
    (first | (simp (maxSteps := 1000000) (disch := first | omega | (simp only [AM.DB, List.length_set, List.length_map]; first | done | omega)) only [AM.RB, Nat.reduceAdd, Nat.reduceMul, Nat.reduceEqDiff, reduceCtorEq, b74_G9, decide_eq_true h0]) | skip); (repeat' (first | ((first | refine AM.guard_spl ?_ ?_ | refine AM.cond_spl ?_ ?_ | refine AM.guard_b ?_ ?_ | refine AM.cond_b ?_ ?_) <;> (intro hd hp_; simp (maxSteps := 1000000) (disch := first | omega | (simp only [AM.DB, List.length_set, List.length_map]; first | done | omega)) only [AM.RB, Nat.reduceAdd, Nat.reduceMul, Nat.reduceEqDiff, reduceCtorEq, b74_G9, hd, decide_eq_true h0])) | ((first | refine AM.drawW_loose (id := 3) hp (by kernel_rfl) (by kernel_rfl) ?_ | refine AM.opW_tied (by kernel_rfl) ?_ | refine AM.opW_untied (by kernel_rfl) ?_ | refine AM.build_w ?_); simp (maxSteps := 1000000) (disch := first | omega | (simp only [AM.DB, List.length_set, List.length_map]; first | done | omega)) only [AM.RB, Nat.reduceAdd, Nat.reduceMul, Nat.reduceEqDiff, reduceCtorEq, b74_G9, decide_eq_true h0])))
    exact hq
  · (repeat' (first | (simp (maxSteps := 1000000) (disch := first | omega | (simp only [AM.DB, List.length_set, List.length_map]; first | done | omega)) only [AM.RB, Nat.reduceAdd, Nat.reduceMul, Nat.reduceEqDiff, reduceCtorEq, b74_G9, decide_eq_false h0]) | refine AM.drawW_loose (id := 3) hp (by kernel_rfl) (by kernel_rfl) ?_ | refine AM.opW_tied (by kernel_rfl) ?_ | refine AM.opW_untied (by kernel_rfl) ?_))
    refine refCells_w m hL hb ?_
    by_cases h1 : i < (L.length * (L.getD 0 []).length : Nat)
    · have hd1 := decide_eq_false (show ¬ ((L.length * (L.getD 0 []).length : Nat) : Int) ≤ i by omega)
      rw [if_pos ⟨by omega, h1⟩] at hq
      obtain ⟨n, rfl⟩ := Int.eq_ofNat_of_zero_le (show 0 ≤ i by omega)
      have hC : 0 < (L.getD 0 []).length := by
        rcases Nat.eq_zero_or_pos (L.getD 0 []).length with e | e
        · rw [e, Nat.mul_zero] at h1; omega
        · exact e
      have hdiv : n / (L.getD 0 []).length < L.length := by
        rw [Nat.div_lt_iff_lt_mul hC]; omega
      have hmod : n % (L.getD 0 []).length < (L.getD 0 []).length := Nat.mod_lt _ hC
      have et : IntKind.i64.wrap ((n : Int).tdiv (L.getD 0 []).length) = ((n / (L.getD 0 []).length : Nat) : Int) := by
        rw [Int.tdiv_eq_ediv_of_nonneg (by omega), AM.wrap_i64]
        · rfl
        · exact Int.le_trans (by omega) (Int.ediv_nonneg (by omega) (by omega))
        · have := Int.ediv_le_self (b := ((L.getD 0 []).length : Int)) (show (0 : Int) ≤ n by omega) 
          have hbb : (L.length * (L.getD 0 []).length : Nat) ≤ 4000000 * 4000000 := Nat.mul_le_mul hb.1 hb.2
          omega
      have em : (n : Int).tmod (L.getD 0 []).length = ((n % (L.getD 0 []).length : Nat) : Int) := by
        rw [Int.tmod_eq_emod_of_nonneg (by omega)]; rfl
      have hrow : (L.getD (n / (L.getD 0 []).length) []).length = (L.getD 0 []).length := hall _ (by rw [show L.getD (n / (L.getD 0 []).length) [] = L[n / (L.getD 0 []).length] from by rw [List.getD, List.getElem?_eq_getElem hdiv]; rfl]; exact List.getElem_mem _)
      rw [Int.toNat_natCast] at hq
      generalize n / (L.getD 0 []).length = qd at *
      generalize n % (L.getD 0 []).length = qm at *
      (repeat' (first | (simp (maxSteps := 1000000) (disch := first | omega | (simp only [AM.DB, List.length_set, List.length_map]; first | done | omega)) only [AM.RB, Nat.reduceAdd, Nat.reduceMul, Nat.reduceEqDiff, reduceCtorEq, b74_G9, hd1, hg]) | refine AM.drawW_loose (id := 3) hp (by kernel_rfl) (by kernel_rfl) ?_ | refine AM.opW_tied (by kernel_rfl) ?_ | refine AM.opW_untied (by kernel_rfl) ?_))
      refine refCols_w m hL ?_
      have hC' : ((L.getD 0 []).length : Int) ≠ 0 := by omega
      (repeat' (first | (simp (maxSteps := 1000000) (disch := first | omega | (simp only [AM.DB, List.length_set, List.length_map]; first | done | omega)) only [AM.RB, Nat.reduceAdd, Nat.reduceMul, Nat.reduceEqDiff, reduceCtorEq, b74_G9, et, hr.ia el_118, Rd.ldst hr lk_9, Int.toNat_natCast]) | refine AM.drawW_loose (id := 3) hp (by kernel_rfl) (by kernel_rfl) ?_ | refine AM.opW_tied (by kernel_rfl) ?_ | refine AM.opW_untied (by kernel_rfl) ?_))
      refine refCols_w m hL ?_
      (repeat' (first | (simp (maxSteps := 1000000) (disch := first | omega | (simp only [AM.DB, List.length_set, List.length_map]; first | done | omega)) only [AM.RB, Nat.reduceAdd, Nat.reduceMul, Nat.reduceEqDiff, reduceCtorEq, b74_G9, em, hrow, Int.toNat_natCast]) | refine AM.drawW_loose (id := 3) hp (by kernel_rfl) (by kernel_rfl) ?_ | refine AM.opW_tied (by kernel_rfl) ?_ | refine AM.opW_untied (by kernel_rfl) ?_))
      refine ⟨AM.looseOk_by [(3, [0, 7, 13]), (9, [7, 13])] (by kernel_rfl) ?_, ?_⟩
      · simp (maxSteps := 1000000) (disch := first | omega | (simp only [AM.DB, List.length_set, List.length_map]; first | done | omega)) only [AM.RB, Nat.reduceAdd, Nat.reduceMul, Nat.reduceEqDiff, reduceCtorEq, b74_G9]
        have hpl := AM.get_some_lt hg
        (repeat' apply And.intro) <;> (first | (refine AM.stable_len _ _ _ _ _ _ (fun _ => ?_); (simp (maxSteps := 1000000) (disch := first | omega | (simp only [AM.DB, List.length_set, List.length_map]; first | done | omega)) only [AM.RB, Nat.reduceAdd, Nat.reduceMul, Nat.reduceEqDiff, reduceCtorEq, b74_G9, hg, hr.ia el_118, Rd.ldst hr lk_9])) | (refine AM.stable_load _ _ _ _ _ _ ?_; (first | (simp (maxSteps := 1000000) (disch := first | omega | (simp only [AM.DB, List.length_set, List.length_map]; first | done | omega)) only [AM.RB, Nat.reduceAdd, Nat.reduceMul, Nat.reduceEqDiff, reduceCtorEq, b74_G9, hg, hr.ia el_118, Rd.ldst hr lk_9]) | skip); (first | (refine AM.stabL_int (by omega) ?_; (simp (maxSteps := 1000000) (disch := first | omega | (simp only [AM.DB, List.length_set, List.length_map]; first | done | omega)) only [AM.RB, Nat.reduceAdd, Nat.reduceMul, Nat.reduceEqDiff, reduceCtorEq, b74_G9, hg, hr.ia el_118, Rd.ldst hr lk_9])) | (refine AM.stabL_ptr (by omega) (by omega) ?_; (simp (maxSteps := 1000000) (disch := first | omega | (simp only [AM.DB, List.length_set, List.length_map]; first | done | omega)) only [AM.RB, Nat.reduceAdd, Nat.reduceMul, Nat.reduceEqDiff, reduceCtorEq, b74_G9, hg, hr.ia el_118, Rd.ldst hr lk_9])) | (refine AM.stabL_string (by omega) ?_; (simp (maxSteps := 1000000) (disch := first | omega | (simp only [AM.DB, List.length_set, List.length_map]; first | done | omega)) only [AM.RB, Nat.reduceAdd, Nat.reduceMul, Nat.reduceEqDiff, reduceCtorEq, b74_G9, hg, hr.ia el_118, Rd.ldst hr lk_9])) | (refine AM.stabL_bool (by omega) ?_; (simp (maxSteps := 1000000) (disch := first | omega | (simp only [AM.DB, List.length_set, List.length_map]; first | done | omega)) only [AM.RB, Nat.reduceAdd, Nat.reduceMul, Nat.reduceEqDiff, reduceCtorEq, b74_G9, hg, hr.ia el_118, Rd.ldst hr lk_9])) | (refine AM.stabL_rd hr (by omega) (by omega) ?_; (simp (maxSteps := 1000000) (disch := first | omega | (simp only [AM.DB, List.length_set, List.length_map]; first | done | omega)) only [AM.RB, Nat.reduceAdd, Nat.reduceMul, Nat.reduceEqDiff, reduceCtorEq, b74_G9, hg, hr.ia el_118, Rd.ldst hr lk_9])) | (refine AM.stabL_elS hr (by omega) (by omega) ?_; (simp (maxSteps := 1000000) (disch := first | omega | (simp only [AM.DB, List.length_set, List.length_map]; first | done | omega)) only [AM.RB, Nat.reduceAdd, Nat.reduceMul, Nat.reduceEqDiff, reduceCtorEq, b74_G9, hg, hr.ia el_118, Rd.ldst hr lk_9])) | (refine AM.stabL_elI hr (by omega) (by omega) ?_; (simp (maxSteps := 1000000) (disch := first | omega | (simp only [AM.DB, List.length_set, List.length_map]; first | done | omega)) only [AM.RB, Nat.reduceAdd, Nat.reduceMul, Nat.reduceEqDiff, reduceCtorEq, b74_G9, hg, hr.ia el_118, Rd.ldst hr lk_9])))))
      · exact hq
    · have hd1 := decide_eq_true (show ((L.length * (L.getD 0 []).length : Nat) : Int) ≤ i by omega)
      rw [if_neg (fun q => h1 q.2)] at hq
      (first | (simp (maxSteps := 1000000) (disch := first | omega | (simp only [AM.DB, List.length_set, List.length_map]; first | done | omega)) only [AM.RB, Nat.reduceAdd, Nat.reduceMul, Nat.reduceEqDiff, reduceCtorEq, b74_G9, hd1]) | skip); (repeat' (first | ((first | refine AM.guard_spl ?_ ?_ | refine AM.cond_spl ?_ ?_ | refine AM.guard_b ?_ ?_ | refine AM.cond_b ?_ ?_) <;> (intro hd hp_; simp (maxSteps := 1000000) (disch := first | omega | (simp only [AM.DB, List.length_set, List.length_map]; first | done | omega)) only [AM.RB, Nat.reduceAdd, Nat.reduceMul, Nat.reduceEqDiff, reduceCtorEq, b74_G9, hd, hd1])) | ((first | refine AM.drawW_loose (id := 3) hp (by kernel_rfl) (by kernel_rfl) ?_ | refine AM.opW_tied (by kernel_rfl) ?_ | refine AM.opW_untied (by kernel_rfl) ?_ | refine AM.build_w ?_); simp (maxSteps := 1000000) (disch := first | omega | (simp only [AM.DB, List.length_set, List.length_map]; first | done | omega)) only [AM.RB, Nat.reduceAdd, Nat.reduceMul, Nat.reduceEqDiff, reduceCtorEq, b74_G9, hd1])))
      exact hq

end Go.Proofs.YtbaohngkapmhlaaDoor
