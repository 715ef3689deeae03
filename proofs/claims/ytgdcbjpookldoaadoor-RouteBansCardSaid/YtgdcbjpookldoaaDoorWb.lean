/- Walks of this claim's functions, and plain laws. -/
import Derived.Test.YtgdcbjpookldoaaDoorWa
import Derived.Test.YtgdcbjpookldoaaDoorAMOps10
set_option linter.unusedSimpArgs false
set_option linter.unusedVariables false
namespace Go.Proofs.YtgdcbjpookldoaaDoor
open Go.AM
set_option maxRecDepth 8000
theorem b51_G5 : type_of% (And.intro (@List.map_toArray.{0,0}) (And.intro (@AM.boxK_agg) (And.intro (@AM.boxK_bool) (And.intro (@AM.boxK_func) (And.intro (@AM.boxK_int) (And.intro (@AM.boxK_map) (And.intro (@AM.boxK_pointer) (And.intro (@AM.boxK_slice) (And.intro (@AM.boxK_string) (And.intro (@AM.op_box) (@AM.op_makeFunc))))))))))) := And.intro (@List.map_toArray.{0,0}) (And.intro (@AM.boxK_agg) (And.intro (@AM.boxK_bool) (And.intro (@AM.boxK_func) (And.intro (@AM.boxK_int) (And.intro (@AM.boxK_map) (And.intro (@AM.boxK_pointer) (And.intro (@AM.boxK_slice) (And.intro (@AM.boxK_string) (And.intro (@AM.op_box) (@AM.op_makeFunc))))))))))
theorem b14_G5 : type_of% (And.intro (@AM.aMin_int) (And.intro (@AM.alK_some) (And.intro (@al_23) (And.intro (@al_24) (And.intro (@al_3) (And.intro (@AM.bdV_some) (And.intro (@bd_84) (And.intro (@AM.bin_add) (And.intro (@AM.bin_eql) (And.intro (@AM.bin_gtr) (And.intro (@AM.boxK_agg) (And.intro (@AM.boxK_bool) (And.intro (@AM.boxK_func) (And.intro (@AM.boxK_int) (And.intro (@AM.boxK_map) (And.intro (@AM.boxK_pointer) (And.intro (@AM.boxK_slice) (And.intro (@AM.boxK_string) (And.intro (@AM.fa_ptr) (And.intro (@fd_84_0) (And.intro (@fd_84_1) (And.intro (@fd_84_2) (And.intro (@AM.fillL_cons) (And.intro (@AM.fillL_nil) (And.intro (@AM.fillS_agg) (And.intro (@AM.fillS_bool) (And.intro (@AM.fillS_func) (And.intro (@AM.fillS_int) (And.intro (@AM.fillS_map) (And.intro (@AM.fillS_pointer) (And.intro (@AM.fillS_slice) (And.intro (@AM.fillS_string) (And.intro (@AM.ldO_agg) (And.intro (@AM.ldO_one) (And.intro (@AM.ld_ptr) (And.intro (AM.len_slice ul_22) (And.intro (@lk_23) (And.intro (@lk_24) (And.intro (@lk_3) (And.intro (@lk_52) (And.intro (@AM.op_alloc) (And.intro (@AM.op_append) (And.intro (@AM.op_binOp) (And.intro (@AM.op_box) (And.intro (@AM.op_build) (And.intro (@AM.op_call) (And.intro (@AM.op_fieldAddr) (And.intro (@AM.op_len) (And.intro (@AM.op_load) (And.intro (@AM.op_min2) (And.intro (@AM.op_nilCheck) (And.intro (@AM.op_slice) (And.intro (@AM.op_store) (And.intro (@AM.resL_four) (And.intro (@AM.res_cell) (And.intro (@AM.slbs_hi_i) (And.intro (@AM.slbs_lh_i) (And.intro (@AM.slbs_lo_i) (And.intro (@AM.stO_agg) (And.intro (@AM.stO_bool) (And.intro (@AM.stO_int) (And.intro (@AM.stO_map) (And.intro (@AM.stO_pointer) (And.intro (@AM.stO_slice) (And.intro (@AM.stO_string) (And.intro (@AM.st_ptr) (And.intro (AM.str_cut ul_9) (And.intro (@AM.str_eql) (And.intro (AM.str_len ul_9) (And.intro (@sz_23) (And.intro (@sz_24) (And.intro (@sz_3) (@sz_52))))))))))))))))))))))))))))))))))))))))))))))))))))))))))))))))))))))))) := And.intro (@AM.aMin_int) (And.intro (@AM.alK_some) (And.intro (@al_23) (And.intro (@al_24) (And.intro (@al_3) (And.intro (@AM.bdV_some) (And.intro (@bd_84) (And.intro (@AM.bin_add) (And.intro (@AM.bin_eql) (And.intro (@AM.bin_gtr) (And.intro (@AM.boxK_agg) (And.intro (@AM.boxK_bool) (And.intro (@AM.boxK_func) (And.intro (@AM.boxK_int) (And.intro (@AM.boxK_map) (And.intro (@AM.boxK_pointer) (And.intro (@AM.boxK_slice) (And.intro (@AM.boxK_string) (And.intro (@AM.fa_ptr) (And.intro (@fd_84_0) (And.intro (@fd_84_1) (And.intro (@fd_84_2) (And.intro (@AM.fillL_cons) (And.intro (@AM.fillL_nil) (And.intro (@AM.fillS_agg) (And.intro (@AM.fillS_bool) (And.intro (@AM.fillS_func) (And.intro (@AM.fillS_int) (And.intro (@AM.fillS_map) (And.intro (@AM.fillS_pointer) (And.intro (@AM.fillS_slice) (And.intro (@AM.fillS_string) (And.intro (@AM.ldO_agg) (And.intro (@AM.ldO_one) (And.intro (@AM.ld_ptr) (And.intro (AM.len_slice ul_22) (And.intro (@lk_23) (And.intro (@lk_24) (And.intro (@lk_3) (And.intro (@lk_52) (And.intro (@AM.op_alloc) (And.intro (@AM.op_append) (And.intro (@AM.op_binOp) (And.intro (@AM.op_box) (And.intro (@AM.op_build) (And.intro (@AM.op_call) (And.intro (@AM.op_fieldAddr) (And.intro (@AM.op_len) (And.intro (@AM.op_load) (And.intro (@AM.op_min2) (And.intro (@AM.op_nilCheck) (And.intro (@AM.op_slice) (And.intro (@AM.op_store) (And.intro (@AM.resL_four) (And.intro (@AM.res_cell) (And.intro (@AM.slbs_hi_i) (And.intro (@AM.slbs_lh_i) (And.intro (@AM.slbs_lo_i) (And.intro (@AM.stO_agg) (And.intro (@AM.stO_bool) (And.intro (@AM.stO_int) (And.intro (@AM.stO_map) (And.intro (@AM.stO_pointer) (And.intro (@AM.stO_slice) (And.intro (@AM.stO_string) (And.intro (@AM.st_ptr) (And.intro (AM.str_cut ul_9) (And.intro (@AM.str_eql) (And.intro (AM.str_len ul_9) (And.intro (@sz_23) (And.intro (@sz_24) (And.intro (@sz_3) (@sz_52))))))))))))))))))))))))))))))))))))))))))))))))))))))))))))))))))))))))


/-! ### Parse -/
def colsI (ls : List (List UInt8)) (i : Nat) : Nat := if i = 0 then 32 else min 32 (lineT (ls.getD 0 [])).length
def kindsI (ls : List (List UInt8)) : Nat → List UInt8
  | 0 => []
  | i + 1 => kindsI ls i ++ (ls.getD i []).take (colsI ls 1)
def errI (ls : List (List UInt8)) (i : Nat) : Int := if 32 < i + 1 then 1 else rowE (ls.getD i []) (colsI ls 1)
def okI (ls : List (List UInt8)) (i : Nat) : Prop := ∀ k, k < i → errI ls k = 0
theorem rowP_pos : ∀ (k : Nat) (t : List UInt8) (c : Int) (i j : Nat), rowP t c k i = some j → 0 < j
  | 0, _, _, _, _, h => by cases h
  | k + 1, t, c, i, j, h => by
    rw [rowP] at h
    split at h
    · cases h; omega
    · exact rowP_pos k t c (i + 1) j h
theorem rowE_nonneg (l : List UInt8) (c : Int) : 0 ≤ rowE l c := by
  unfold rowE
  split
  · omega
  · split <;> omega
theorem lineT_le (l : List UInt8) : (lineT l).length ≤ l.length := by unfold lineT; split <;> simp
theorem rowE_zero {l : List UInt8} {c : Int} (h : rowE l c = 0) : sufB l [10] = true ∧ c ≤ (lineT l).length ∧ 0 < (lineT l).length ∧ rowP (lineT l) c (lineT l).length 0 = none := by
  unfold rowE at h
  split at h
  · rename_i i hi
    have := rowP_pos _ _ _ _ _ hi
    omega
  · rename_i hn
    split at h
    · omega
    · rename_i hc
      refine ⟨?_, ?_, ?_, hn⟩
      · cases hs : sufB l [10] with
        | true => rfl
        | false => exact absurd (.inl hs) hc
      · by_cases q : (lineT l).length < c
        · exact absurd (.inr (.inl q)) hc
        · omega
      · by_cases q : (lineT l).length = 0
        · exact absurd (.inr (.inr q)) hc
        · omega
theorem okI_succ {ls : List (List UInt8)} {i : Nat} (h : okI ls i) (h0 : errI ls i = 0) : okI ls (i + 1) := fun k hk => by
  by_cases e : k = i
  · subst e; exact h0
  · exact h k (by omega)
theorem kindsI_len (ls : List (List UInt8)) : ∀ i, okI ls i → (kindsI ls i).length = i * colsI ls 1
  | 0, _ => by simp [kindsI]
  | i + 1, h => by
    have ih := kindsI_len ls i fun k hk => h k (by omega)
    have h0 := h i (by omega)
    unfold errI at h0
    split at h0
    · omega
    · obtain ⟨_, h2, _⟩ := rowE_zero h0
      have := lineT_le (ls.getD i [])
      rw [kindsI, List.length_append, ih, List.length_take, Nat.add_mul, Nat.one_mul]; omega
theorem okI_le {ls : List (List UInt8)} {i : Nat} (h : okI ls i) : i ≤ 32 := by
  by_cases q : i ≤ 32
  · exact q
  · have := h 32 (by omega)
    unfold errI at this
    rw [if_pos (by omega)] at this; cases this
theorem colsI_le (ls : List (List UInt8)) (i : Nat) : colsI ls i ≤ 32 := by unfold colsI; split <;> omega
theorem linesL_mem : ∀ (n : Nat) (l x : List UInt8), x ∈ linesL n l → x.length ≤ l.length ∧ x ≠ []
  | 0, _, _, h => by cases h
  | n + 1, l, x, h => by
    rw [linesL] at h
    split at h
    · cases h
    · rename_i hl
      split at h
      · rename_i i hi
        rcases List.mem_cons.1 h with rfl | h
        · exact ⟨by simp; exact Nat.min_le_right _ _, fun e => by
            have := congrArg List.length e
            have hlt : i < l.length := (List.findIdx?_eq_some_iff_getElem.1 hi).1
            rw [List.length_take, List.length_nil] at this; omega⟩
        · obtain ⟨h1, h2⟩ := linesL_mem n _ x h
          exact ⟨by simp at h1; omega, h2⟩
      · rw [List.mem_singleton] at h; subst h; exact ⟨Nat.le_refl _, hl⟩
abbrev tl0 : List Value := [.int .u32 0, .int .i32 0, .int .u32 0, .slice none 0 0, .slice none 0 0]

theorem linesC_w (l : List UInt8) {h : AHeap} {Q : VQ} (hq : ∀ h', h'.get h.next = some (.cells [strV l] 9 false) → Fr none' h h' → h'.next = h.next + 1 → h'.low = h.low → Q (.func (.func 77) #[] #[.pointer (some ⟨h.next, 0, none⟩)]) h') : W 51 [strV l] h Q := by
  refine AM.enter hp (fn := Tryd.f51) (rs := [.tmp 2]) (nt := 4) (by kernel_rfl) Tryd.func51 rfl rfl rfl (by kernel_rfl) ?_
  simp (maxSteps := 1000000) (disch := first | omega | (simp only [AM.DB, List.length_set, List.length_map]; first | done | omega)) only [AM.RB, Nat.reduceAdd, Nat.reduceMul, Nat.reduceEqDiff, reduceCtorEq, b51_G5]
  generalize hE_ : AHeap.alloc h _ = h1; obtain ⟨g1, fr1, n1, l1⟩ := AM.new_get hE_; clear hE_
  exact hq _ g1 fr1 n1 l1

def ParK (h : AHeap) (L : Nat) (ls : List (List UInt8)) (i : Nat) (S : Nat → Prop) (h' : AHeap) : Prop :=
  Fr none' h h' ∧ h'.get h.next = some (.cells [pv (h.next + 4)] 23 false) ∧ h'.get (h.next + 1) = some (.cells [.int .i64 0] 3 false) ∧ h'.get (h.next + 2) = some (.cells [.int .i64 0] 3 false) ∧ h'.get (h.next + 3) = some (.cells [.int .i64 0] 24 false) ∧
    okI ls i ∧ S h.next ∧ S (h.next + 1) ∧ S (h.next + 2) ∧ S (h.next + 3) ∧ S (h.next + 4) ∧ ∃ kv, Mp h' (h.next + 4) kv i (colsI ls i) (kindsI ls i) tl0 ∧ ∀ id, idOf kv id → S id ∧ L ≤ id
def ParE (h : AHeap) (ls : List (List UInt8)) (S : Nat → Prop) (h' : AHeap) : Prop :=
  ∃ i, i < ls.length ∧ okI ls i ∧ errI ls i ≠ 0 ∧ Fr none' h h' ∧ h'.get h.next = some (.cells [.pointer none] 23 false) ∧ h'.get (h.next + 1) = some (.cells [.int .i64 ((i : Int) + 1)] 3 false) ∧ h'.get (h.next + 2) = some (.cells [.int .i64 (errI ls i)] 3 false) ∧ h'.get (h.next + 3) = some (.cells [.int .i64 10] 24 false) ∧ S h.next ∧ S (h.next + 1) ∧ S (h.next + 2) ∧ S (h.next + 3)
theorem ParK.keep {h : AHeap} {L : Nat} {ls : List (List UInt8)} {i : Nat} {S : Nat → Prop} {h1 h2 : AHeap} (k : ParK h L ls i S h1) (hS : ∀ id, S id → h2.get id = h1.get id) (hB : ∀ id, id < h.next → h2.get id = h1.get id) (hn : h1.next ≤ h2.next) (hl : h2.low = h1.low) : ParK h L ls i S h2 := by
  obtain ⟨fr, k1, k2, k3, k4, ok, s1, s2, s3, s4, s5, kv, m, hid⟩ := k
  refine ⟨fr.ext' hB hn hl, by rw [hS _ s1]; exact k1, by rw [hS _ s2]; exact k2, by rw [hS _ s3]; exact k3, by rw [hS _ s4]; exact k4, ok, s1, s2, s3, s4, s5, kv, ⟨by rw [hS _ s5]; exact m.1, m.2.1.same (fun id q => hS id (hid id q).1) hl, m.2.2.1, by rw [hl]; exact m.2.2.2.1, m.2.2.2.2⟩, hid⟩
theorem ParE.keep {h : AHeap} {ls : List (List UInt8)} {S : Nat → Prop} {h1 h2 : AHeap} (k : ParE h ls S h1) (hS : ∀ id, S id → h2.get id = h1.get id) (hB : ∀ id, id < h.next → h2.get id = h1.get id) (hn : h1.next ≤ h2.next) (hl : h2.low = h1.low) : ParE h ls S h2 := by
  obtain ⟨i, hi, ok, he, fr, k1, k2, k3, k4, s1, s2, s3, s4⟩ := k
  exact ⟨i, hi, ok, he, fr.ext' hB hn hl, by rw [hS _ s1]; exact k1, by rw [hS _ s2]; exact k2, by rw [hS _ s3]; exact k3, by rw [hS _ s4]; exact k4, s1, s2, s3, s4⟩

set_option maxHeartbeats 4000000 in
theorem parse_w (l : List UInt8) (hl : l.length ≤ 9223372036854775807) {h : AHeap} (hlow : h.low ≤ h.next) {Q : VQ}
    (h0 : l = [] → ∀ h', Fr none' h h' → Q (.tuple #[.pointer none, .int .i64 1, .int .i64 1, .int .i64 10]) h')
    (hbad : ∀ i, i < (linesL l.length l).length → okI (linesL l.length l) i → errI (linesL l.length l) i ≠ 0 → ∀ h', Fr none' h h' → Q (.tuple #[.pointer none, .int .i64 ((i : Int) + 1), .int .i64 (errI (linesL l.length l) i), .int .i64 10]) h')
    (hnone : l ≠ [] → okI (linesL l.length l) (linesL l.length l).length → allP (kindsI (linesL l.length l) (linesL l.length l).length) (kindsI (linesL l.length l) (linesL l.length l).length).length = [] → ∀ h', Fr none' h h' → Q (.tuple #[.pointer none, .int .i64 0, .int .i64 0, .int .i64 10]) h')
    (hok : l ≠ [] → okI (linesL l.length l) (linesL l.length l).length → allP (kindsI (linesL l.length l) (linesL l.length l).length) (kindsI (linesL l.length l) (linesL l.length l).length).length ≠ [] → ∀ p kv h', Mp h' p kv (linesL l.length l).length (colsI (linesL l.length l) 1) (kindsI (linesL l.length l) (linesL l.length l).length) tl0 → Fr none' h h' → h.next ≤ p → (∀ id, idOf kv id → h.next ≤ id) → Q (.tuple #[pv p, .int .i64 0, .int .i64 0, .int .i64 0]) h') :
    W 14 [strV l] h Q := by
  refine AM.enter hp (fn := Tryd.f14) (rs := [.cell 2 23, .cell 3 3, .cell 4 3, .cell 5 24]) (nt := 75) (by kernel_rfl) Tryd.func14 rfl rfl rfl (by kernel_rfl) ?_
  simp (maxSteps := 1000000) (disch := first | omega | (simp only [AM.DB, List.length_set, List.length_map]; first | done | omega)) only [AM.RB, Nat.reduceAdd, Nat.reduceMul, Nat.reduceEqDiff, reduceCtorEq, b14_G5]
  refine AM.condV_split (fun he => ?_) (fun hne => ?_)
  · simp (maxSteps := 1000000) (disch := first | omega | (simp only [AM.DB, List.length_set, List.length_map]; first | done | omega)) only [AM.RB, Nat.reduceAdd, Nat.reduceMul, Nat.reduceEqDiff, reduceCtorEq, b14_G5]
    refine h0 he _ ?_
    exact (((((((Fr.refl _ _).alloc _).alloc _).alloc _).alloc _).put _ (.inl (by omega))).put _ (.inl (by omega))).put _ (.inl (by omega)) |>.put _ (.inl (by omega))
  (repeat' (first | (simp (maxSteps := 1000000) (disch := first | omega | (simp only [AM.DB, List.length_set, List.length_map]; first | done | omega)) only [AM.RB, Nat.reduceAdd, Nat.reduceMul, Nat.reduceEqDiff, reduceCtorEq, b14_G5]) | refine AM.drawW_loose (id := 8) hp (by kernel_rfl) (by kernel_rfl) ?_ | refine AM.drawW_loose (id := 10) hp (by kernel_rfl) (by kernel_rfl) ?_ | refine AM.drawW_loose (id := 13) hp (by kernel_rfl) (by kernel_rfl) ?_ | refine AM.drawW_loose (id := 14) hp (by kernel_rfl) (by kernel_rfl) ?_ | refine AM.opW_tied (by kernel_rfl) ?_ | refine AM.opW_untied (by kernel_rfl) ?_ | refine AM.build_w ?_))
  simp only [Nat.add_assoc, Nat.reduceAdd]
  generalize hE_ : AHeap.put _ h.next _ = h1
  have fr1 : Fr none' h h1 := by
    rw [← hE_]
    exact ((((((Fr.refl _ _).alloc _).alloc _).alloc _).alloc _).alloc _).put _ (.inl (Nat.le_refl _))
  have n1 : h1.next = h.next + 5 := by rw [← hE_]; rfl
  have l1 : h1.low = h.low := by rw [← hE_]; rfl
  have f0 : h1.get h.next = some (.cells [pv (h.next + 4)] 23 false) := by rw [← hE_]; simp (maxSteps := 1000000) (disch := first | omega | (simp only [AM.DB, List.length_set, List.length_map]; first | done | omega)) only [AM.RB, Nat.reduceAdd, Nat.reduceMul, Nat.reduceEqDiff, reduceCtorEq, b14_G5]
  have f1 : h1.get (h.next + 1) = some (.cells [.int .i64 0] 3 false) := by rw [← hE_]; simp (maxSteps := 1000000) (disch := first | omega | (simp only [AM.DB, List.length_set, List.length_map]; first | done | omega)) only [AM.RB, Nat.reduceAdd, Nat.reduceMul, Nat.reduceEqDiff, reduceCtorEq, b14_G5]
  have f2 : h1.get (h.next + 2) = some (.cells [.int .i64 0] 3 false) := by rw [← hE_]; simp (maxSteps := 1000000) (disch := first | omega | (simp only [AM.DB, List.length_set, List.length_map]; first | done | omega)) only [AM.RB, Nat.reduceAdd, Nat.reduceMul, Nat.reduceEqDiff, reduceCtorEq, b14_G5]
  have f3 : h1.get (h.next + 3) = some (.cells [.int .i64 0] 24 false) := by rw [← hE_]; simp (maxSteps := 1000000) (disch := first | omega | (simp only [AM.DB, List.length_set, List.length_map]; first | done | omega)) only [AM.RB, Nat.reduceAdd, Nat.reduceMul, Nat.reduceEqDiff, reduceCtorEq, b14_G5]
  have f4 : h1.get (h.next + 4) = some (.cells (.int .i64 (0 : Nat) :: .int .i64 (32 : Nat) :: .slice none 0 0 :: tl0) 84 false) := by rw [← hE_]; simp (maxSteps := 1000000) (disch := first | omega | (simp only [AM.DB, List.length_set, List.length_map]; first | done | omega)) only [AM.RB, Nat.reduceAdd, Nat.reduceMul, Nat.reduceEqDiff, reduceCtorEq, b14_G5]
  clear hE_
  refine linesC_w l fun h2 gw fr2 n2 l2 => ?_
  have hw1 : h1.next = h.next + 5 := n1
  rw [n1] at gw ⊢
  replace f0 := f0.fr0 fr2
  replace f1 := f1.fr0 fr2
  replace f2 := f2.fr0 fr2
  replace f3 := f3.fr0 fr2
  replace f4 := f4.fr0 fr2
  have fr02 := fr1.trans fr2
  have hl2 := hlow.fr0 fr02
  generalize hls : linesL l.length l = ls at *
  have hmem : ∀ x ∈ ls, x.length ≤ l.length ∧ x ≠ [] := fun x hx => by rw [← hls] at hx; exact linesL_mem _ _ _ hx
  simp (maxSteps := 1000000) (disch := first | omega | (simp only [AM.DB, List.length_set, List.length_map]; first | done | omega)) only [AM.RB, Nat.reduceAdd, Nat.reduceMul, Nat.reduceEqDiff, reduceCtorEq, b14_G5]
  refine AM.range_iter3 hp (R := fun _ => False) (A0 := fun id => id = h.next + 5) (xs := ls.map fun x => [strV x]) (AM.entersV_of Tryd.func77 rfl) (by kernel_rfl) (by kernel_rfl) ?_ ?_ hl2 ?_ ?_
    (fun i => AM.JKW h2.next (fun id => id = h.next + 5) (ParK h h2.next ls i)) (fun x => fun A h' => x = .ret ∧ AM.JKW h2.next (fun id => id = h.next + 5) (ParE h ls) A h') ?_ ?_
    (fun i x e A h' => AM.Sh e 75 [(2, pv h.next), (3, pv (h.next + 1)), (4, pv (h.next + 2)), (5, pv (h.next + 3)), (6, x.getD 0 undef)] ∧ AM.JKW h2.next (fun id => id = h.next + 5) (ParK h h2.next ls i) A h') ?_ ?_ ?_ ?_ ?_ ?_
  · intro x hx; obtain ⟨q, _, rfl⟩ := List.mem_map.1 hx; rfl
  · intro id q; exact q.elim
  · rintro id rfl; omega
  · rw [← hls]
    exact lines1_w gw (by omega) (by omega)
  · exact fun i => AM.JKW.stab fun S a b hB hk hS hBl hn' hl' => hk.keep hS (fun id q => hBl id (by omega) (by omega)) hn' hl'
  · exact fun x => AM.Stab.and (AM.JKW.stab fun S a b hB hk hS hBl hn' hl' => hk.keep hS (fun id q => hBl id (by omega) (by omega)) hn' hl')
  · exact fun i x e => AM.Stab.and (AM.JKW.stab fun S a b hB hk hS hBl hn' hl' => hk.keep hS (fun id q => hBl id (by omega) (by omega)) hn' hl')
  · rintro i x A h3 hx ⟨hB, hA, S, hk, hS⟩ hA1 hL3 hlow3 hR3
    rw [List.getElem?_map] at hx
    obtain ⟨q, hq', rfl⟩ := Option.map_eq_some_iff.1 hx
    simp (maxSteps := 1000000) (disch := first | omega | (simp only [AM.DB, List.length_set, List.length_map]; first | done | omega)) only [AM.RB, Nat.reduceAdd, Nat.reduceMul, Nat.reduceEqDiff, reduceCtorEq, b14_G5]
    exact ⟨Nat.le_refl _, fun _ _ _ => trivial, hB, hA, S, hk, hS⟩
  · intro o
    refine ⟨Nat.le_succ _, fun id e => by rcases e with e | e; exact .inl e; exact .inr (by omega), fun id => id < h.next + 5 ∧ h.next ≤ id, ⟨fr02.alloc _, ?_, ?_, ?_, ?_, fun k hk => by omega, by omega, by omega, by omega, by omega, by omega, .slice none 0 0, ⟨?_, Ow.nil _ _ _, rfl, by simp only [AM.lw_alloc]; omega, fun q => q⟩, fun _ q => q.elim⟩, fun id q => ⟨by simp only [AM.nx_alloc]; omega, by omega⟩⟩
    · rw [AM.get_alloc_ne (by omega)]; exact f0
    · rw [AM.get_alloc_ne (by omega)]; exact f1
    · rw [AM.get_alloc_ne (by omega)]; exact f2
    · rw [AM.get_alloc_ne (by omega)]; exact f3
    · rw [AM.get_alloc_ne (by omega)]; exact f4
  · rintro i x e A h3 hx ⟨he, hB, hA, S, ⟨fr3, k0, k1, k2, k3, ok, s0, s1, s2, s3, s4, kv, m, hid⟩, hS⟩ hA1 hL3 hlow3 hR3
    obtain ⟨ρ, rfl⟩ := he.open'
    rw [List.getElem?_map] at hx
    obtain ⟨q, hq', rfl⟩ := Option.map_eq_some_iff.1 hx
    obtain ⟨hql, hqne⟩ := hmem q (List.mem_of_getElem? hq')
    have hgq : ls.getD i [] = q := by simp [List.getD, hq']
    have hils : i < ls.length := (List.getElem?_eq_some_iff.1 hq').1
    have ok32 := okI_le ok
    have hgm := m.1
    have hlw : h3.low ≤ h.next := by omega
    have hlt3 : h.next + 5 ≤ h3.next := by have := AM.get_some_lt hgm; omega
    have hAs : ∀ id, S id → ¬ A id := fun id q => (hS id q).2
    have hAlt : ∀ id, A id → h.next + 5 ≤ id := fun id q => by rcases hA id q with q | q <;> omega
    have hkv : ∀ id, idOf kv id → id ≠ h.next ∧ id ≠ h.next + 1 ∧ id ≠ h.next + 2 ∧ id ≠ h.next + 3 ∧ id ≠ h.next + 4 := fun id q => by have := (hid id q).2; omega
    have hc1 : colsI ls 1 = min 32 (lineT q).length ∨ i ≠ 0 := by
      by_cases e : i = 0
      · left; subst e; unfold colsI; rw [if_neg (by omega), hgq]
      · exact .inr e
    have hcs : i ≠ 0 → colsI ls i = colsI ls 1 := fun e => by unfold colsI; rw [if_neg e, if_neg (by omega)]
    have hc32 := colsI_le ls 1
    by_cases hi0 : i = 0
    case' pos =>
      have hc1 := hc1.resolve_right (fun q => q hi0)
      have hd1 : decide ((i : Int) + 1 = 1) = true := decide_eq_true (by omega)
      (repeat' (first | (simp (maxSteps := 1000000) (disch := first | omega | (simp only [AM.DB, List.length_set, List.length_map]; first | done | omega)) only [AM.RB, Nat.reduceAdd, Nat.reduceMul, Nat.reduceEqDiff, reduceCtorEq, b14_G5, k0, hgm, AM.wrap_i64, hd1]) | refine AM.drawW_loose (id := 8) hp (by kernel_rfl) (by kernel_rfl) ?_ | refine AM.drawW_loose (id := 10) hp (by kernel_rfl) (by kernel_rfl) ?_ | refine AM.drawW_loose (id := 13) hp (by kernel_rfl) (by kernel_rfl) ?_ | refine AM.drawW_loose (id := 14) hp (by kernel_rfl) (by kernel_rfl) ?_ | refine AM.opW_tied (by kernel_rfl) ?_ | refine AM.opW_untied (by kernel_rfl) ?_ | refine AM.build_w ?_))
      generalize hE_ : AHeap.put h3 _ _ = h4; obtain ⟨g4, fr4, n4, l4⟩ := AM.put_get hE_ (by omega); clear hE_
      have k04 := fr4.get k0 (by omega)
      (repeat' (first | (simp (maxSteps := 1000000) (disch := first | omega | (simp only [AM.DB, List.length_set, List.length_map]; first | done | omega)) only [AM.RB, Nat.reduceAdd, Nat.reduceMul, Nat.reduceEqDiff, reduceCtorEq, b14_G5, k04, g4, AM.wrap_i64, hd1]) | refine AM.drawW_loose (id := 8) hp (by kernel_rfl) (by kernel_rfl) ?_ | refine AM.drawW_loose (id := 10) hp (by kernel_rfl) (by kernel_rfl) ?_ | refine AM.drawW_loose (id := 13) hp (by kernel_rfl) (by kernel_rfl) ?_ | refine AM.drawW_loose (id := 14) hp (by kernel_rfl) (by kernel_rfl) ?_ | refine AM.opW_tied (by kernel_rfl) ?_ | refine AM.opW_untied (by kernel_rfl) ?_ | refine AM.build_w ?_))
      refine trim_w q [10] (by omega) _ _ ?_
      have etr : (if sufB q [10] = true then q.take (q.length - [(10 : UInt8)].length) else q) = lineT q := rfl
      rw [etr]
      have emin : min (32 : Int) ((lineT q).length : Int) = (colsI ls 1 : Int) := by rw [hc1]; omega
      (repeat' (first | (simp (maxSteps := 1000000) (disch := first | omega | (simp only [AM.DB, List.length_set, List.length_map]; first | done | omega)) only [AM.RB, Nat.reduceAdd, Nat.reduceMul, Nat.reduceEqDiff, reduceCtorEq, b14_G5, k04, g4, emin]) | refine AM.drawW_loose (id := 8) hp (by kernel_rfl) (by kernel_rfl) ?_ | refine AM.drawW_loose (id := 10) hp (by kernel_rfl) (by kernel_rfl) ?_ | refine AM.drawW_loose (id := 13) hp (by kernel_rfl) (by kernel_rfl) ?_ | refine AM.drawW_loose (id := 14) hp (by kernel_rfl) (by kernel_rfl) ?_ | refine AM.opW_tied (by kernel_rfl) ?_ | refine AM.opW_untied (by kernel_rfl) ?_ | refine AM.build_w ?_))
      generalize hE_ : AHeap.put h4 _ _ = h5; obtain ⟨g5, fr5, n5, l5⟩ := AM.put_get hE_ (by omega); clear hE_
      have k05 := fr5.get k04 (by omega)
      refine ⟨AM.looseOk_by [(0, [0, 3])] (by kernel_rfl) ?_, ?_⟩
      · simp (maxSteps := 1000000) (disch := first | omega | (simp only [AM.DB, List.length_set, List.length_map]; first | done | omega)) only [AM.RB, Nat.reduceAdd, Nat.reduceMul, Nat.reduceEqDiff, reduceCtorEq, b14_G5]
        (repeat' apply And.intro) <;> (first | (refine AM.stable_len _ _ _ _ _ _ (fun _ => ?_); (simp (maxSteps := 1000000) (disch := first | omega | (simp only [AM.DB, List.length_set, List.length_map]; first | done | omega)) only [AM.RB, Nat.reduceAdd, Nat.reduceMul, Nat.reduceEqDiff, reduceCtorEq, b14_G5, k04, k05])) | (refine AM.stable_load _ _ _ _ _ _ ?_; (first | (simp (maxSteps := 1000000) (disch := first | omega | (simp only [AM.DB, List.length_set, List.length_map]; first | done | omega)) only [AM.RB, Nat.reduceAdd, Nat.reduceMul, Nat.reduceEqDiff, reduceCtorEq, b14_G5, k04, k05]) | skip); (first | (refine AM.stabL_int (by omega) ?_; (simp (maxSteps := 1000000) (disch := first | omega | (simp only [AM.DB, List.length_set, List.length_map]; first | done | omega)) only [AM.RB, Nat.reduceAdd, Nat.reduceMul, Nat.reduceEqDiff, reduceCtorEq, b14_G5, k04, k05])) | (refine AM.stabL_ptr (by omega) (by omega) ?_; (simp (maxSteps := 1000000) (disch := first | omega | (simp only [AM.DB, List.length_set, List.length_map]; first | done | omega)) only [AM.RB, Nat.reduceAdd, Nat.reduceMul, Nat.reduceEqDiff, reduceCtorEq, b14_G5, k04, k05])) | (refine AM.stabL_string (by omega) ?_; (simp (maxSteps := 1000000) (disch := first | omega | (simp only [AM.DB, List.length_set, List.length_map]; first | done | omega)) only [AM.RB, Nat.reduceAdd, Nat.reduceMul, Nat.reduceEqDiff, reduceCtorEq, b14_G5, k04, k05])) | (refine AM.stabL_bool (by omega) ?_; (simp (maxSteps := 1000000) (disch := first | omega | (simp only [AM.DB, List.length_set, List.length_map]; first | done | omega)) only [AM.RB, Nat.reduceAdd, Nat.reduceMul, Nat.reduceEqDiff, reduceCtorEq, b14_G5, k04, k05])))))
      have fr35 : Fr (fun k => k = h.next + 4) h3 h5 := fr4.trans fr5
    case' neg =>
      have hd1 : decide ((i : Int) + 1 = 1) = false := decide_eq_false (by omega)
      rw [hcs hi0] at hgm
      (repeat' (first | (simp (maxSteps := 1000000) (disch := first | omega | (simp only [AM.DB, List.length_set, List.length_map]; first | done | omega)) only [AM.RB, Nat.reduceAdd, Nat.reduceMul, Nat.reduceEqDiff, reduceCtorEq, b14_G5, k0, hgm, AM.wrap_i64, hd1]) | refine AM.drawW_loose (id := 8) hp (by kernel_rfl) (by kernel_rfl) ?_ | refine AM.drawW_loose (id := 10) hp (by kernel_rfl) (by kernel_rfl) ?_ | refine AM.drawW_loose (id := 13) hp (by kernel_rfl) (by kernel_rfl) ?_ | refine AM.drawW_loose (id := 14) hp (by kernel_rfl) (by kernel_rfl) ?_ | refine AM.opW_tied (by kernel_rfl) ?_ | refine AM.opW_untied (by kernel_rfl) ?_ | refine AM.build_w ?_))
      generalize hE_ : AHeap.put h3 _ _ = h5; obtain ⟨g5, fr5, n5, l5⟩ := AM.put_get hE_ (by omega); clear hE_
      have k05 := fr5.get k0 (by omega)
      have fr35 : Fr (fun k => k = h.next + 4) h3 h5 := fr5
    all_goals (
      have gi := g5
      have frA : Fr (fun k => h.next ≤ k ∧ k ≤ h.next + 4) h3 h5 := fr35.mono fun k _ q => by omega
      have nA : h5.next = h3.next := by omega
      have lA : h5.low = h3.low := frA.low
      have k15 := fr35.get k1 (by omega)
      have k25 := fr35.get k2 (by omega)
      have k35 := fr35.get k3 (by omega)
      have mo := m.2.1.fr fr35 (fun id q e => by have := hkv id q; omega)
      have fr35' := fr35
      have k1' := k1
      have k2' := k2
      have k3' := k3
      clear fr35 g5 k0 k1 k2 k3 hgm)
    all_goals (
      by_cases hov : (32 : Int) < (i : Int) + 1
      · first | (exfalso; omega) | skip
        all_goals (
          have herr : errI ls i = 1 := by unfold errI; rw [if_pos (by omega)]
          have hd33 := decide_eq_true hov
          (repeat' (first | (simp (maxSteps := 1000000) (disch := first | omega | (simp only [AM.DB, List.length_set, List.length_map]; first | done | omega)) only [AM.RB, Nat.reduceAdd, Nat.reduceMul, Nat.reduceEqDiff, reduceCtorEq, b14_G5, hd33, k05, gi, k15, k25, k35]) | refine AM.drawW_loose (id := 8) hp (by kernel_rfl) (by kernel_rfl) ?_ | refine AM.drawW_loose (id := 10) hp (by kernel_rfl) (by kernel_rfl) ?_ | refine AM.drawW_loose (id := 13) hp (by kernel_rfl) (by kernel_rfl) ?_ | refine AM.drawW_loose (id := 14) hp (by kernel_rfl) (by kernel_rfl) ?_ | refine AM.opW_tied (by kernel_rfl) ?_ | refine AM.opW_untied (by kernel_rfl) ?_ | refine AM.build_w ?_))
          refine ⟨AM.looseOk_by [(3, [0, 5])] (by kernel_rfl) ?_, ?_⟩
          · simp (maxSteps := 1000000) (disch := first | omega | (simp only [AM.DB, List.length_set, List.length_map]; first | done | omega)) only [AM.RB, Nat.reduceAdd, Nat.reduceMul, Nat.reduceEqDiff, reduceCtorEq, b14_G5]
            (repeat' apply And.intro) <;> (first | (refine AM.stable_len _ _ _ _ _ _ (fun _ => ?_); (simp (maxSteps := 1000000) (disch := first | omega | (simp only [AM.DB, List.length_set, List.length_map]; first | done | omega)) only [AM.RB, Nat.reduceAdd, Nat.reduceMul, Nat.reduceEqDiff, reduceCtorEq, b14_G5, k05, gi, k15, k25, k35])) | (refine AM.stable_load _ _ _ _ _ _ ?_; (first | (simp (maxSteps := 1000000) (disch := first | omega | (simp only [AM.DB, List.length_set, List.length_map]; first | done | omega)) only [AM.RB, Nat.reduceAdd, Nat.reduceMul, Nat.reduceEqDiff, reduceCtorEq, b14_G5, k05, gi, k15, k25, k35]) | skip); (first | (refine AM.stabL_int (by omega) ?_; (simp (maxSteps := 1000000) (disch := first | omega | (simp only [AM.DB, List.length_set, List.length_map]; first | done | omega)) only [AM.RB, Nat.reduceAdd, Nat.reduceMul, Nat.reduceEqDiff, reduceCtorEq, b14_G5, k05, gi, k15, k25, k35])) | (refine AM.stabL_ptr (by omega) (by omega) ?_; (simp (maxSteps := 1000000) (disch := first | omega | (simp only [AM.DB, List.length_set, List.length_map]; first | done | omega)) only [AM.RB, Nat.reduceAdd, Nat.reduceMul, Nat.reduceEqDiff, reduceCtorEq, b14_G5, k05, gi, k15, k25, k35])) | (refine AM.stabL_string (by omega) ?_; (simp (maxSteps := 1000000) (disch := first | omega | (simp only [AM.DB, List.length_set, List.length_map]; first | done | omega)) only [AM.RB, Nat.reduceAdd, Nat.reduceMul, Nat.reduceEqDiff, reduceCtorEq, b14_G5, k05, gi, k15, k25, k35])) | (refine AM.stabL_bool (by omega) ?_; (simp (maxSteps := 1000000) (disch := first | omega | (simp only [AM.DB, List.length_set, List.length_map]; first | done | omega)) only [AM.RB, Nat.reduceAdd, Nat.reduceMul, Nat.reduceEqDiff, reduceCtorEq, b14_G5, k05, gi, k15, k25, k35])))))
          generalize hE_ : AHeap.put _ (h.next + 3) _ = h9
          have e0 : h9.get h.next = some (.cells [.pointer none] 23 false) := by rw [← hE_]; simp (maxSteps := 1000000) (disch := first | omega | (simp only [AM.DB, List.length_set, List.length_map]; first | done | omega)) only [AM.RB, Nat.reduceAdd, Nat.reduceMul, Nat.reduceEqDiff, reduceCtorEq, b14_G5]
          have e1 : h9.get (h.next + 1) = some (.cells [.int .i64 ((i : Int) + 1)] 3 false) := by rw [← hE_]; simp (maxSteps := 1000000) (disch := first | omega | (simp only [AM.DB, List.length_set, List.length_map]; first | done | omega)) only [AM.RB, Nat.reduceAdd, Nat.reduceMul, Nat.reduceEqDiff, reduceCtorEq, b14_G5]
          have e2 : h9.get (h.next + 2) = some (.cells [.int .i64 (errI ls i)] 3 false) := by rw [← hE_, herr]; simp (maxSteps := 1000000) (disch := first | omega | (simp only [AM.DB, List.length_set, List.length_map]; first | done | omega)) only [AM.RB, Nat.reduceAdd, Nat.reduceMul, Nat.reduceEqDiff, reduceCtorEq, b14_G5]
          have e3 : h9.get (h.next + 3) = some (.cells [.int .i64 10] 24 false) := by rw [← hE_]; simp (maxSteps := 1000000) (disch := first | omega | (simp only [AM.DB, List.length_set, List.length_map]; first | done | omega)) only [AM.RB, Nat.reduceAdd, Nat.reduceMul, Nat.reduceEqDiff, reduceCtorEq, b14_G5]
          have frB : Fr (fun k => h.next ≤ k ∧ k ≤ h.next + 4) h3 h9 := by
            rw [← hE_]
            exact (((frA.put _ (.inr (by omega))).put _ (.inr (by omega))).put _ (.inr (by omega))).put _ (.inr (by omega))
          have nB : h9.next = h3.next := by rw [← hE_]; simpa using nA
          have lB := frB.low
          clear hE_
          refine ⟨by omega, by omega, fun id q1 q2 => frB.old id q1 fun q3 => by have := hAlt id (by simpa using q2); omega, by omega, hA, S, ⟨i, hils, ok, by omega, fr3.fresh frB (fun id q => q.1), e0, e1, e2, e3, s0, s1, s2, s3⟩, fun id q => ⟨by have := (hS id q).1; omega, (hS id q).2⟩⟩)
      have hd33 := decide_eq_false hov
      (repeat' (first | (simp (maxSteps := 1000000) (disch := first | omega | (simp only [AM.DB, List.length_set, List.length_map]; first | done | omega)) only [AM.RB, Nat.reduceAdd, Nat.reduceMul, Nat.reduceEqDiff, reduceCtorEq, b14_G5, hd33, k05, gi]) | refine AM.drawW_loose (id := 8) hp (by kernel_rfl) (by kernel_rfl) ?_ | refine AM.drawW_loose (id := 10) hp (by kernel_rfl) (by kernel_rfl) ?_ | refine AM.drawW_loose (id := 13) hp (by kernel_rfl) (by kernel_rfl) ?_ | refine AM.drawW_loose (id := 14) hp (by kernel_rfl) (by kernel_rfl) ?_ | refine AM.opW_tied (by kernel_rfl) ?_ | refine AM.opW_untied (by kernel_rfl) ?_ | refine AM.build_w ?_))
      refine row_w q (colsI ls 1) ⟨by omega, by omega⟩ (by omega) _ _ ?_
      have hrn := rowE_nonneg q (colsI ls 1)
      have herr : errI ls i = rowE q (colsI ls 1) := by unfold errI; rw [if_neg (by omega), hgq]
      by_cases hce : 0 < rowE q (colsI ls 1)
      · have hd34 := decide_eq_true hce
        (repeat' (first | (simp (maxSteps := 1000000) (disch := first | omega | (simp only [AM.DB, List.length_set, List.length_map]; first | done | omega)) only [AM.RB, Nat.reduceAdd, Nat.reduceMul, Nat.reduceEqDiff, reduceCtorEq, b14_G5, hd34, k05, gi, k15, k25, k35]) | refine AM.drawW_loose (id := 8) hp (by kernel_rfl) (by kernel_rfl) ?_ | refine AM.drawW_loose (id := 10) hp (by kernel_rfl) (by kernel_rfl) ?_ | refine AM.drawW_loose (id := 13) hp (by kernel_rfl) (by kernel_rfl) ?_ | refine AM.drawW_loose (id := 14) hp (by kernel_rfl) (by kernel_rfl) ?_ | refine AM.opW_tied (by kernel_rfl) ?_ | refine AM.opW_untied (by kernel_rfl) ?_ | refine AM.build_w ?_))
        refine ⟨AM.looseOk_by [(3, [0, 6])] (by kernel_rfl) ?_, ?_⟩
        · simp (maxSteps := 1000000) (disch := first | omega | (simp only [AM.DB, List.length_set, List.length_map]; first | done | omega)) only [AM.RB, Nat.reduceAdd, Nat.reduceMul, Nat.reduceEqDiff, reduceCtorEq, b14_G5]
          (repeat' apply And.intro) <;> (first | (refine AM.stable_len _ _ _ _ _ _ (fun _ => ?_); (simp (maxSteps := 1000000) (disch := first | omega | (simp only [AM.DB, List.length_set, List.length_map]; first | done | omega)) only [AM.RB, Nat.reduceAdd, Nat.reduceMul, Nat.reduceEqDiff, reduceCtorEq, b14_G5, k05, gi, k15, k25, k35])) | (refine AM.stable_load _ _ _ _ _ _ ?_; (first | (simp (maxSteps := 1000000) (disch := first | omega | (simp only [AM.DB, List.length_set, List.length_map]; first | done | omega)) only [AM.RB, Nat.reduceAdd, Nat.reduceMul, Nat.reduceEqDiff, reduceCtorEq, b14_G5, k05, gi, k15, k25, k35]) | skip); (first | (refine AM.stabL_int (by omega) ?_; (simp (maxSteps := 1000000) (disch := first | omega | (simp only [AM.DB, List.length_set, List.length_map]; first | done | omega)) only [AM.RB, Nat.reduceAdd, Nat.reduceMul, Nat.reduceEqDiff, reduceCtorEq, b14_G5, k05, gi, k15, k25, k35])) | (refine AM.stabL_ptr (by omega) (by omega) ?_; (simp (maxSteps := 1000000) (disch := first | omega | (simp only [AM.DB, List.length_set, List.length_map]; first | done | omega)) only [AM.RB, Nat.reduceAdd, Nat.reduceMul, Nat.reduceEqDiff, reduceCtorEq, b14_G5, k05, gi, k15, k25, k35])) | (refine AM.stabL_string (by omega) ?_; (simp (maxSteps := 1000000) (disch := first | omega | (simp only [AM.DB, List.length_set, List.length_map]; first | done | omega)) only [AM.RB, Nat.reduceAdd, Nat.reduceMul, Nat.reduceEqDiff, reduceCtorEq, b14_G5, k05, gi, k15, k25, k35])) | (refine AM.stabL_bool (by omega) ?_; (simp (maxSteps := 1000000) (disch := first | omega | (simp only [AM.DB, List.length_set, List.length_map]; first | done | omega)) only [AM.RB, Nat.reduceAdd, Nat.reduceMul, Nat.reduceEqDiff, reduceCtorEq, b14_G5, k05, gi, k15, k25, k35])))))
        generalize hE_ : AHeap.put _ (h.next + 3) _ = h9
        have e0 : h9.get h.next = some (.cells [.pointer none] 23 false) := by rw [← hE_]; simp (maxSteps := 1000000) (disch := first | omega | (simp only [AM.DB, List.length_set, List.length_map]; first | done | omega)) only [AM.RB, Nat.reduceAdd, Nat.reduceMul, Nat.reduceEqDiff, reduceCtorEq, b14_G5]
        have e1 : h9.get (h.next + 1) = some (.cells [.int .i64 ((i : Int) + 1)] 3 false) := by rw [← hE_]; simp (maxSteps := 1000000) (disch := first | omega | (simp only [AM.DB, List.length_set, List.length_map]; first | done | omega)) only [AM.RB, Nat.reduceAdd, Nat.reduceMul, Nat.reduceEqDiff, reduceCtorEq, b14_G5]
        have e2 : h9.get (h.next + 2) = some (.cells [.int .i64 (errI ls i)] 3 false) := by rw [← hE_, herr]; simp (maxSteps := 1000000) (disch := first | omega | (simp only [AM.DB, List.length_set, List.length_map]; first | done | omega)) only [AM.RB, Nat.reduceAdd, Nat.reduceMul, Nat.reduceEqDiff, reduceCtorEq, b14_G5]
        have e3 : h9.get (h.next + 3) = some (.cells [.int .i64 10] 24 false) := by rw [← hE_]; simp (maxSteps := 1000000) (disch := first | omega | (simp only [AM.DB, List.length_set, List.length_map]; first | done | omega)) only [AM.RB, Nat.reduceAdd, Nat.reduceMul, Nat.reduceEqDiff, reduceCtorEq, b14_G5]
        have frB : Fr (fun k => h.next ≤ k ∧ k ≤ h.next + 4) h3 h9 := by
          rw [← hE_]
          exact (((frA.put _ (.inr (by omega))).put _ (.inr (by omega))).put _ (.inr (by omega))).put _ (.inr (by omega))
        have nB : h9.next = h3.next := by rw [← hE_]; simpa using nA
        have lB := frB.low
        clear hE_
        refine ⟨by omega, by omega, fun id q1 q2 => frB.old id q1 fun q3 => by have := hAlt id (by simpa using q2); omega, by omega, hA, S, ⟨i, hils, ok, by omega, fr3.fresh frB (fun id q => q.1), e0, e1, e2, e3, s0, s1, s2, s3⟩, fun id q => ⟨by have := (hS id q).1; omega, (hS id q).2⟩⟩
      have hd34 := decide_eq_false hce
      have herr0 : errI ls i = 0 := by omega
      obtain ⟨_, z2, z3, _⟩ := rowE_zero (show rowE q (colsI ls 1) = 0 by omega)
      have zl := lineT_le q
      obtain ⟨ka, kc, rfl⟩ := mo.form
      have hkl := kindsI_len ls i ok
      have hkb : (kindsI ls i).length ≤ 32 * 32 := by rw [hkl]; exact Nat.mul_le_mul (by omega) hc32
      have tc : (q.take (colsI ls 1)).length = colsI ls 1 := by rw [List.length_take]; omega
      (repeat' (first | (simp (maxSteps := 1000000) (disch := first | omega | (simp only [AM.DB, List.length_set, List.length_map]; first | done | omega)) only [AM.RB, Nat.reduceAdd, Nat.reduceMul, Nat.reduceEqDiff, reduceCtorEq, b14_G5, hd34, k05, gi, Int.toNat_natCast, Nat.sub_zero]) | refine AM.drawW_loose (id := 8) hp (by kernel_rfl) (by kernel_rfl) ?_ | refine AM.drawW_loose (id := 10) hp (by kernel_rfl) (by kernel_rfl) ?_ | refine AM.drawW_loose (id := 13) hp (by kernel_rfl) (by kernel_rfl) ?_ | refine AM.drawW_loose (id := 14) hp (by kernel_rfl) (by kernel_rfl) ?_ | refine AM.opW_tied (by kernel_rfl) ?_ | refine AM.opW_untied (by kernel_rfl) ?_ | refine AM.build_w ?_))
      refine AM.appendS_w ap_52 ul_9 mo (by omega) (AM.fits (by omega) (by omega)) (AM.fits' (by omega)) fun kv' h6 mo6 fr6 hid6 => ?_
      have k06 := fr6.get k05 (fun q => by have := hkv _ q; omega)
      have gi6 := fr6.get gi (fun q => by have := hkv _ q; omega)
      have nx6 := fr6.next
      have lo6 := fr6.low
      have lt06 := AM.get_some_lt k06
      have lti6 := AM.get_some_lt gi6
      obtain ⟨ka', kc', rfl⟩ := mo6.form
      (repeat' (first | (simp (maxSteps := 1000000) (disch := first | omega | (simp only [AM.DB, List.length_set, List.length_map]; first | done | omega)) only [AM.RB, Nat.reduceAdd, Nat.reduceMul, Nat.reduceEqDiff, reduceCtorEq, b14_G5, k06, gi6]) | refine AM.drawW_loose (id := 8) hp (by kernel_rfl) (by kernel_rfl) ?_ | refine AM.drawW_loose (id := 10) hp (by kernel_rfl) (by kernel_rfl) ?_ | refine AM.drawW_loose (id := 13) hp (by kernel_rfl) (by kernel_rfl) ?_ | refine AM.drawW_loose (id := 14) hp (by kernel_rfl) (by kernel_rfl) ?_ | refine AM.opW_tied (by kernel_rfl) ?_ | refine AM.opW_untied (by kernel_rfl) ?_ | refine AM.build_w ?_))
      generalize hE_ : AHeap.put h6 _ _ = h7; obtain ⟨g7, fr7, n7, l7⟩ := AM.put_get hE_ (by omega); clear hE_
      have k07 := fr7.get k06 (by omega)
      refine ⟨AM.looseOk_by [(0, [0, 12])] (by kernel_rfl) ?_, ?_⟩
      · simp (maxSteps := 1000000) (disch := first | omega | (simp only [AM.DB, List.length_set, List.length_map]; first | done | omega)) only [AM.RB, Nat.reduceAdd, Nat.reduceMul, Nat.reduceEqDiff, reduceCtorEq, b14_G5]
        (repeat' apply And.intro) <;> (first | (refine AM.stable_len _ _ _ _ _ _ (fun _ => ?_); (simp (maxSteps := 1000000) (disch := first | omega | (simp only [AM.DB, List.length_set, List.length_map]; first | done | omega)) only [AM.RB, Nat.reduceAdd, Nat.reduceMul, Nat.reduceEqDiff, reduceCtorEq, b14_G5, k05, k06, k07])) | (refine AM.stable_load _ _ _ _ _ _ ?_; (first | (simp (maxSteps := 1000000) (disch := first | omega | (simp only [AM.DB, List.length_set, List.length_map]; first | done | omega)) only [AM.RB, Nat.reduceAdd, Nat.reduceMul, Nat.reduceEqDiff, reduceCtorEq, b14_G5, k05, k06, k07]) | skip); (first | (refine AM.stabL_int (by omega) ?_; (simp (maxSteps := 1000000) (disch := first | omega | (simp only [AM.DB, List.length_set, List.length_map]; first | done | omega)) only [AM.RB, Nat.reduceAdd, Nat.reduceMul, Nat.reduceEqDiff, reduceCtorEq, b14_G5, k05, k06, k07])) | (refine AM.stabL_ptr (by omega) (by omega) ?_; (simp (maxSteps := 1000000) (disch := first | omega | (simp only [AM.DB, List.length_set, List.length_map]; first | done | omega)) only [AM.RB, Nat.reduceAdd, Nat.reduceMul, Nat.reduceEqDiff, reduceCtorEq, b14_G5, k05, k06, k07])) | (refine AM.stabL_string (by omega) ?_; (simp (maxSteps := 1000000) (disch := first | omega | (simp only [AM.DB, List.length_set, List.length_map]; first | done | omega)) only [AM.RB, Nat.reduceAdd, Nat.reduceMul, Nat.reduceEqDiff, reduceCtorEq, b14_G5, k05, k06, k07])) | (refine AM.stabL_bool (by omega) ?_; (simp (maxSteps := 1000000) (disch := first | omega | (simp only [AM.DB, List.length_set, List.length_map]; first | done | omega)) only [AM.RB, Nat.reduceAdd, Nat.reduceMul, Nat.reduceEqDiff, reduceCtorEq, b14_G5, k05, k06, k07])))))
      have frC : Fr (fun k => k = h.next + 4 ∨ idOf (.slice ka (kindsI ls i).length kc) k) h3 h7 := by
        have f1 : Fr (fun k => k = h.next + 4 ∨ idOf (.slice ka (kindsI ls i).length kc) k) h3 h5 := fr35'.mono fun k _ q => .inl q
        exact (f1.then fr6 fun k _ q => .inr q).then fr7 fun k _ q => .inl q
      have hidk : ∀ id, idOf (.slice ka' ((kindsI ls i).length + (q.take (colsI ls 1)).length) kc') id → h2.next ≤ id ∧ id < h6.next ∧ ¬ A id := fun id q1 => by
        refine ⟨?_, mo6.lt q1, fun e => ?_⟩
        · rcases hid6 id q1 with q1 | q1
          · exact (hid id q1).2
          · omega
        · rcases hid6 id q1 with q1 | q1
          · exact hAs _ (hid id q1).1 e
          · have := (hA1 id e).2; omega
      refine ⟨by omega, by omega, fun id q1 q2 => frC.old id q1 fun q3 => ?_, by omega, hA, fun id => S id ∨ idOf (.slice ka' ((kindsI ls i).length + (q.take (colsI ls 1)).length) kc') id, ⟨fr3.fresh frC (fun id q1 => ?_), k07, frC.get k1' ?_, frC.get k2' ?_, frC.get k3' ?_, okI_succ ok herr0, .inl s0, .inl s1, .inl s2, .inl s3, .inl s4, _, ⟨?_, ?_, rfl, by omega, fun q1 => ?_⟩, fun id q1 => ⟨.inr q1, (hidk id q1).1⟩⟩, fun id q1 => ?_⟩
      · have hA9 := hA1 id (by simpa using q2)
        rcases q3 with q3 | q3
        · rcases hA9.1 with e | e <;> omega
        · exact hAs _ (hid id q3).1 (by simpa using q2)
      · rcases q1 with q1 | q1
        · omega
        · have := (hid id q1).2; omega
      · intro q1
        rcases q1 with q1 | q1
        · omega
        · have := hkv _ q1; omega
      · intro q1
        rcases q1 with q1 | q1
        · omega
        · have := hkv _ q1; omega
      · intro q1
        rcases q1 with q1 | q1
        · omega
        · have := hkv _ q1; omega
      · have ec : colsI ls (i + 1) = colsI ls 1 := by unfold colsI; rw [if_neg (by omega), if_neg (by omega)]
        rw [ec]; exact g7
      · have ek : kindsI ls (i + 1) = kindsI ls i ++ q.take (colsI ls 1) := by rw [kindsI, hgq]
        rw [ek, List.length_append, List.map_append]
        exact mo6.fr fr7 fun id q1 e => by have := (hidk id q1).1; omega
      · have := (hidk _ q1).1; omega
      · rcases q1 with q1 | q1
        · exact ⟨by have := (hS id q1).1; omega, hAs id q1⟩
        · exact ⟨by have := (hidk id q1).2.1; omega, (hidk id q1).2.2⟩)
  · rintro A h3 ⟨hB, hA, S, ⟨fr3, k0, k1, k2, k3, ok, s0, s1, s2, s3, s4, kv, m, hid⟩, hS⟩ hA1 hL3 hlow3
    rw [List.length_map] at ok m
    have hlne : ls ≠ [] := by
      rw [← hls]
      intro e
      cases l with
      | nil => exact hne rfl
      | cons x r =>
        rw [List.length_cons, linesL, if_neg (by simp)] at e
        split at e <;> cases e
    have hR : 0 < ls.length := List.length_pos_iff.2 hlne
    have ok32 := okI_le ok
    have hc32 := colsI_le ls 1
    have hkl := kindsI_len ls ls.length ok
    have hkb : (kindsI ls ls.length).length ≤ 32 * 32 := by rw [hkl]; exact Nat.mul_le_mul (by omega) hc32
    have ec : colsI ls ls.length = colsI ls 1 := by unfold colsI; rw [if_neg (by omega), if_neg (by omega)]
    rw [ec] at m
    have hl3 := hlow.fr0 fr3
    have nx3 := fr3.next
    have lo3 := fr3.low
    have hlt3 : h.next + 5 ≤ h3.next := by have := AM.get_some_lt m.1; omega
    (repeat' (first | (simp (maxSteps := 1000000) (disch := first | omega | (simp only [AM.DB, List.length_set, List.length_map]; first | done | omega)) only [AM.RB, Nat.reduceAdd, Nat.reduceMul, Nat.reduceEqDiff, reduceCtorEq, b14_G5, k0]) | refine AM.drawW_loose (id := 8) hp (by kernel_rfl) (by kernel_rfl) ?_ | refine AM.drawW_loose (id := 10) hp (by kernel_rfl) (by kernel_rfl) ?_ | refine AM.drawW_loose (id := 13) hp (by kernel_rfl) (by kernel_rfl) ?_ | refine AM.drawW_loose (id := 14) hp (by kernel_rfl) (by kernel_rfl) ?_ | refine AM.opW_tied (by kernel_rfl) ?_ | refine AM.opW_untied (by kernel_rfl) ?_ | refine AM.build_w ?_))
    refine all_w m hR (by omega) hl3 _ fun va h4 ho4 fr4 _ => ?_
    obtain ⟨aa, ac, rfl⟩ := ho4.form
    have k04 := k0.fr0 fr4
    have k14 := k1.fr0 fr4
    have k24 := k2.fr0 fr4
    have k34 := k3.fr0 fr4
    have lt4 := AM.get_some_lt k34
    have lo4 := fr4.low
    have fr04 := fr3.trans fr4
    (first | (simp (maxSteps := 1000000) (disch := first | omega | (simp only [AM.DB, List.length_set, List.length_map]; first | done | omega)) only [AM.RB, Nat.reduceAdd, Nat.reduceMul, Nat.reduceEqDiff, reduceCtorEq, b14_G5, k04, k14, k24, k34]) | skip); (repeat' (first | ((first | refine AM.guard_spl ?_ ?_ | refine AM.cond_spl ?_ ?_ | refine AM.guard_b ?_ ?_ | refine AM.cond_b ?_ ?_) <;> (intro hd hp_; simp (maxSteps := 1000000) (disch := first | omega | (simp only [AM.DB, List.length_set, List.length_map]; first | done | omega)) only [AM.RB, Nat.reduceAdd, Nat.reduceMul, Nat.reduceEqDiff, reduceCtorEq, b14_G5, hd, k04, k14, k24, k34])) | ((first | refine AM.drawW_loose (id := 8) hp (by kernel_rfl) (by kernel_rfl) ?_ | refine AM.drawW_loose (id := 10) hp (by kernel_rfl) (by kernel_rfl) ?_ | refine AM.drawW_loose (id := 13) hp (by kernel_rfl) (by kernel_rfl) ?_ | refine AM.drawW_loose (id := 14) hp (by kernel_rfl) (by kernel_rfl) ?_ | refine AM.opW_tied (by kernel_rfl) ?_ | refine AM.opW_untied (by kernel_rfl) ?_ | refine AM.build_w ?_); simp (maxSteps := 1000000) (disch := first | omega | (simp only [AM.DB, List.length_set, List.length_map]; first | done | omega)) only [AM.RB, Nat.reduceAdd, Nat.reduceMul, Nat.reduceEqDiff, reduceCtorEq, b14_G5, k04, k14, k24, k34])))
    · refine hnone hne ok (List.eq_nil_of_length_eq_zero (by omega)) _ ((((fr04.put _ (.inl (by omega))).put _ (.inl (by omega))).put _ (.inl (by omega))).put _ (.inl (by omega)))
    · have frE : ∀ (o0 o1 o2 o3 : Option AObj), Fr (fun k => h.next ≤ k ∧ k ≤ h.next + 3) h4 ((((h4.put h.next o0).put (h.next + 1) o1).put (h.next + 2) o2).put (h.next + 3) o3) := fun o0 o1 o2 o3 => ((((Fr.refl _ h4).put _ (.inr (by omega))).put _ (.inr (by omega))).put _ (.inr (by omega))).put _ (.inr (by omega))
      refine hok hne ok (fun e => hp_ (by rw [e]; rfl)) _ kv _ ((m.fr0 fr4).fr (frE _ _ _ _) (by omega) (fun id q e => by have := (hid id q).2; omega)) ((((fr04.put _ (.inl (by omega))).put _ (.inl (by omega))).put _ (.inl (by omega))).put _ (.inl (by omega))) (by omega) (fun id q => by have := (hid id q).2; omega)
  · rintro x A h3 ⟨rfl, hB, hA, S, ⟨i, hi, ok, herr, fr3, e0, e1, e2, e3, s0, s1, s2, s3⟩, hS⟩ hA1 hL3 hlow3
    simp (maxSteps := 1000000) (disch := first | omega | (simp only [AM.DB, List.length_set, List.length_map]; first | done | omega)) only [AM.RB, Nat.reduceAdd, Nat.reduceMul, Nat.reduceEqDiff, reduceCtorEq, b14_G5, e0, e1, e2, e3]
    exact hbad i hi ok herr _ fr3

end Go.Proofs.YtgdcbjpookldoaaDoor

namespace Go.Proofs.YtgdcbjpookldoaaDoor
open Go.AM

/-! ### A Builder -/
end Go.Proofs.YtgdcbjpookldoaaDoor

namespace Go.Proofs.YtgdcbjpookldoaaDoor
open Go.AM

/-! ### Text -/
def textP (K : List UInt8) (C : Nat) : Nat → List UInt8
  | 0 => []
  | k + 1 => textP K C k ++ ((K.drop (k * C)).take C ++ [10])
end Go.Proofs.YtgdcbjpookldoaaDoor

namespace Go.Proofs.YtgdcbjpookldoaaDoor
open Go.AM

/-! ### The document's reading, byte by byte -/
inductive RefR where
  | err (a b : Int)
  | ok (L : List (List UInt8))
def refGo : List UInt8 → List (List UInt8) → List UInt8 → Bool → RefR
  | [], L, r, f => if r ≠ [] then .err (L.length + 1) (r.length + 1) else if f = true then .ok L else .err 0 0
  | c :: rest, L, r, f =>
    if 32 < L.length + 1 then .err (L.length + 1) 1
    else if c = 10 then
      (if r.length = 0 ∨ (1 < L.length + 1 ∧ r.length < (L.getD 0 []).length) then .err (L.length + 1) (r.length + 1) else refGo rest (L ++ [r]) [] f)
    else if cellB c = false ∨ 32 ≤ r.length ∨ (1 < L.length + 1 ∧ (L.getD 0 []).length ≤ r.length) then .err (L.length + 1) (r.length + 1)
    else refGo rest L (r ++ [c]) (f || !decide (c = 35))
/-- The width that a row must keep to. -/
def capL (L : List (List UInt8)) : Nat := if L.length = 0 then 32 else (L.getD 0 []).length
theorem refGo_row (L : List (List UInt8)) (T rest : List UInt8) (hL : L.length + 1 ≤ 32) (hc : capL L ≤ 32) (hT : (10 : UInt8) ∉ T) : ∀ (k i : Nat) (f : Bool), T.length - i = k → i ≤ T.length →
    refGo (T.drop i ++ rest) L (T.take i) f = match rowP T (capL L) k i with
      | some j => .err (L.length + 1) j
      | none => refGo rest L T (f || (T.drop i).any fun c => !decide (c = 35))
  | 0, i, f, hk, hi => by
    have : i = T.length := by omega
    subst this
    simp [rowP]
  | k + 1, i, f, hk, hi => by
    have hlt : i < T.length := by omega
    have hgi : T.getD i 0 = T[i] := by simp [List.getD, hlt]
    have hne : T[i] ≠ 10 := fun e => hT (by rw [← e]; exact List.getElem_mem hlt)
    have hmin : min i T.length = i := by omega
    rw [List.drop_eq_getElem_cons hlt, List.cons_append, refGo, if_neg (by omega), if_neg hne, rowP, hgi]
    have hcond : (cellB T[i] = false ∨ 32 ≤ (T.take i).length ∨ (1 < L.length + 1 ∧ (L.getD 0 []).length ≤ (T.take i).length)) ↔ (cellB T[i] = false ∨ (capL L : Int) ≤ i) := by
      rw [List.length_take, hmin]
      unfold capL at hc ⊢
      by_cases e : L.length = 0
      · rw [if_pos e]; constructor
        · rintro (q | q | q)
          · exact .inl q
          · exact .inr (by omega)
          · omega
        · rintro (q | q)
          · exact .inl q
          · exact .inr (.inl (by omega))
      · rw [if_neg e] at hc ⊢; constructor
        · rintro (q | q | q)
          · exact .inl q
          · exact .inr (by omega)
          · exact .inr (by omega)
        · rintro (q | q)
          · exact .inl q
          · exact .inr (.inr ⟨by omega, by omega⟩)
    by_cases hb : cellB T[i] = false ∨ (capL L : Int) ≤ i
    · rw [if_pos (hcond.2 hb), if_pos hb, List.length_take, hmin]; rfl
    · rw [if_neg (fun q => hb (hcond.1 q)), if_neg hb]
      have e : T.take i ++ [T[i]] = T.take (i + 1) := by rw [List.take_add_one]; simp [hlt]
      rw [e, refGo_row L T rest hL hc hT k (i + 1) _ (by omega) (by omega), List.any_cons, Bool.or_assoc]
theorem rowP_congr {T : List UInt8} {c d : Int} (h : ∀ i : Nat, i < T.length → (c ≤ i ↔ d ≤ i)) : ∀ (k i : Nat), i + k ≤ T.length → rowP T c k i = rowP T d k i
  | 0, _, _ => rfl
  | k + 1, i, hk => by
    have := h i (by omega)
    rw [rowP, rowP, rowP_congr h k (i + 1) (by omega)]
    simp only [this]
theorem rowP_none {T : List UInt8} {c : Int} : ∀ (k i : Nat), rowP T c k i = none → ∀ j : Nat, i ≤ j → j < i + k → cellB (T.getD j 0) = true ∧ (j : Int) < c
  | 0, i, _, j, h1, h2 => by omega
  | k + 1, i, h, j, h1, h2 => by
    rw [rowP] at h
    split at h
    · cases h
    · rename_i hc
      by_cases e : j = i
      · subst e
        refine ⟨?_, ?_⟩
        · cases q : cellB (T.getD j 0) with
          | true => rfl
          | false => exact absurd (.inl q) hc
        · by_cases q : c ≤ j
          · exact absurd (.inr q) hc
          · omega
      · exact rowP_none k (i + 1) h j (by omega) (by omega)

/-- One line. -/
theorem refGo_line (L : List (List UInt8)) (T rest : List UInt8) (f : Bool) (hL : L.length + 1 ≤ 32) (hc : capL L ≤ 32) (hT : (10 : UInt8) ∉ T) (hsuf : sufB (T ++ [10]) [10] = true) (hlt : lineT (T ++ [10]) = T) (C : Nat) (hC : C = if L.length = 0 then min 32 T.length else capL L) :
    refGo (T ++ 10 :: rest) L [] f = if rowE (T ++ [10]) C ≠ 0 then .err (L.length + 1) (rowE (T ++ [10]) C) else refGo rest (L ++ [T]) [] (f || T.any fun c => !decide (c = 35)) := by
  have h0 := refGo_row L T (10 :: rest) hL hc hT T.length 0 f (by omega) (by omega)
  rw [List.drop_zero, List.take_zero] at h0
  have hcg : rowP T (capL L) T.length 0 = rowP T C T.length 0 := by
    refine rowP_congr (fun i hi => ?_) _ _ (by omega)
    rw [hC]
    unfold capL
    by_cases e : L.length = 0
    · rw [if_pos e, if_pos e]; omega
    · rw [if_neg e, if_neg e]
  rw [hcg] at h0
  rw [h0]
  unfold rowE
  rw [hlt, hsuf]
  cases hr : rowP T C T.length 0 with
  | some j =>
    have := rowP_pos _ _ _ _ _ hr
    simp only
    rw [if_pos (by omega)]
  | none =>
    simp only
    rw [refGo, if_neg (by omega), if_pos rfl]
    have hcond : (T.length = 0 ∨ (1 < L.length + 1 ∧ T.length < (L.getD 0 []).length)) ↔ (true = false ∨ (T.length : Int) < C ∨ T.length = 0) := by
      rw [hC]
      unfold capL
      by_cases e : L.length = 0
      · rw [if_pos e]; constructor
        · rintro (q | q)
          · exact .inr (.inr q)
          · omega
        · rintro (q | q | q)
          · cases q
          · omega
          · exact .inl q
      · rw [if_neg e, if_neg e]; constructor
        · rintro (q | q)
          · exact .inr (.inr q)
          · exact .inr (.inl (by omega))
        · rintro (q | q | q)
          · cases q
          · exact .inr ⟨by omega, by omega⟩
          · exact .inl q
    by_cases hb : T.length = 0 ∨ (1 < L.length + 1 ∧ T.length < (L.getD 0 []).length)
    · rw [if_pos hb, if_pos (hcond.1 hb), if_pos (by omega)]
    · rw [if_neg hb, if_neg (fun q => hb (hcond.2 q)), if_neg (by simp)]
/-- The last line, if it has no end. -/
theorem refGo_last (L : List (List UInt8)) (T : List UInt8) (f : Bool) (hL : L.length + 1 ≤ 32) (hc : capL L ≤ 32) (hT : (10 : UInt8) ∉ T) (hT0 : T ≠ []) (hsuf : sufB T [10] = false) (hlt : lineT T = T) (C : Nat) (hC : C = if L.length = 0 then min 32 T.length else capL L) :
    refGo T L [] f = .err (L.length + 1) (rowE T C) := by
  have h0 := refGo_row L T [] hL hc hT T.length 0 f (by omega) (by omega)
  rw [List.drop_zero, List.take_zero, List.append_nil] at h0
  have hcg : rowP T (capL L) T.length 0 = rowP T C T.length 0 := by
    refine rowP_congr (fun i hi => ?_) _ _ (by omega)
    rw [hC]
    unfold capL
    by_cases e : L.length = 0
    · rw [if_pos e, if_pos e]; omega
    · rw [if_neg e, if_neg e]
  rw [hcg] at h0
  rw [h0]
  unfold rowE
  rw [hlt, hsuf]
  cases hr : rowP T C T.length 0 with
  | some j => rfl
  | none =>
    simp only
    rw [refGo, if_pos hT0, if_pos (.inl trivial)]

theorem sufB_snoc (T : List UInt8) : sufB (T ++ [10]) [10] = true ∧ lineT (T ++ [10]) = T := by
  have h : sufB (T ++ [10]) [10] = true := by
    unfold sufB; simp
  refine ⟨h, ?_⟩
  unfold lineT
  rw [if_pos h]; simp
theorem sufB_no {T : List UInt8} (hT : (10 : UInt8) ∉ T) : sufB T [10] = false ∧ lineT T = T := by
  have h : sufB T [10] = false := by
    cases e : sufB T [10] with
    | false => rfl
    | true =>
      unfold sufB at e
      simp only [Bool.and_eq_true, decide_eq_true_eq] at e
      exact absurd (List.mem_of_mem_drop (by rw [e.2]; simp : (10 : UInt8) ∈ T.drop (T.length - [(10 : UInt8)].length))) hT
  refine ⟨h, ?_⟩
  unfold lineT
  rw [if_neg (by rw [h]; simp)]
/-- The first line of a text. -/
theorem linesL_cons (n : Nat) (r : List UInt8) (hr : r ≠ []) (hn : r.length ≤ n) : (∃ T rest, (10 : UInt8) ∉ T ∧ r = T ++ 10 :: rest ∧ linesL n r = (T ++ [10]) :: linesL rest.length rest ∧ rest.length < r.length) ∨ ((10 : UInt8) ∉ r ∧ linesL n r = [r]) := by
  obtain ⟨m, rfl⟩ : ∃ m, n = m + 1 := ⟨n - 1, by have := List.length_pos_iff.2 hr; omega⟩
  rw [linesL, if_neg hr]
  cases hf : r.findIdx? (· == 10) with
  | none =>
    right
    refine ⟨fun q => ?_, rfl⟩
    have := List.findIdx?_eq_none_iff.1 hf 10 q
    simp at this
  | some j =>
    left
    obtain ⟨hj, h1, h2⟩ := List.findIdx?_eq_some_iff_getElem.1 hf
    have e10 : r[j] = 10 := by simpa using h1
    refine ⟨r.take j, r.drop (j + 1), fun q => ?_, ?_, ?_, ?_⟩
    · obtain ⟨i, hi, e⟩ := List.getElem_of_mem q
      simp at hi
      have := h2 i (by omega)
      rw [List.getElem_take] at e
      simp [e] at this
    · rw [← e10, ← List.drop_eq_getElem_cons hj, List.take_append_drop]
    · have e : r.take (j + 1) = r.take j ++ [10] := by rw [List.take_add_one]; simp [hj, e10]
      simp only
      rw [e, linesL_eq m _ _ (by simp; omega) (Nat.le_refl _)]
    · simp; omega


theorem colsI_one {ls : List (List UInt8)} (h0 : errI ls 0 = 0) : colsI ls 1 = (lineT (ls.getD 0 [])).length ∧ (lineT (ls.getD 0 [])).length ≤ 32 := by
  unfold errI at h0
  rw [if_neg (by omega)] at h0
  obtain ⟨_, _, _, hn⟩ := rowE_zero h0
  have h1 := rowP_none _ _ hn
  have hc : colsI ls 1 = min 32 (lineT (ls.getD 0 [])).length := by unfold colsI; rw [if_neg (by omega)]
  have : (lineT (ls.getD 0 [])).length ≤ 32 := by
    by_cases q : (lineT (ls.getD 0 [])).length ≤ 32
    · exact q
    · have := (h1 32 (by omega) (by omega)).2
      omega
  exact ⟨by omega, this⟩
abbrev freeL (T : List UInt8) : Bool := T.any fun c => !decide (c = 35)
theorem refGo_main (ls : List (List UInt8)) : ∀ (k : Nat) (r : List UInt8) (L : List (List UInt8)) (f : Bool) (i : Nat), r.length ≤ k → i = L.length → i ≤ ls.length → L = (ls.take i).map lineT → ls.drop i = linesL r.length r → okI ls i →
    (∃ j, i ≤ j ∧ j < ls.length ∧ okI ls j ∧ errI ls j ≠ 0 ∧ refGo r L [] f = .err ((j : Int) + 1) (errI ls j)) ∨
    (okI ls ls.length ∧ refGo r L [] f = if (f || (ls.drop i).any fun x => freeL (lineT x)) = true then .ok (ls.map lineT) else .err 0 0)
  | k, [], L, f, i, _, hi, hils, hL, hd, ok => by
    right
    have e : ls.drop i = [] := by rw [hd]; rfl
    have : i = ls.length := by
      have := congrArg List.length e
      simp at this; omega
    subst this
    refine ⟨ok, ?_⟩
    rw [e, refGo, if_neg (by simp)]
    rw [hL, List.take_length]; simp
  | 0, c :: r, _, _, _, h, _, _, _, _, _ => by simp at h
  | k + 1, c :: r, L, f, i, hk, hi, hils, hL, hd, ok => by
    have hlen : (ls.drop i).length = ls.length - i := by simp
    have hilt : i < ls.length := by
      rcases linesL_cons (c :: r).length (c :: r) (by simp) (Nat.le_refl _) with ⟨T, rest, _, _, e, _⟩ | ⟨_, e⟩
      · rw [hd, e] at hlen; simp at hlen; omega
      · rw [hd, e] at hlen; simp at hlen; omega
    by_cases hov : 32 < L.length + 1
    · left
      refine ⟨i, Nat.le_refl _, hilt, ok, ?_, ?_⟩
      · unfold errI; rw [if_pos (by omega)]; omega
      · unfold errI; rw [if_pos (by omega), refGo, if_pos hov, hi]
    · have hcap : capL L ≤ 32 ∧ (L.length ≠ 0 → capL L = colsI ls 1) := by
        unfold capL
        by_cases e : L.length = 0
        · rw [if_pos e]; exact ⟨Nat.le_refl _, fun q => absurd e q⟩
        · rw [if_neg e]
          have hg : L.getD 0 [] = lineT (ls.getD 0 []) := by
            rw [hL]
            have h0 : 0 < ls.length := by omega
            simp [List.getD, show 0 < i by omega, h0]
          obtain ⟨h1, h2⟩ := colsI_one (ok 0 (by omega))
          rw [hg]
          exact ⟨h2, fun _ => h1.symm⟩
      have hCi : ∀ x, ls.getD i [] = x → colsI ls 1 = if L.length = 0 then min 32 (lineT x).length else capL L := fun x hx => by
        by_cases e : L.length = 0
        · rw [if_pos e]
          have : i = 0 := by omega
          subst this
          unfold colsI; rw [if_neg (by omega), hx]
        · rw [if_neg e]; exact (hcap.2 e).symm
      have herr : ∀ x, ls.getD i [] = x → errI ls i = rowE x (colsI ls 1) := fun x hx => by
        unfold errI; rw [if_neg (by omega), hx]
      rcases linesL_cons (c :: r).length (c :: r) (by simp) (Nat.le_refl _) with ⟨T, rest, hT, er, e, hlt⟩ | ⟨hT, e⟩
      · rw [e] at hd
        have hgi : ls.getD i [] = T ++ [10] := by
          have := congrArg (fun l => l[0]?) hd
          simp at this
          simp [List.getD, this]
        obtain ⟨s1, s2⟩ := sufB_snoc T
        have hC := hCi _ hgi
        rw [s2] at hC
        have key := refGo_line L T rest f (by omega) hcap.1 hT s1 s2 (colsI ls 1) hC
        have he := herr _ hgi
        rw [er, key]
        by_cases h0 : rowE (T ++ [10]) (colsI ls 1) ≠ 0
        · left
          rw [if_pos h0]
          exact ⟨i, Nat.le_refl _, hilt, ok, by rw [he]; exact h0, by rw [he, hi]⟩
        · rw [if_neg h0]
          have h0' : errI ls i = 0 := by rw [he]; omega
          have htk : ls.take (i + 1) = ls.take i ++ [T ++ [10]] := by
            rw [List.take_add_one]
            have : ls[i]? = some (T ++ [10]) := by
              have := congrArg (fun l => l[0]?) hd
              simpa using this
            rw [this]; rfl
          have hd' : ls.drop (i + 1) = linesL rest.length rest := by
            have := congrArg List.tail hd
            simpa using this
          rcases refGo_main ls k rest (L ++ [T]) (f || freeL T) (i + 1) (by simp only [List.length_cons] at hk hlt; omega) (by simp [hi]) (by omega) (by rw [htk, List.map_append, hL]; simp [s2]) hd' (okI_succ ok h0') with ⟨j, j1, j2, j3, j4, j5⟩ | ⟨o1, o2⟩
          · exact .inl ⟨j, by omega, j2, j3, j4, j5⟩
          · right
            refine ⟨o1, ?_⟩
            rw [o2, hd', hd, List.any_cons, s2, Bool.or_assoc]
      · rw [e] at hd
        have hgi : ls.getD i [] = c :: r := by
          have := congrArg (fun l => l[0]?) hd
          simp at this
          simp [List.getD, this]
        obtain ⟨s1, s2⟩ := sufB_no hT
        have hC := hCi _ hgi
        rw [s2] at hC
        have key := refGo_last L (c :: r) f (by omega) hcap.1 hT (by simp) s1 s2 (colsI ls 1) hC
        have he := herr _ hgi
        left
        refine ⟨i, Nat.le_refl _, hilt, ok, fun q => ?_, by rw [key, he, hi]⟩
        rw [he] at q
        have := (rowE_zero q).1
        rw [s1] at this; cases this

end Go.Proofs.YtgdcbjpookldoaaDoor

namespace Go.Proofs.YtgdcbjpookldoaaDoor
open Go.AM
set_option maxRecDepth 8000
/-! ### The document's map in memory -/
def Rp (h : AHeap) (p : Nat) (lv : Value) (L : List (List UInt8)) : Prop :=
  h.get p = some (.cells [lv] 92 false) ∧ Ow h 9 1 lv L.length (L.map strV) ∧ h.low ≤ p ∧ ¬ idOf lv p
theorem Rp.fr {h h' : AHeap} {p : Nat} {lv : Value} {L : List (List UInt8)} {S : Nat → Prop} (m : Rp h p lv L) (fr : Fr S h h') (h1 : ¬ S p) (h2 : ∀ id, idOf lv id → ¬ S id) : Rp h' p lv L :=
  ⟨fr.get m.1 h1, m.2.1.fr fr h2, by rw [fr.low]; exact m.2.2.1, m.2.2.2⟩
theorem Rp.fr0 {h h' : AHeap} {p : Nat} {lv : Value} {L : List (List UInt8)} (m : Rp h p lv L) (fr : Fr none' h h') : Rp h' p lv L := m.fr fr (fun q => q) (fun _ _ q => q)
/-- What the document finds at a number. -/
def rkind (L : List (List UInt8)) (i : Int) : UInt8 := if 0 ≤ i ∧ i < (L.length * (L.getD 0 []).length : Nat) then (L.getD (i.toNat / (L.getD 0 []).length) []).getD (i.toNat % (L.getD 0 []).length) 0 else 0
end Go.Proofs.YtgdcbjpookldoaaDoor

namespace Go.Proofs.YtgdcbjpookldoaaDoor
open Go.AM
set_option maxRecDepth 8000
end Go.Proofs.YtgdcbjpookldoaaDoor

namespace Go.Proofs.YtgdcbjpookldoaaDoor
open Go.AM

/-! ### The verdict over a text -/
def verd (l : List UInt8) : RefR := if l = [] then .err 1 1 else refGo l [] [] false

theorem linesL_flat : ∀ (n : Nat) (l : List UInt8), l.length ≤ n → (linesL n l).flatten = l
  | 0, [], _ => rfl
  | 0, _ :: _, h => by simp at h
  | n + 1, l, h => by
    rw [linesL]
    split
    · rename_i e; rw [e]; rfl
    · split
      · rename_i i hi
        rw [List.flatten_cons, linesL_flat n _ (by simp; omega), List.take_append_drop]
      · simp
theorem row_facts {ls : List (List UInt8)} (ok : okI ls ls.length) {x : List UInt8} (hx : x ∈ ls) : (lineT x).length = colsI ls 1 ∧ 0 < colsI ls 1 ∧ (∀ c ∈ lineT x, cellB c = true) ∧ x = lineT x ++ [10] := by
  obtain ⟨i, hi, e⟩ := List.getElem_of_mem hx
  have hg : ls.getD i [] = x := by simp [List.getD, hi, e]
  have h0 := ok i hi
  unfold errI at h0
  split at h0
  · omega
  rw [hg] at h0
  obtain ⟨s1, s2, s3, s4⟩ := rowE_zero h0
  have hp' := rowP_none _ _ s4
  have hlen : (lineT x).length = colsI ls 1 := by
    by_cases q : (lineT x).length ≤ colsI ls 1
    · omega
    · have := (hp' (colsI ls 1) (by omega) (by omega)).2
      omega
  refine ⟨hlen, by omega, fun c hc => ?_, ?_⟩
  · obtain ⟨j, hj, rfl⟩ := List.getElem_of_mem hc
    have := (hp' j (by omega) (by omega)).1
    simpa [List.getD, hj] using this
  · unfold sufB at s1
    simp only [Bool.and_eq_true, decide_eq_true_eq] at s1
    have s1' : sufB x [10] = true := by unfold sufB; simp only [Bool.and_eq_true, decide_eq_true_eq]; exact s1
    unfold lineT
    rw [if_pos s1']
    have := List.take_append_drop (x.length - [(10 : UInt8)].length) x
    rw [s1.2] at this
    exact this.symm
theorem kindsI_flat {ls : List (List UInt8)} (ok : okI ls ls.length) : ∀ i, i ≤ ls.length → kindsI ls i = ((ls.take i).map lineT).flatten
  | 0, _ => by simp [kindsI]
  | i + 1, h => by
    have hx : ls[i] ∈ ls := List.getElem_mem (by omega)
    obtain ⟨h1, _, _, h4⟩ := row_facts ok hx
    have hg : ls.getD i [] = ls[i] := by simp [List.getD, show i < ls.length by omega]
    rw [kindsI, kindsI_flat ok i (by omega), List.take_add_one, List.map_append, List.flatten_append, hg]
    congr 1
    have : ls[i]? = some ls[i] := List.getElem?_eq_getElem (by omega)
    rw [this]
    simp only [Option.toList_some, List.map_cons, List.map_nil, List.flatten_cons, List.flatten_nil, List.append_nil]
    rw [← h1]
    generalize lineT ls[i] = T at *
    rw [h4, List.take_append_of_le_length (Nat.le_refl _), List.take_length]
theorem flat_drop {C : Nat} : ∀ (L : List (List UInt8)), (∀ T ∈ L, T.length = C) → ∀ k, k < L.length → (L.flatten.drop (k * C)).take C = L.getD k []
  | [], _, k, h => by simp at h
  | T :: L, hT, 0, _ => by
    have := hT T (by simp)
    rw [Nat.zero_mul, List.drop_zero, List.flatten_cons, ← this, List.take_append_of_le_length (Nat.le_refl _), List.take_length]; rfl
  | T :: L, hT, k + 1, h => by
    have := hT T (by simp)
    rw [List.flatten_cons, Nat.add_mul, Nat.one_mul, Nat.add_comm, ← List.drop_drop, ← this, List.drop_left, this, flat_drop L (fun T h => hT T (by simp [h])) k (by simpa using h)]; rfl
theorem flat_len {C : Nat} : ∀ (L : List (List UInt8)), (∀ T ∈ L, T.length = C) → L.flatten.length = L.length * C
  | [], _ => by simp
  | T :: L, h => by rw [List.flatten_cons, List.length_append, h T (by simp), flat_len L fun T q => h T (by simp [q]), List.length_cons, Nat.add_mul]; omega
theorem flat_get {C : Nat} {L : List (List UInt8)} (h : ∀ T ∈ L, T.length = C) (hC : 0 < C) {n : Nat} (hn : n < L.length * C) : L.flatten.getD n 0 = (L.getD (n / C) []).getD (n % C) 0 := by
  have hq : n / C < L.length := by rw [Nat.div_lt_iff_lt_mul hC]; exact hn
  rw [← flat_drop L h _ hq]
  have hm := Nat.mod_lt n hC
  have he : n / C * C + n % C = n := by rw [Nat.mul_comm]; exact Nat.div_add_mod n C
  rw [List.getD, List.getD, List.getElem?_take, if_pos hm, List.getElem?_drop, he]
theorem allP_mem (K : List UInt8) : ∀ n, (allP K n = []) ↔ ∀ i, i < n → freeP K i = false
  | 0 => by simp [allP]
  | n + 1 => by
    rw [allP, List.append_eq_nil_iff, allP_mem K n]
    constructor
    · rintro ⟨h1, h2⟩ i hi
      by_cases e : i = n
      · subst e
        cases q : freeP K i with
        | false => rfl
        | true => rw [if_pos q] at h2; cases h2
      · exact h1 i (by omega)
    · intro h
      refine ⟨fun i hi => h i (by omega), ?_⟩
      rw [if_neg (by rw [h n (by omega)]; simp)]
theorem allP_any (K : List UInt8) : (allP K K.length ≠ []) ↔ freeL K = true := by
  rw [Ne, allP_mem]
  constructor
  · intro h
    cases q : freeL K with
    | true => rfl
    | false =>
      refine absurd (fun i hi => ?_) h
      have := List.any_eq_false.1 q K[i] (List.getElem_mem hi)
      unfold freeP kindP
      rw [if_pos (by omega), Int.toNat_natCast, show K.getD i 0 = K[i] from by simp [List.getD, hi], decide_eq_true (by omega), Bool.true_and]
      simpa using this
  · intro q h
    obtain ⟨c, hc, h35⟩ := List.any_eq_true.1 q
    obtain ⟨i, hi, rfl⟩ := List.getElem_of_mem hc
    have := h i hi
    unfold freeP kindP at this
    rw [if_pos (by omega), Int.toNat_natCast, show K.getD i 0 = K[i] from by simp [List.getD, hi], h35, decide_eq_true (by omega)] at this
    cases this
theorem any_flat (L : List (List UInt8)) : freeL L.flatten = L.any freeL := by
  induction L with
  | nil => rfl
  | cons T L ih => rw [List.flatten_cons, List.any_cons, ← ih]; unfold freeL; rw [List.any_append]
/-- What a good text's rows are. -/
structure Good (l : List UInt8) (L : List (List UInt8)) : Prop where
  rows : 0 < L.length
  cols : 0 < (L.getD 0 []).length
  r32 : L.length ≤ 32
  c32 : (L.getD 0 []).length ≤ 32
  all : ∀ T ∈ L, T.length = (L.getD 0 []).length
  cell : ∀ c ∈ L.flatten, cellB c = true
  text : textP L.flatten (L.getD 0 []).length L.length = l
  some : allP L.flatten L.flatten.length ≠ []
theorem Good.len {l : List UInt8} {L : List (List UInt8)} (g : Good l L) : L.flatten.length = L.length * (L.getD 0 []).length := flat_len L g.all
theorem Good.kind {l : List UInt8} {L : List (List UInt8)} (g : Good l L) (i : Int) : rkind L i = kindP L.flatten i := by
  unfold rkind kindP
  by_cases h0 : 0 ≤ i
  · rw [if_pos h0]
    by_cases h1 : i < (L.length * (L.getD 0 []).length : Nat)
    · rw [if_pos ⟨h0, h1⟩, flat_get g.all g.cols (by omega)]
    · rw [if_neg (fun q => h1 q.2), List.getD, List.getElem?_eq_none (by rw [g.len]; omega)]; rfl
  · rw [if_neg (fun q => h0 q.1), if_neg h0]
theorem Good.free {l : List UInt8} {L : List (List UInt8)} (g : Good l L) (i : Int) : (!decide (rkind L i = 0) && !decide (rkind L i = 35)) = freeP L.flatten i := by
  rw [g.kind]
  unfold freeP
  by_cases hi : 0 ≤ i ∧ i < L.flatten.length
  · rw [decide_eq_true hi]
    have : kindP L.flatten i ≠ 0 := fun e => by
      have hc : cellB (kindP L.flatten i) = true := by
        unfold kindP
        rw [if_pos hi.1, show L.flatten.getD i.toNat 0 = L.flatten[i.toNat] from by simp only [List.getD, List.getElem?_eq_getElem (show i.toNat < L.flatten.length by omega), Option.getD_some]]
        exact g.cell _ (List.getElem_mem _)
      rw [e] at hc
      revert hc; decide
    rw [decide_eq_false this]; rfl
  · rw [decide_eq_false hi]
    have : kindP L.flatten i = 0 := by
      unfold kindP
      split
      · rw [List.getD, List.getElem?_eq_none (by omega)]; rfl
      · rfl
    rw [decide_eq_true this]; rfl
theorem good_of {ls : List (List UInt8)} (ok : okI ls ls.length) (h0 : ls ≠ []) (hf : (ls.any fun x => freeL (lineT x)) = true) : Good ls.flatten (ls.map lineT) ∧ colsI ls 1 = ((ls.map lineT).getD 0 []).length ∧ kindsI ls ls.length = (ls.map lineT).flatten := by
  have hpos := List.length_pos_iff.2 h0
  have hx0 : ls[0] ∈ ls := List.getElem_mem hpos
  have hg0 : (ls.map lineT).getD 0 [] = lineT ls[0] := by simp [List.getD, hpos]
  obtain ⟨a1, a2, a3, a4⟩ := row_facts ok hx0
  have hall : ∀ T ∈ ls.map lineT, T.length = colsI ls 1 := by
    intro T hT
    obtain ⟨x, hx, rfl⟩ := List.mem_map.1 hT
    exact (row_facts ok hx).1
  have hk := kindsI_flat ok ls.length (Nat.le_refl _)
  rw [List.take_length] at hk
  rw [hg0, a1]
  refine ⟨⟨by rw [List.length_map]; exact hpos, by rw [hg0, a1]; exact a2, by rw [List.length_map]; exact okI_le ok, by rw [hg0, a1]; exact colsI_le _ _, by rw [hg0, a1]; exact hall, ?_, ?_, ?_⟩, rfl, hk⟩
  · intro c hc
    obtain ⟨T, hT, hcT⟩ := List.mem_flatten.1 hc
    obtain ⟨x, hx, rfl⟩ := List.mem_map.1 hT
    exact (row_facts ok hx).2.2.1 c hcT
  · rw [hg0, a1, List.length_map]
    have : ∀ k, k ≤ ls.length → textP (ls.map lineT).flatten (colsI ls 1) k = (ls.take k).flatten := by
      intro k
      induction k with
      | zero => intro _; rfl
      | succ k ih =>
        intro hk'
        have hx : ls[k] ∈ ls := List.getElem_mem (by omega)
        have hq : ls[k]? = some ls[k] := List.getElem?_eq_getElem (by omega)
        rw [textP, ih (by omega), flat_drop _ hall k (by rw [List.length_map]; omega), List.take_add_one, List.flatten_append, hq]
        congr 1
        have hg : (ls.map lineT).getD k [] = lineT ls[k] := by simp [List.getD, hq]
        rw [hg, ← (row_facts ok hx).2.2.2]; simp
    rw [this _ (Nat.le_refl _), List.take_length]
  · rw [allP_any, any_flat, List.any_map]
    exact hf
theorem linesL_ne {l : List UInt8} (h : l ≠ []) : linesL l.length l ≠ [] := by
  rcases linesL_cons l.length l h (Nat.le_refl _) with ⟨T, rest, _, _, e, _⟩ | ⟨_, e⟩ <;> rw [e] <;> simp
theorem verd_ne {l : List UInt8} (h : l ≠ []) : (∃ j, j < (linesL l.length l).length ∧ okI (linesL l.length l) j ∧ errI (linesL l.length l) j ≠ 0 ∧ verd l = .err ((j : Int) + 1) (errI (linesL l.length l) j)) ∨
    (okI (linesL l.length l) (linesL l.length l).length ∧ verd l = if ((linesL l.length l).any fun x => freeL (lineT x)) = true then .ok ((linesL l.length l).map lineT) else .err 0 0) := by
  have := refGo_main (linesL l.length l) l.length l [] false 0 (Nat.le_refl _) rfl (Nat.zero_le _) (by simp) (by simp) (fun k hk => by omega)
  unfold verd
  rw [if_neg h]
  rcases this with ⟨j, _, j2, j3, j4, j5⟩ | ⟨o1, o2⟩
  · exact .inl ⟨j, j2, j3, j4, j5⟩
  · right; refine ⟨o1, ?_⟩
    rw [o2]; simp
theorem verd_good {l : List UInt8} {L : List (List UInt8)} (h : verd l = .ok L) : Good l L := by
  have hne : l ≠ [] := fun e => by unfold verd at h; rw [if_pos e] at h; cases h
  rcases verd_ne hne with ⟨j, _, _, _, e⟩ | ⟨ok, e⟩
  · rw [e] at h; cases h
  · rw [e] at h
    split at h
    · rename_i hf
      cases h
      have := (good_of ok (linesL_ne hne) hf).1
      rw [linesL_flat _ _ (Nat.le_refl _)] at this
      exact this
    · cases h
/-- The text's map, as the program reads it. -/
theorem parseV_w (l : List UInt8) (hl : l.length ≤ 9223372036854775807) {h : AHeap} (hlow : h.low ≤ h.next) {Q : VQ}
    (hbad : ∀ a b, verd l = .err a b → ∀ h', Fr none' h h' → Q (.tuple #[.pointer none, .int .i64 a, .int .i64 b, .int .i64 10]) h')
    (hok : ∀ L, verd l = .ok L → ∀ p kv h', Mp h' p kv L.length (L.getD 0 []).length L.flatten tl0 → Fr none' h h' → h.next ≤ p → (∀ id, idOf kv id → h.next ≤ id) → Q (.tuple #[pv p, .int .i64 0, .int .i64 0, .int .i64 0]) h') :
    W 14 [strV l] h Q := by
  refine parse_w l hl hlow (fun e h' fr => hbad 1 1 (by unfold verd; rw [if_pos e]) h' fr) (fun i hi ok he h' fr => ?_) (fun hne ok ha h' fr => ?_) (fun hne ok ha p kv h' m fr hp' hid => ?_)
  · have hne : l ≠ [] := fun e => by rw [e] at hi; simp [linesL] at hi
    rcases verd_ne hne with ⟨j, j1, j2, j3, e⟩ | ⟨ok', _⟩
    · have : j = i := by
        rcases Nat.lt_trichotomy j i with q | q | q
        · exact absurd (ok j q) j3
        · exact q
        · exact absurd (j2 i q) he
      subst this
      exact hbad _ _ e h' fr
    · exact absurd (ok' i hi) he
  · rcases verd_ne hne with ⟨j, j1, _, j3, e⟩ | ⟨_, e⟩
    · exact absurd (ok j j1) j3
    · refine hbad 0 0 ?_ h' fr
      rw [e, if_neg]
      intro q
      refine (allP_any _).2 ?_ ha
      rw [kindsI_flat ok _ (Nat.le_refl _), List.take_length, any_flat, List.any_map]
      exact q
  · rcases verd_ne hne with ⟨j, j1, _, j3, e⟩ | ⟨_, e⟩
    · exact absurd (ok j j1) j3
    · have hf : ((linesL l.length l).any fun x => freeL (lineT x)) = true := by
        rw [allP_any, kindsI_flat ok _ (Nat.le_refl _), List.take_length, any_flat, List.any_map] at ha
        exact ha
      rw [if_pos hf] at e
      obtain ⟨_, g2, g3⟩ := good_of ok (linesL_ne hne) hf
      refine hok _ e p kv h' ?_ fr hp' hid
      rw [List.length_map, ← g2, ← g3]
      exact m
/-! ### The free cells in order -/
theorem freeP_in {K : List UInt8} {i : Int} (h : freeP K i = true) : 0 ≤ i ∧ i < K.length := by
  unfold freeP at h
  rw [Bool.and_eq_true, decide_eq_true_eq] at h
  exact h.1
end Go.Proofs.YtgdcbjpookldoaaDoor

namespace Go.Proofs.YtgdcbjpookldoaaDoor
open Go.AM
set_option maxRecDepth 8000
theorem b86_G13 : type_of% (And.intro (@List.map_toArray.{0,0}) (And.intro (@AM.boxK_agg) (And.intro (@AM.boxK_bool) (And.intro (@AM.boxK_func) (And.intro (@AM.boxK_int) (And.intro (@AM.boxK_map) (And.intro (@AM.boxK_pointer) (And.intro (@AM.boxK_slice) (And.intro (@AM.boxK_string) (And.intro (@AM.op_box) (@AM.op_makeFunc))))))))))) := And.intro (@List.map_toArray.{0,0}) (And.intro (@AM.boxK_agg) (And.intro (@AM.boxK_bool) (And.intro (@AM.boxK_func) (And.intro (@AM.boxK_int) (And.intro (@AM.boxK_map) (And.intro (@AM.boxK_pointer) (And.intro (@AM.boxK_slice) (And.intro (@AM.boxK_string) (And.intro (@AM.op_box) (@AM.op_makeFunc))))))))))
theorem b101_G13 : type_of% (And.intro (@AM.alK_some) (And.intro (@al_123) (And.intro (@AM.bin_add) (And.intro (@AM.bin_geq) (And.intro (@AM.bin_lss) (And.intro (@AM.bin_mul) (And.intro (@AM.bin_quo) (And.intro (@AM.bin_rem) (And.intro (@AM.fa_ptr) (And.intro (@fd_123_2) (And.intro (@fd_123_3) (And.intro (@fd_84_0) (And.intro (@fd_84_1) (And.intro (@AM.ldO_agg) (And.intro (@AM.ldO_one) (And.intro (@AM.ld_ptr) (And.intro (@lk_123) (And.intro (@lk_141) (And.intro (@lk_23) (And.intro (@lk_3) (And.intro (@AM.op_alloc) (And.intro (@AM.op_binOp) (And.intro (@AM.op_call) (And.intro (@AM.op_fieldAddr) (And.intro (@AM.op_index) (And.intro (@AM.op_load) (And.intro (@AM.op_nilCheck) (And.intro (@AM.op_store) (And.intro (@AM.op_unOp) (And.intro (@AM.stO_agg) (And.intro (@AM.stO_bool) (And.intro (@AM.stO_int) (And.intro (@AM.stO_map) (And.intro (@AM.stO_pointer) (And.intro (@AM.stO_slice) (And.intro (@AM.stO_string) (And.intro (@AM.st_ptr) (And.intro (@sz_123) (And.intro (@AM.un_neg) (@AM.un_not)))))))))))))))))))))))))))))))))))))))) := And.intro (@AM.alK_some) (And.intro (@al_123) (And.intro (@AM.bin_add) (And.intro (@AM.bin_geq) (And.intro (@AM.bin_lss) (And.intro (@AM.bin_mul) (And.intro (@AM.bin_quo) (And.intro (@AM.bin_rem) (And.intro (@AM.fa_ptr) (And.intro (@fd_123_2) (And.intro (@fd_123_3) (And.intro (@fd_84_0) (And.intro (@fd_84_1) (And.intro (@AM.ldO_agg) (And.intro (@AM.ldO_one) (And.intro (@AM.ld_ptr) (And.intro (@lk_123) (And.intro (@lk_141) (And.intro (@lk_23) (And.intro (@lk_3) (And.intro (@AM.op_alloc) (And.intro (@AM.op_binOp) (And.intro (@AM.op_call) (And.intro (@AM.op_fieldAddr) (And.intro (@AM.op_index) (And.intro (@AM.op_load) (And.intro (@AM.op_nilCheck) (And.intro (@AM.op_store) (And.intro (@AM.op_unOp) (And.intro (@AM.stO_agg) (And.intro (@AM.stO_bool) (And.intro (@AM.stO_int) (And.intro (@AM.stO_map) (And.intro (@AM.stO_pointer) (And.intro (@AM.stO_slice) (And.intro (@AM.stO_string) (And.intro (@AM.st_ptr) (And.intro (@sz_123) (And.intro (@AM.un_neg) (@AM.un_not)))))))))))))))))))))))))))))))))))))))


/-! ### The sides of a cell -/
abbrev Wy := Int × Int × Int × Int
def wayV : List Wy := [(94, 118, -1, 0), (60, 62, 0, -1), (62, 60, 0, 1), (118, 94, 1, 0)]
abbrev encW (q : Wy) : List Value := [.int .u8 q.1, .int .u8 q.2.1, .int .i64 q.2.2.1, .int .i64 q.2.2.2]
def waysC : List Value := wayV.flatMap encW
/-- The row and the column that a way leads to. -/
def rowTo (C a : Nat) (q : Wy) : Int := (a / C : Nat) + q.2.2.1
def colTo (C a : Nat) (q : Wy) : Int := (a % C : Nat) + q.2.2.2
def inB (R C a : Nat) (q : Wy) : Bool := decide (0 ≤ rowTo C a q) && decide (rowTo C a q < R) && decide (0 ≤ colTo C a q) && decide (colTo C a q < C)
def cellTo (C a : Nat) (q : Wy) : Int := rowTo C a q * C + colTo C a q
def sidesF (R C a : Nat) (l : List Wy) : List Wy := l.filter (inB R C a)
def sideXs (R C a : Nat) : List (List Value) := (sidesF R C a wayV).map fun q => [.int .i64 (cellTo C a q), .agg (encW q).toArray]
abbrev dW : Wy := (0, 0, 0, 0)
theorem ways_at {i : Nat} (hi : i < 4) : (-1 ≤ (wayV.getD i dW).2.2.1 ∧ (wayV.getD i dW).2.2.1 ≤ 1) ∧ -1 ≤ (wayV.getD i dW).2.2.2 ∧ (wayV.getD i dW).2.2.2 ≤ 1 := by
  match i, hi with
  | 0, _ | 1, _ | 2, _ | 3, _ => decide
theorem sidesF_succ (R C a : Nat) {i : Nat} (hi : i < 4) : sidesF R C a (wayV.take (i + 1)) = sidesF R C a (wayV.take i) ++ if inB R C a (wayV.getD i dW) = true then [wayV.getD i dW] else [] := by
  have : wayV.take (i + 1) = wayV.take i ++ [wayV.getD i dW] := by
    match i, hi with
    | 0, _ | 1, _ | 2, _ | 3, _ => rfl
  rw [this]; unfold sidesF
  rw [List.filter_append, List.filter_cons]; simp
theorem sidesF_get (R C a : Nat) {i : Nat} (hi : i < 4) (hb : inB R C a (wayV.getD i dW) = true) : (sidesF R C a wayV)[(sidesF R C a (wayV.take i)).length]? = some (wayV.getD i dW) := by
  have h1 := sidesF_succ R C a hi
  rw [if_pos hb] at h1
  have h2 : sidesF R C a wayV = sidesF R C a (wayV.take (i + 1)) ++ sidesF R C a (wayV.drop (i + 1)) := by
    unfold sidesF; rw [← List.filter_append, List.take_append_drop]
  rw [h2, h1]; simp
theorem ways_ix0 : aIndex Tryd.prog 141 (.agg waysC.toArray) (.int .i64 (0 : Nat)) = some (.agg (encW (wayV.getD 0 dW)).toArray) := by kernel_rfl
theorem ways_ix1 : aIndex Tryd.prog 141 (.agg waysC.toArray) (.int .i64 (1 : Nat)) = some (.agg (encW (wayV.getD 1 dW)).toArray) := by kernel_rfl
theorem ways_ix2 : aIndex Tryd.prog 141 (.agg waysC.toArray) (.int .i64 (2 : Nat)) = some (.agg (encW (wayV.getD 2 dW)).toArray) := by kernel_rfl
theorem ways_ix3 : aIndex Tryd.prog 141 (.agg waysC.toArray) (.int .i64 (3 : Nat)) = some (.agg (encW (wayV.getD 3 dW)).toArray) := by kernel_rfl
theorem ways_ix (i : Nat) (hi : i < 4) : aIndex Tryd.prog 141 (.agg waysC.toArray) (.int .i64 i) = some (.agg (encW (wayV.getD i dW)).toArray) := by
  match i, hi with
  | 0, _ => exact ways_ix0
  | 1, _ => exact ways_ix1
  | 2, _ => exact ways_ix2
  | 3, _ => exact ways_ix3
theorem ways_ld : ldO (some (.cells waysC 123 false)) 0 (some 16) = some (.agg waysC.toArray) := by kernel_rfl

theorem sidesC_w {a : Nat} {p : Nat} {h : AHeap} {Q : VQ} (hq : ∀ h', h'.get h.next = some (.cells [pv p] 23 false) → h'.get (h.next + 1) = some (.cells [.int .i64 a] 3 false) → Fr none' h h' → h'.next = h.next + 2 → Q (.func (.func 101) #[] #[pv (h.next + 1), pv h.next]) h') : W 86 [pv p, .int .i64 a] h Q := by
  refine AM.enter hp (fn := Tryd.f86) (rs := [.tmp 4]) (nt := 6) (by kernel_rfl) Tryd.func86 rfl rfl rfl (by kernel_rfl) ?_
  simp (maxSteps := 1000000) (disch := first | omega | (simp only [AM.DB, List.length_set, List.length_map]; first | done | omega)) only [AM.RB, Nat.reduceAdd, Nat.reduceMul, Nat.reduceEqDiff, reduceCtorEq, b86_G13]
  refine hq _ ?_ ?_ (((Fr.refl _ _).alloc _).alloc _) rfl
  all_goals simp (maxSteps := 1000000) (disch := first | omega | (simp only [AM.DB, List.length_set, List.length_map]; first | done | omega)) only [AM.RB, Nat.reduceAdd, Nat.reduceMul, Nat.reduceEqDiff, reduceCtorEq, b86_G13]

theorem sides1_w {wa wm p a R C : Nat} {kv : Value} {K : List UInt8} {tl : List Value} {h : AHeap} {e1 e2 : TypeId} {o1 o2 : Bool} (hw : h.get GW = some (.cells waysC 123 false)) (g1 : h.get wa = some (.cells [.int .i64 a] e1 o1)) (g2 : h.get wm = some (.cells [pv p] e2 o2))
    (m : Mp h p kv R C K tl) (hb : R ≤ 32 ∧ C ≤ 32) (hC : 0 < C) (ha : a < R * C) :
    IterOk Tryd.prog prims (.func (.func 101) #[] #[pv wa, pv wm]) (fun id => id = GW ∨ id = wa ∨ id = wm ∨ id = p) (sideXs R C a) h := by
  intro y J E h0 hnx hR hlow hJ hE hy hJ0
  have hw' : h0.get GW = some (.cells waysC 123 false) := by rw [hR GW (AM.get_some_lt hw) (.inl rfl)]; exact hw
  have g1' : h0.get wa = some (.cells [.int .i64 a] e1 o1) := by rw [hR wa (AM.get_some_lt g1) (.inr (.inl rfl))]; exact g1
  have g2' : h0.get wm = some (.cells [pv p] e2 o2) := by rw [hR wm (AM.get_some_lt g2) (.inr (.inr (.inl rfl)))]; exact g2
  have gp' : h0.get p = some (.cells (.int .i64 (R : Nat) :: .int .i64 (C : Nat) :: kv :: tl) 84 false) := by rw [hR p (AM.get_some_lt m.1) (.inr (.inr (.inr rfl)))]; exact m.1
  have haC : a < 1024 := Nat.lt_of_lt_of_le ha (Nat.le_trans (Nat.mul_le_mul hb.1 hb.2) (by decide))
  have hdiv : a / C ≤ 1024 := Nat.le_trans (Nat.div_le_self _ _) (by omega)
  have hmod : a % C < C := Nat.mod_lt _ hC
  have et : IntKind.i64.wrap ((a : Int).tdiv C) = ((a / C : Nat) : Int) := by
    have e : (a : Int).tdiv C = ((a / C : Nat) : Int) := by rw [Int.tdiv_eq_ediv_of_nonneg (by omega)]; rfl
    have hw : ∀ d : Nat, d ≤ 1024 → IntKind.i64.wrap (d : Int) = d := fun d hd => AM.wrap_i64 (by omega) (by omega)
    rw [e]; exact hw _ hdiv
  have em : (a : Int).tmod C = ((a % C : Nat) : Int) := by rw [Int.tmod_eq_emod_of_nonneg (by omega)]; rfl
  refine AM.enter hp (fn := Tryd.f101) (rs := []) (nt := 65) (by kernel_rfl) Tryd.func101 rfl rfl rfl (by kernel_rfl) ?_
  (repeat' (first | (simp (maxSteps := 1000000) (disch := first | omega | (simp only [AM.DB, List.length_set, List.length_map]; first | done | omega)) only [AM.RB, Nat.reduceAdd, Nat.reduceMul, Nat.reduceEqDiff, reduceCtorEq, b101_G13, hw', ways_ld]) | refine AM.drawW_fine hp (by kernel_rfl) (by kernel_rfl) (by kernel_rfl) ?_ | refine AM.opW_tied (by kernel_rfl) ?_ | refine AM.opW_untied (by kernel_rfl) ?_))
  refine AM.loop_w hp 65 (fun i : Nat => [(0, y), (1, pv wa), (2, pv wm), (8, .agg waysC.toArray), (9, .int .i64 i)])
    (fun i h' => i ≤ 4 ∧ (∀ id, (id = GW ∨ id = wa ∨ id = wm ∨ id = p) → h'.get id = h0.get id) ∧ h0.next ≤ h'.next ∧ h'.low = h0.low ∧ ∃ A, J (sidesF R C a (wayV.take i)).length A h' ∧ (∀ id, A id → h0.next ≤ id ∧ id < h'.next)) (fun i => 4 - i) (by kernel_rfl) 0 ?_ ?_ ?_
  · simp (maxSteps := 1000000) (disch := first | omega | (simp only [AM.DB, List.length_set, List.length_map]; first | done | omega)) only [AM.RB, Nat.reduceAdd, Nat.reduceMul, Nat.reduceEqDiff, reduceCtorEq, b101_G13]
  · exact ⟨Nat.zero_le _, fun _ _ => rfl, Nat.le_refl _, rfl, _, hJ0, fun _ q => q.elim⟩
  rintro i h2 ρ ⟨hi, hk, hnx2, hlow2, A, hJi, hA⟩
  have k1 : h2.get wa = some (.cells [.int .i64 a] e1 o1) := by rw [hk wa (.inr (.inl rfl))]; exact g1'
  have k2 : h2.get wm = some (.cells [pv p] e2 o2) := by rw [hk wm (.inr (.inr (.inl rfl)))]; exact g2'
  have kp : h2.get p = some (.cells (.int .i64 (R : Nat) :: .int .i64 (C : Nat) :: kv :: tl) 84 false) := by rw [hk p (.inr (.inr (.inr rfl)))]; exact gp'
  simp (maxSteps := 1000000) (disch := first | omega | (simp only [AM.DB, List.length_set, List.length_map]; first | done | omega)) only [AM.RB, Nat.reduceAdd, Nat.reduceMul, Nat.reduceEqDiff, reduceCtorEq, b101_G13]
  refine AM.condV_split (fun hlt => ?_) (fun hlt => ?_)
  · have hi4 : i < 4 := by omega
    have hix := ways_ix i hi4
    obtain ⟨hdr, hdc⟩ := ways_at hi4
    obtain ⟨⟨ch, ag, dr, dc⟩, hq⟩ : ∃ q, wayV.getD i dW = q := ⟨_, rfl⟩
    have hsu := sidesF_succ R C a hi4
    have hge := sidesF_get R C a hi4
    rw [hq] at hix hsu hge hdr hdc
    simp only at hdr hdc
    (repeat' (first | (simp (maxSteps := 1000000) (disch := first | omega | (simp only [AM.DB, List.length_set, List.length_map]; first | done | omega)) only [AM.RB, Nat.reduceAdd, Nat.reduceMul, Nat.reduceEqDiff, reduceCtorEq, b101_G13, hix, encW]) | refine AM.drawW_fine hp (by kernel_rfl) (by kernel_rfl) (by kernel_rfl) ?_ | refine AM.opW_tied (by kernel_rfl) ?_ | refine AM.opW_untied (by kernel_rfl) ?_))
    generalize hE_ : AHeap.put (AHeap.alloc h2 _) _ _ = h3; obtain ⟨g3, fr3, n3, l3⟩ := AM.box_get hE_ (by omega); clear hE_
    have k13 := k1.fr0 fr3
    have k23 := k2.fr0 fr3
    have kp3 := kp.fr0 fr3
    have hC' : (C : Int) ≠ 0 := by omega
    have er : rowTo C a (ch, ag, dr, dc) = (a / C : Nat) + dr := rfl
    have ec : colTo C a (ch, ag, dr, dc) = (a % C : Nat) + dc := rfl
    generalize hdv : a / C = dv at *
    generalize hmd : a % C = md at *
    (repeat' (first | (simp (maxSteps := 1000000) (disch := first | omega | (simp only [AM.DB, List.length_set, List.length_map]; first | done | omega)) only [AM.RB, Nat.reduceAdd, Nat.reduceMul, Nat.reduceEqDiff, reduceCtorEq, b101_G13, k13, k23, kp3, g3, et, em, AM.wrap_i64]) | refine AM.drawW_fine hp (by kernel_rfl) (by kernel_rfl) (by kernel_rfl) ?_ | refine AM.opW_tied (by kernel_rfl) ?_ | refine AM.opW_untied (by kernel_rfl) ?_))
    generalize hrr : (dv : Int) + dr = rr at *
    generalize hcc : (md : Int) + dc = cc at *
    have hin : inB R C a (ch, ag, dr, dc) = (decide (0 ≤ rr) && decide (rr < R) && decide (0 ≤ cc) && decide (cc < C)) := by unfold inB; rw [er, ec]
    have hk3 : ∀ id, (id = GW ∨ id = wa ∨ id = wm ∨ id = p) → h3.get id = h0.get id := fun id q => by
      rw [fr3.old id ?_ (fun q => q)]
      · exact hk id q
      · rcases q with rfl | rfl | rfl | rfl
        · have h := hk GW (.inl rfl); rw [hw'] at h; exact AM.get_some_lt h
        · exact AM.get_some_lt k1
        · exact AM.get_some_lt k2
        · exact AM.get_some_lt kp
    have hJ3 := hJ _ _ _ _ _ hJi (fr3.weak) (fun _ q => q) (fun _ q => .inl q)
    have hA3 : ∀ id, A id → h0.next ≤ id ∧ id < h3.next := fun id q => ⟨(hA id q).1, by have := (hA id q).2; omega⟩
    have hno : inB R C a (ch, ag, dr, dc) = false → J (sidesF R C a (List.take (i + 1) wayV)).length A h3 := fun hf => by
      rw [hsu, hf]; simpa using hJ3
    by_cases c1 : rr < 0
    · have hf := hno (by rw [hin, decide_eq_false (by omega)]; rfl)
      (repeat' (first | (simp (maxSteps := 1000000) (disch := first | omega | (simp only [AM.DB, List.length_set, List.length_map]; first | done | omega)) only [AM.RB, Nat.reduceAdd, Nat.reduceMul, Nat.reduceEqDiff, reduceCtorEq, b101_G13, k23, kp3, AM.wrap_i64, decide_eq_true c1]) | refine AM.drawW_fine hp (by kernel_rfl) (by kernel_rfl) (by kernel_rfl) ?_ | refine AM.opW_tied (by kernel_rfl) ?_ | refine AM.opW_untied (by kernel_rfl) ?_))
      exact ⟨i + 1, by omega, congrArg _ (by omega), by omega, hk3, by omega, by omega, A, hf, hA3⟩
    by_cases c2 : (R : Int) ≤ rr
    · have hf := hno (by rw [hin, decide_eq_false (show ¬ rr < R by omega)]; simp)
      (repeat' (first | (simp (maxSteps := 1000000) (disch := first | omega | (simp only [AM.DB, List.length_set, List.length_map]; first | done | omega)) only [AM.RB, Nat.reduceAdd, Nat.reduceMul, Nat.reduceEqDiff, reduceCtorEq, b101_G13, k23, kp3, AM.wrap_i64, decide_eq_false c1, decide_eq_true c2]) | refine AM.drawW_fine hp (by kernel_rfl) (by kernel_rfl) (by kernel_rfl) ?_ | refine AM.opW_tied (by kernel_rfl) ?_ | refine AM.opW_untied (by kernel_rfl) ?_))
      exact ⟨i + 1, by omega, congrArg _ (by omega), by omega, hk3, by omega, by omega, A, hf, hA3⟩
    by_cases c3 : cc < 0
    · have hf := hno (by rw [hin, decide_eq_false (show ¬ 0 ≤ cc by omega)]; simp)
      (repeat' (first | (simp (maxSteps := 1000000) (disch := first | omega | (simp only [AM.DB, List.length_set, List.length_map]; first | done | omega)) only [AM.RB, Nat.reduceAdd, Nat.reduceMul, Nat.reduceEqDiff, reduceCtorEq, b101_G13, k23, kp3, AM.wrap_i64, decide_eq_false c1, decide_eq_false c2, decide_eq_true c3]) | refine AM.drawW_fine hp (by kernel_rfl) (by kernel_rfl) (by kernel_rfl) ?_ | refine AM.opW_tied (by kernel_rfl) ?_ | refine AM.opW_untied (by kernel_rfl) ?_))
      exact ⟨i + 1, by omega, congrArg _ (by omega), by omega, hk3, by omega, by omega, A, hf, hA3⟩
    by_cases c4 : (C : Int) ≤ cc
    · have hf := hno (by rw [hin, decide_eq_false (show ¬ cc < C by omega)]; simp)
      (repeat' (first | (simp (maxSteps := 1000000) (disch := first | omega | (simp only [AM.DB, List.length_set, List.length_map]; first | done | omega)) only [AM.RB, Nat.reduceAdd, Nat.reduceMul, Nat.reduceEqDiff, reduceCtorEq, b101_G13, k23, kp3, AM.wrap_i64, decide_eq_false c1, decide_eq_false c2, decide_eq_false c3, decide_eq_true c4]) | refine AM.drawW_fine hp (by kernel_rfl) (by kernel_rfl) (by kernel_rfl) ?_ | refine AM.opW_tied (by kernel_rfl) ?_ | refine AM.opW_untied (by kernel_rfl) ?_))
      exact ⟨i + 1, by omega, congrArg _ (by omega), by omega, hk3, by omega, by omega, A, hf, hA3⟩
    have ht : inB R C a (ch, ag, dr, dc) = true := by rw [hin, decide_eq_true (show 0 ≤ rr by omega), decide_eq_true (show rr < R by omega), decide_eq_true (show 0 ≤ cc by omega), decide_eq_true (show cc < C by omega)]; rfl
    have hm0 : 0 ≤ rr * C := Int.mul_nonneg (by omega) (by omega)
    have hm1 : rr * C ≤ 32 * 32 := Int.mul_le_mul (by omega) (by omega) (by omega) (by omega)
    have ect : cellTo C a (ch, ag, dr, dc) = rr * C + cc := by unfold cellTo; rw [er, ec]
    (repeat' (first | (simp (maxSteps := 1000000) (disch := first | omega | (simp only [AM.DB, List.length_set, List.length_map]; first | done | omega)) only [AM.RB, Nat.reduceAdd, Nat.reduceMul, Nat.reduceEqDiff, reduceCtorEq, b101_G13, k23, kp3, g3, AM.wrap_i64, decide_eq_false c1, decide_eq_false c2, decide_eq_false c3, decide_eq_false c4]) | refine AM.drawW_fine hp (by kernel_rfl) (by kernel_rfl) (by kernel_rfl) ?_ | refine AM.opW_tied (by kernel_rfl) ?_ | refine AM.opW_untied (by kernel_rfl) ?_))
    have hx := hge ht
    refine AM.CallW.mono (hy (sidesF R C a (wayV.take i)).length [.int .i64 (rr * C + cc), .agg (encW (ch, ag, dr, dc)).toArray] A h3 (by unfold sideXs; rw [List.getElem?_map, hx, Option.map_some, ect]) hJ3 hA3 (by omega) (by omega) hk3) ?_
    rintro vb h4 ⟨b, rfl, q1, q2, q3, q4⟩
    have hk4 : ∀ id, (id = GW ∨ id = wa ∨ id = wm ∨ id = p) → h4.get id = h0.get id := fun id q => by
      rw [q3 id ?_ (.inr q)]
      · exact hk3 id q
      · rcases q with rfl | rfl | rfl | rfl
        · have h := hk3 GW (.inl rfl); rw [hw'] at h; exact AM.get_some_lt h
        · exact AM.get_some_lt k13
        · exact AM.get_some_lt k23
        · exact AM.get_some_lt kp3
    have hA4 : ∀ id, A id → h0.next ≤ id ∧ id < h4.next := fun id q => ⟨(hA id q).1, by have := (hA3 id q).2; omega⟩
    cases b with
    | true =>
      (repeat' (first | (simp (maxSteps := 1000000) (disch := first | omega | (simp only [AM.DB, List.length_set, List.length_map]; first | done | omega)) only [AM.RB, Nat.reduceAdd, Nat.reduceMul, Nat.reduceEqDiff, reduceCtorEq, b101_G13, AM.wrap_i64]) | refine AM.drawW_fine hp (by kernel_rfl) (by kernel_rfl) (by kernel_rfl) ?_ | refine AM.opW_tied (by kernel_rfl) ?_ | refine AM.opW_untied (by kernel_rfl) ?_))
      refine ⟨i + 1, by omega, congrArg _ (by omega), by omega, hk4, by omega, by omega, A, ?_, hA4⟩
      rw [hsu, if_pos ht, List.length_append]; simpa using q4
    | false =>
      (repeat' (first | (simp (maxSteps := 1000000) (disch := first | omega | (simp only [AM.DB, List.length_set, List.length_map]; first | done | omega)) only [AM.RB, Nat.reduceAdd, Nat.reduceMul, Nat.reduceEqDiff, reduceCtorEq, b101_G13, AM.wrap_i64]) | refine AM.drawW_fine hp (by kernel_rfl) (by kernel_rfl) (by kernel_rfl) ?_ | refine AM.opW_tied (by kernel_rfl) ?_ | refine AM.opW_untied (by kernel_rfl) ?_))
      exact ⟨A, hA4, by omega, by omega, .inr (by simpa using q4)⟩
  · have e : i = 4 := by omega
    subst e
    (repeat' (first | (simp (maxSteps := 1000000) (disch := first | omega | (simp only [AM.DB, List.length_set, List.length_map]; first | done | omega)) only [AM.RB, Nat.reduceAdd, Nat.reduceMul, Nat.reduceEqDiff, reduceCtorEq, b101_G13]) | refine AM.drawW_fine hp (by kernel_rfl) (by kernel_rfl) (by kernel_rfl) ?_ | refine AM.opW_tied (by kernel_rfl) ?_ | refine AM.opW_untied (by kernel_rfl) ?_))
    refine ⟨A, hA, hnx2, hlow2, .inl ?_⟩
    unfold sideXs
    rw [List.length_map]
    exact hJi

end Go.Proofs.YtgdcbjpookldoaaDoor

namespace Go.Proofs.YtgdcbjpookldoaaDoor
open Go.AM

def upd {α : Type} (X : Nat → α) (k : Nat) (v : α) : Nat → α := fun j => if j = k then v else X j
/-! ### The tables in memory -/
structure Bk (h : AHeap) (n nid bid : Nat) (X : Nat → Value) (L : Nat → List Int) : Prop where
  g1 : h.get nid = some (.cells ((List.range n).map X) 22 false)
  g2 : h.get bid = some (.cells ((List.range n).map fun j => X (n + j)) 22 false)
  ow : ∀ j, j < 2 * n → Ow h 3 1 (X j) (L j).length ((L j).map (.int .i64))
  dj : ∀ i j, i < 2 * n → j < 2 * n → i ≠ j → ∀ id, idOf (X i) id → ¬ idOf (X j) id
  ne : ∀ j, j < 2 * n → ∀ id, idOf (X j) id → id ≠ nid ∧ id ≠ bid
  nb : nid ≠ bid
  low : h.low ≤ nid ∧ h.low ≤ bid
theorem Bk.same {h h' : AHeap} {n nid bid : Nat} {X : Nat → Value} {L : Nat → List Int} (b : Bk h n nid bid X L) (hh : ∀ id, (id = nid ∨ id = bid ∨ ∃ j, j < 2 * n ∧ idOf (X j) id) → h'.get id = h.get id) (hl : h'.low = h.low) : Bk h' n nid bid X L :=
  ⟨by rw [hh _ (.inl rfl)]; exact b.g1, by rw [hh _ (.inr (.inl rfl))]; exact b.g2, fun j hj => (b.ow j hj).same (fun id q => hh id (.inr (.inr ⟨j, hj, q⟩))) hl, b.dj, b.ne, b.nb, by rw [hl]; exact b.low⟩
theorem range_set {α : Type} (X : Nat → α) (n k : Nat) (v : α) : ((List.range n).map X).set k v = (List.range n).map (upd X k v) := by
  apply List.ext_getElem?
  intro j
  rw [List.getElem?_set, List.getElem?_map, List.getElem?_map]
  unfold upd
  by_cases hj : j < n
  · rw [List.getElem?_range hj]
    by_cases e : k = j
    · subst e; simp [hj]
    · have : j ≠ k := fun q => e q.symm
      rw [if_neg e]
      simp [this]
  · have : (List.range n)[j]? = none := by simp; omega
    rw [this]
    by_cases e : k = j
    · subst e; simp; omega
    · simp [e]
/-- One element more, at one place. -/
theorem Bk.app {h h1 h2 h3 : AHeap} {n nid bid : Nat} {X : Nat → Value} {L : Nat → List Int} (b : Bk h n nid bid X L) {k : Nat} (hk : k < 2 * n) {v : Value} {x : Int} (fr1 : Fr none' h h1)
    (ow2 : Ow h2 3 1 v ((L k).length + 1) ((L k).map (.int .i64) ++ [.int .i64 x])) (fr2 : Fr (idOf (X k)) h1 h2) (hid : ∀ id, idOf v id → idOf (X k) id ∨ h1.next ≤ id)
    (w : Nat) (hw : w = if k < n then nid else bid) (g3 : h3.get w = some (.cells (((List.range n).map fun j => X (if k < n then j else n + j)).set (if k < n then k else k - n) v) 22 false)) (fr3 : Fr (fun id => id = w) h2 h3) : Bk h3 n nid bid (upd X k v) (upd L k (L k ++ [x])) := by
  have ltn := AM.get_some_lt b.g1
  have ltb := AM.get_some_lt b.g2
  have lt1 := fr1.next
  have lt2 := fr2.next
  have hlt : ∀ j, j < 2 * n → ∀ id, idOf (X j) id → id < h.next := fun j hj id q => (b.ow j hj).lt q
  have hv : ∀ j, j < 2 * n → j ≠ k → ∀ id, idOf v id → ¬ idOf (X j) id := fun j hj e id q q2 => by
    rcases hid id q with q | q
    · exact b.dj k j hk hj (fun q => e q.symm) id q q2
    · have := hlt j hj id q2; omega
  have hne : ∀ id, idOf v id → id ≠ nid ∧ id ≠ bid := fun id q => by
    rcases hid id q with q | q
    · exact b.ne k hk id q
    · omega
  have hn2 : h2.get nid = h.get nid := by rw [fr2.old nid (by omega) (fun q => (b.ne k hk nid q).1 rfl), fr1.old nid ltn (fun q => q)]
  have hb2 : h2.get bid = h.get bid := by rw [fr2.old bid (by omega) (fun q => (b.ne k hk bid q).2 rfl), fr1.old bid ltb (fun q => q)]
  have hwn : w = nid ∨ w = bid := by rw [hw]; split <;> simp
  refine ⟨?_, ?_, fun j hj => ?_, fun i j hi hj e id => ?_, fun j hj id => ?_, b.nb, by rw [fr3.low, fr2.low, fr1.low]; exact b.low⟩
  · by_cases c : k < n
    · rw [if_pos c] at hw
      subst hw
      rw [g3, if_pos c]
      simp only [c, if_true]
      rw [range_set]
    · rw [if_neg c] at hw
      have hup : (List.range n).map (upd X k v) = (List.range n).map X := List.map_congr_left fun j hj => by
        have := List.mem_range.1 hj
        unfold upd; rw [if_neg (by omega)]
      rw [hup, fr3.old nid (by omega) (by rw [hw]; exact b.nb), hn2]; exact b.g1
  · by_cases c : k < n
    · rw [if_pos c] at hw
      have hup : ((List.range n).map fun j => upd X k v (n + j)) = (List.range n).map fun j => X (n + j) := List.map_congr_left fun j hj => by
        unfold upd; rw [if_neg (by omega)]
      rw [hup, fr3.old bid (by omega) (by rw [hw]; exact fun q => b.nb q.symm), hb2]; exact b.g2
    · rw [if_neg c] at hw
      subst hw
      rw [g3, if_neg c]
      simp only [c, if_false]
      rw [range_set]
      congr 2
      apply List.map_congr_left
      intro j hj
      unfold upd
      by_cases e : j = k - n
      · rw [if_pos e, if_pos (by omega)]
      · rw [if_neg e, if_neg (by omega)]
  · unfold upd
    by_cases e : j = k
    · rw [if_pos e, if_pos e]
      have := ow2.fr fr3 fun id q e2 => by
        have := hne id q
        rcases hwn with q2 | q2 <;> omega
      simpa using this
    · rw [if_neg e, if_neg e]
      refine ((b.ow j hj).fr ((fr1.weak (S := idOf (X k))).then fr2 fun _ _ q => q) ?_).fr fr3 ?_
      · exact fun id q q2 => b.dj j k hj hk e id q q2
      · intro id q e2
        have := b.ne j hj id q
        rcases hwn with q2 | q2 <;> omega
  · unfold upd
    intro q1 q2
    split at q1
    · split at q2
      · omega
      · rename_i e1 e2
        exact hv j hj e2 id q1 q2
    · split at q2
      · rename_i e1 e2
        exact hv i hi e1 id q2 q1
      · exact b.dj i j hi hj e id q1 q2
  · unfold upd
    split
    · exact hne id
    · exact b.ne j hj id

end Go.Proofs.YtgdcbjpookldoaaDoor

namespace Go.Proofs.YtgdcbjpookldoaaDoor
open Go.AM
set_option maxRecDepth 8000
theorem b87_G14 : type_of% (And.intro (@AM.bin_eql) (And.intro (@AM.boxK_agg) (And.intro (@AM.boxK_bool) (And.intro (@AM.boxK_func) (And.intro (@AM.boxK_int) (And.intro (@AM.boxK_map) (And.intro (@AM.boxK_pointer) (And.intro (@AM.boxK_slice) (And.intro (@AM.boxK_string) (And.intro (@AM.fa_ptr) (And.intro (@fd_123_0) (And.intro (@AM.ldO_agg) (And.intro (@AM.ldO_one) (And.intro (@AM.ld_ptr) (And.intro (@lk_5) (And.intro (@AM.op_binOp) (And.intro (@AM.op_box) (And.intro (@AM.op_fieldAddr) (@AM.op_load))))))))))))))))))) := And.intro (@AM.bin_eql) (And.intro (@AM.boxK_agg) (And.intro (@AM.boxK_bool) (And.intro (@AM.boxK_func) (And.intro (@AM.boxK_int) (And.intro (@AM.boxK_map) (And.intro (@AM.boxK_pointer) (And.intro (@AM.boxK_slice) (And.intro (@AM.boxK_string) (And.intro (@AM.fa_ptr) (And.intro (@fd_123_0) (And.intro (@AM.ldO_agg) (And.intro (@AM.ldO_one) (And.intro (@AM.ld_ptr) (And.intro (@lk_5) (And.intro (@AM.op_binOp) (And.intro (@AM.op_box) (And.intro (@AM.op_fieldAddr) (@AM.op_load))))))))))))))))))


/-! ### Which edges there are -/
def leavesP (c : UInt8) (q : Wy) : Bool := decide ((c.toNat : Int) = 46) || decide ((c.toNat : Int) = q.1)
theorem leaves_w (c : UInt8) (q : Wy) {h : AHeap} {Q : VQ} (hq : ∀ h', Fr none' h h' → Q (.bool (leavesP c q)) h') : W 87 [bV c, .agg (encW q).toArray] h Q := by
  obtain ⟨ch, ag, dr, dc⟩ := q
  refine AM.enter hp (fn := Tryd.f87) (rs := [.tmp 4]) (nt := 13) (by kernel_rfl) Tryd.func87 rfl rfl rfl (by kernel_rfl) ?_
  (first | (simp (maxSteps := 1000000) (disch := first | omega | (simp only [AM.DB, List.length_set, List.length_map]; first | done | omega)) only [AM.RB, Nat.reduceAdd, Nat.reduceMul, Nat.reduceEqDiff, reduceCtorEq, b87_G14, encW]) | skip)
  generalize hE_ : AHeap.alloc h _ = h1; obtain ⟨g1, fr1, n1, l1⟩ := AM.new_get hE_; clear hE_
  unfold leavesP at hq
  cases hd : decide ((c.toNat : Int) = 46)
  · (first | (simp (maxSteps := 1000000) (disch := first | omega | (simp only [AM.DB, List.length_set, List.length_map]; first | done | omega)) only [AM.RB, Nat.reduceAdd, Nat.reduceMul, Nat.reduceEqDiff, reduceCtorEq, b87_G14, g1, hd]) | skip)
    rw [hd, Bool.false_or] at hq
    exact hq _ fr1
  · (first | (simp (maxSteps := 1000000) (disch := first | omega | (simp only [AM.DB, List.length_set, List.length_map]; first | done | omega)) only [AM.RB, Nat.reduceAdd, Nat.reduceMul, Nat.reduceEqDiff, reduceCtorEq, b87_G14, g1, hd]) | skip)
    rw [hd, Bool.true_or] at hq
    exact hq _ fr1

/-- Does an edge go that way? -/
def goesP (K : List UInt8) (C a : Nat) (q : Wy) : Bool := leavesP (K.getD a 0) q && !decide (((K.getD (cellTo C a q).toNat 0).toNat : Int) = 35) && !decide (((K.getD (cellTo C a q).toNat 0).toNat : Int) = q.2.1)
abbrev Ed := Nat × Nat
def edgesW (K : List UInt8) (C a : Nat) (l : List Wy) : List Ed := (l.filter (goesP K C a)).map fun q => (a, (cellTo C a q).toNat)
def edgesTo (K : List UInt8) (R C : Nat) : Nat → List Ed
  | 0 => []
  | a + 1 => edgesTo K R C a ++ edgesW K C a (sidesF R C a wayV)
def fromE (E : List Ed) (j : Nat) : List Int := (E.filter fun e => decide (e.1 = j)).map fun e => (e.2 : Int)
def intoE (E : List Ed) (j : Nat) : List Int := (E.filter fun e => decide (e.2 = j)).map fun e => (e.1 : Int)
/-- Both tables, one behind the other. -/
def bothE (E : List Ed) (n j : Nat) : List Int := if j < n then fromE E j else intoE E (j - n)
theorem bothE_snoc (E : List Ed) (n a b : Nat) (ha : a < n) : bothE (E ++ [(a, b)]) n = upd (upd (bothE E n) a (bothE E n a ++ [(b : Int)])) (n + b) (bothE E n (n + b) ++ [(a : Int)]) := by
  funext j
  unfold upd bothE
  by_cases hj : j < n
  · simp only [hj, if_true, show ¬ j = n + b by omega, if_false, ha]
    unfold fromE
    by_cases e : j = a
    · subst e
      rw [if_pos rfl, List.filter_append, List.map_append]; simp
    · rw [if_neg e, List.filter_append, List.map_append]
      have : a ≠ j := fun q => e q.symm
      simp [this]
  · simp only [hj, if_false, show ¬ n + b < n by omega, show ¬ j = a by omega]
    unfold intoE
    by_cases e : j = n + b
    · subst e
      rw [if_pos rfl, List.filter_append, List.map_append]
      simp [Nat.add_sub_cancel_left]
    · rw [if_neg e, List.filter_append, List.map_append]
      have : b ≠ j - n := by omega
      simp [this]
theorem fromE_len (E : List Ed) (j : Nat) : (fromE E j).length ≤ E.length := by unfold fromE; rw [List.length_map]; exact List.length_filter_le _ _
theorem intoE_len (E : List Ed) (j : Nat) : (intoE E j).length ≤ E.length := by unfold intoE; rw [List.length_map]; exact List.length_filter_le _ _
theorem bothE_len (E : List Ed) (n j : Nat) : (bothE E n j).length ≤ E.length := by unfold bothE; split; exact fromE_len _ _; exact intoE_len _ _
end Go.Proofs.YtgdcbjpookldoaaDoor
