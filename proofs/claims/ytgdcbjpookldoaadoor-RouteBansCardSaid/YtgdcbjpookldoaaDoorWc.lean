/- Walks of this claim's functions, and plain laws. -/
import Derived.Test.YtgdcbjpookldoaaDoorWb
import Derived.Test.YtgdcbjpookldoaaDoorAMBfs
set_option linter.unusedSimpArgs false
set_option linter.unusedVariables false
namespace Go.Proofs.YtgdcbjpookldoaaDoor
open Go.AM
set_option maxRecDepth 8000
theorem b69_G15 : type_of% (And.intro (@AM.alK_some) (And.intro (@al_123) (And.intro (@al_3) (And.intro (@al_5) (And.intro (@AM.bin_add) (And.intro (@AM.bin_lss) (And.intro (@AM.bin_neq) (And.intro (@AM.boxK_agg) (And.intro (@AM.boxK_bool) (And.intro (@AM.boxK_func) (And.intro (@AM.boxK_int) (And.intro (@AM.boxK_map) (And.intro (@AM.boxK_pointer) (And.intro (@AM.boxK_slice) (And.intro (@AM.boxK_string) (And.intro (AM.bsW_int bs_22) (And.intro (AM.bsW_nil bs_22) (And.intro (AM.bsW_slice bs_22) (And.intro (AM.bsW_string bs_22) (And.intro (@AM.fa_ptr) (And.intro (@fd_123_1) (And.intro (@fd_84_2) (And.intro (@fd_84_4) (And.intro (@fd_84_5) (And.intro (@AM.iaO_ok) (And.intro (AM.ia_slice el_52) (And.intro (AM.ia_slice el_82) (And.intro (@AM.ldO_agg) (And.intro (@AM.ldO_one) (And.intro (@AM.ld_ptr) (And.intro (AM.len_slice ul_52) (And.intro (@lk_123) (And.intro (@lk_22) (And.intro (@lk_23) (And.intro (@lk_3) (And.intro (@lk_5) (And.intro (@lk_52) (And.intro (@lk_82) (And.intro (AM.mkW_int mk_82) (And.intro (@AM.op_alloc) (And.intro (@AM.op_append) (And.intro (@AM.op_binOp) (And.intro (@AM.op_box) (And.intro (@AM.op_buildSlice) (And.intro (@AM.op_call) (And.intro (@AM.op_fieldAddr) (And.intro (@AM.op_indexAddr) (And.intro (@AM.op_len) (And.intro (@AM.op_load) (And.intro (@AM.op_makeSlice) (And.intro (@AM.op_nilCheck) (And.intro (@AM.op_store) (And.intro (@AM.stO_agg) (And.intro (@AM.stO_bool) (And.intro (@AM.stO_int) (And.intro (@AM.stO_map) (And.intro (@AM.stO_pointer) (And.intro (@AM.stO_slice) (And.intro (@AM.stO_string) (And.intro (@AM.st_ptr) (And.intro (@sz_123) (And.intro (@sz_22) (And.intro (@sz_3) (And.intro (@sz_5) (@sz_82))))))))))))))))))))))))))))))))))))))))))))))))))))))))))))))))) := And.intro (@AM.alK_some) (And.intro (@al_123) (And.intro (@al_3) (And.intro (@al_5) (And.intro (@AM.bin_add) (And.intro (@AM.bin_lss) (And.intro (@AM.bin_neq) (And.intro (@AM.boxK_agg) (And.intro (@AM.boxK_bool) (And.intro (@AM.boxK_func) (And.intro (@AM.boxK_int) (And.intro (@AM.boxK_map) (And.intro (@AM.boxK_pointer) (And.intro (@AM.boxK_slice) (And.intro (@AM.boxK_string) (And.intro (AM.bsW_int bs_22) (And.intro (AM.bsW_nil bs_22) (And.intro (AM.bsW_slice bs_22) (And.intro (AM.bsW_string bs_22) (And.intro (@AM.fa_ptr) (And.intro (@fd_123_1) (And.intro (@fd_84_2) (And.intro (@fd_84_4) (And.intro (@fd_84_5) (And.intro (@AM.iaO_ok) (And.intro (AM.ia_slice el_52) (And.intro (AM.ia_slice el_82) (And.intro (@AM.ldO_agg) (And.intro (@AM.ldO_one) (And.intro (@AM.ld_ptr) (And.intro (AM.len_slice ul_52) (And.intro (@lk_123) (And.intro (@lk_22) (And.intro (@lk_23) (And.intro (@lk_3) (And.intro (@lk_5) (And.intro (@lk_52) (And.intro (@lk_82) (And.intro (AM.mkW_int mk_82) (And.intro (@AM.op_alloc) (And.intro (@AM.op_append) (And.intro (@AM.op_binOp) (And.intro (@AM.op_box) (And.intro (@AM.op_buildSlice) (And.intro (@AM.op_call) (And.intro (@AM.op_fieldAddr) (And.intro (@AM.op_indexAddr) (And.intro (@AM.op_len) (And.intro (@AM.op_load) (And.intro (@AM.op_makeSlice) (And.intro (@AM.op_nilCheck) (And.intro (@AM.op_store) (And.intro (@AM.stO_agg) (And.intro (@AM.stO_bool) (And.intro (@AM.stO_int) (And.intro (@AM.stO_map) (And.intro (@AM.stO_pointer) (And.intro (@AM.stO_slice) (And.intro (@AM.stO_string) (And.intro (@AM.st_ptr) (And.intro (@sz_123) (And.intro (@sz_22) (And.intro (@sz_3) (And.intro (@sz_5) (@sz_82))))))))))))))))))))))))))))))))))))))))))))))))))))))))))))))))


abbrev tlD (d s : Int) (a b : Value) : List Value := [.int .u32 d, .int .i32 s, .int .u32 0, a, b]

/-- The tables, half made. -/
def TK (h : AHeap) (p : Nat) (kv : Value) (R C : Nat) (K : List UInt8) (E : List Ed) (D S : Nat → Prop) (h' : AHeap) : Prop := ∃ X, h'.get h.next = some (.cells [pv p] 23 false) ∧
  Mp h' p kv R C K (tlD 0 1 (.slice (some ⟨h.next + 1, 0, none⟩) K.length K.length) (.slice (some ⟨h.next + 2, 0, none⟩) K.length K.length)) ∧ Bk h' K.length (h.next + 1) (h.next + 2) X (bothE E K.length) ∧ Fr (fun id => id = p) h h' ∧
  S h.next ∧ S p ∧ (∀ id, idOf kv id → S id) ∧ S (h.next + 1) ∧ S (h.next + 2) ∧ ∀ j, j < 2 * K.length → ∀ id, idOf (X j) id → S id ∧ h.next + 3 ≤ id ∧ ¬ D id
theorem TK.keep {h : AHeap} {p : Nat} {kv : Value} {R C : Nat} {K : List UInt8} {E : List Ed} {D S : Nat → Prop} {h1 h2 : AHeap} (t : TK h p kv R C K E D S h1) (hS : ∀ id, S id → h2.get id = h1.get id) (hB : ∀ id, id < h.next → h2.get id = h1.get id) (hn : h1.next ≤ h2.next) (hl : h2.low = h1.low) : TK h p kv R C K E D S h2 := by
  obtain ⟨X, t1, t2, t3, t4, s1, s2, s3, s4, s5, s6⟩ := t
  refine ⟨X, by rw [hS _ s1]; exact t1, ⟨by rw [hS _ s2]; exact t2.1, t2.2.1.same (fun id q => hS id (s3 id q)) hl, t2.2.2.1, by rw [hl]; exact t2.2.2.2.1, t2.2.2.2.2⟩, t3.same ?_ hl, ⟨Nat.le_trans t4.next hn, hl.trans t4.low, fun id q1 q2 => by rw [hB id q1]; exact t4.old id q1 q2⟩, s1, s2, s3, s4, s5, s6⟩
  rintro id (rfl | rfl | ⟨j, hj, q⟩)
  · exact hS _ s4
  · exact hS _ s5
  · exact hS _ (s6 j hj id q).1
theorem TK.mono {h : AHeap} {p : Nat} {kv : Value} {R C : Nat} {K : List UInt8} {E : List Ed} {D S T : Nat → Prop} {h1 : AHeap} (t : TK h p kv R C K E D S h1) (hT : ∀ id, S id → T id) : TK h p kv R C K E D T h1 := by
  obtain ⟨X, t1, t2, t3, t4, s1, s2, s3, s4, s5, s6⟩ := t
  exact ⟨X, t1, t2, t3, t4, hT _ s1, hT _ s2, fun id q => hT _ (s3 id q), hT _ s4, hT _ s5, fun j hj id q => ⟨hT _ (s6 j hj id q).1, (s6 j hj id q).2⟩⟩
theorem TK.lt {h : AHeap} {p : Nat} {kv : Value} {R C : Nat} {K : List UInt8} {E : List Ed} {D S : Nat → Prop} {h1 : AHeap} (t : TK h p kv R C K E D S h1) : TK h p kv R C K E D (fun id => S id ∧ id < h1.next) h1 := by
  obtain ⟨X, t1, t2, t3, t4, s1, s2, s3, s4, s5, s6⟩ := t
  exact ⟨X, t1, t2, t3, t4, ⟨s1, AM.get_some_lt t1⟩, ⟨s2, AM.get_some_lt t2.1⟩, fun id q => ⟨s3 id q, t2.2.1.lt q⟩, ⟨s4, AM.get_some_lt t3.g1⟩, ⟨s5, AM.get_some_lt t3.g2⟩, fun j hj id q => ⟨⟨(s6 j hj id q).1, (t3.ow j hj).lt q⟩, (s6 j hj id q).2⟩⟩
theorem TK.avoid {h : AHeap} {p : Nat} {kv : Value} {R C : Nat} {K : List UInt8} {E : List Ed} {D D' S : Nat → Prop} {h1 : AHeap} (t : TK h p kv R C K E D S h1) (hD : ∀ id, S id → ¬ D' id) : TK h p kv R C K E D' S h1 := by
  obtain ⟨X, t1, t2, t3, t4, s1, s2, s3, s4, s5, s6⟩ := t
  exact ⟨X, t1, t2, t3, t4, s1, s2, s3, s4, s5, fun j hj id q => ⟨(s6 j hj id q).1, (s6 j hj id q).2.1, hD _ (s6 j hj id q).1⟩⟩
theorem TK.any {h : AHeap} {p : Nat} {kv : Value} {R C : Nat} {K : List UInt8} {E : List Ed} {D S : Nat → Prop} {h1 : AHeap} (t : TK h p kv R C K E D S h1) : TK h p kv R C K E none' S h1 := t.avoid fun _ _ q => q
theorem edgesTo_len (K : List UInt8) (R C : Nat) : ∀ a, (edgesTo K R C a).length ≤ 4 * a
  | 0 => Nat.le_refl _
  | a + 1 => by
    have ih := edgesTo_len K R C a
    rw [edgesTo, List.length_append]
    have : (edgesW K C a (sidesF R C a wayV)).length ≤ 4 := by
      unfold edgesW sidesF
      rw [List.length_map]
      exact Nat.le_trans (List.length_filter_le _ _) (List.length_filter_le _ _)
    omega
theorem cellTo_lt {R C a : Nat} {q : Wy} (hC : 0 < C) (h : inB R C a q = true) : ∃ b : Nat, cellTo C a q = b ∧ b < R * C := by
  unfold inB at h
  simp only [Bool.and_eq_true, decide_eq_true_eq] at h
  obtain ⟨⟨⟨h1, h2⟩, h3⟩, h4⟩ := h
  obtain ⟨r, hr⟩ := Int.eq_ofNat_of_zero_le h1
  obtain ⟨c, hc⟩ := Int.eq_ofNat_of_zero_le h3
  refine ⟨r * C + c, by unfold cellTo; rw [hr, hc]; simp, ?_⟩
  have : (r + 1) * C ≤ R * C := Nat.mul_le_mul_right C (by omega)
  rw [Nat.add_mul, Nat.one_mul] at this
  omega
theorem edgesW_succ (K : List UInt8) (C a : Nat) (l : List Wy) {i : Nat} {q : Wy} (hq : l[i]? = some q) : edgesW K C a (l.take (i + 1)) = edgesW K C a (l.take i) ++ if goesP K C a q = true then [(a, (cellTo C a q).toNat)] else [] := by
  unfold edgesW
  rw [List.take_add_one, hq, List.filter_append, List.map_append]
  congr 1
  show List.map _ (List.filter _ [q]) = _
  rw [List.filter_cons]; split <;> simp [*]

set_option maxHeartbeats 4000000 in
theorem tables_w {h : AHeap} {p : Nat} {kv : Value} {R C : Nat} {K : List UInt8} (hw : h.get GW = some (.cells waysC 123 false)) (hgl : GW < h.low) (m : Mp h p kv R C K (tlD 0 1 (.slice none 0 0) (.slice none 0 0)))
    (hR : 0 < R) (hC : 0 < C) (hK : K.length = R * C) (hb : R ≤ 32 ∧ C ≤ 32) (hl : h.low ≤ h.next) {Q : VQ}
    (hq : ∀ nid bid X h', Mp h' p kv R C K (tlD 0 1 (.slice (some ⟨nid, 0, none⟩) K.length K.length) (.slice (some ⟨bid, 0, none⟩) K.length K.length)) → Bk h' K.length nid bid X (bothE (edgesTo K R C K.length) K.length) → Fr (fun id => id = p) h h' →
      h.next ≤ nid → h.next ≤ bid → (∀ j, j < 2 * K.length → ∀ id, idOf (X j) id → h.next ≤ id) → Q (.tuple #[]) h') : W 69 [pv p] h Q := by
  have hg := m.1
  have hpl := AM.get_some_lt hg
  have hKb : K.length ≤ 1024 := by rw [hK]; exact Nat.le_trans (Nat.mul_le_mul hb.1 hb.2) (by decide)
  obtain ⟨ka, kc, rfl⟩ := m.2.1.form
  have hml := m.2.2.2.1
  refine AM.enter hp (fn := Tryd.f69) (rs := []) (nt := 97) (by kernel_rfl) Tryd.func69 rfl rfl rfl (by kernel_rfl) ?_
  (repeat' (first | (simp (maxSteps := 1000000) (disch := first | omega | (simp only [AM.DB, List.length_set, List.length_map]; first | done | omega)) only [AM.RB, Nat.reduceAdd, Nat.reduceMul, Nat.reduceEqDiff, reduceCtorEq, b69_G15]) | refine AM.drawW_loose (id := 1) hp (by kernel_rfl) (by kernel_rfl) ?_ | refine AM.drawW_fine (id := 8) hp (by kernel_rfl) (by kernel_rfl) (by kernel_rfl) ?_ | refine AM.drawW_loose (id := 9) hp (by kernel_rfl) (by kernel_rfl) ?_ | refine AM.drawW_loose (id := 10) hp (by kernel_rfl) (by kernel_rfl) ?_ | refine AM.opW_tied (by kernel_rfl) ?_ | refine AM.opW_untied (by kernel_rfl) ?_))
  generalize hE_ : AHeap.alloc h _ = h1; obtain ⟨g1, fr1, n1, l1⟩ := AM.new_get hE_; clear hE_
  have hg1 := hg.fr0 fr1
  (repeat' (first | (simp (maxSteps := 1000000) (disch := first | omega | (simp only [AM.DB, List.length_set, List.length_map]; first | done | omega)) only [AM.RB, Nat.reduceAdd, Nat.reduceMul, Nat.reduceEqDiff, reduceCtorEq, b69_G15, g1, hg1, hg]) | refine AM.drawW_loose (id := 1) hp (by kernel_rfl) (by kernel_rfl) ?_ | refine AM.drawW_fine (id := 8) hp (by kernel_rfl) (by kernel_rfl) (by kernel_rfl) ?_ | refine AM.drawW_loose (id := 9) hp (by kernel_rfl) (by kernel_rfl) ?_ | refine AM.drawW_loose (id := 10) hp (by kernel_rfl) (by kernel_rfl) ?_ | refine AM.opW_tied (by kernel_rfl) ?_ | refine AM.opW_untied (by kernel_rfl) ?_))
  refine ⟨AM.looseOk_by [(1, [0, 17]), (12, [0, 17])] (by kernel_rfl) ?_, ?_⟩
  · simp (maxSteps := 1000000) (disch := first | omega | (simp only [AM.DB, List.length_set, List.length_map]; first | done | omega)) only [AM.RB, Nat.reduceAdd, Nat.reduceMul, Nat.reduceEqDiff, reduceCtorEq, b69_G15]
    (repeat' apply And.intro) <;> (first | (refine AM.stable_len _ _ _ _ _ _ (fun _ => ?_); (simp (maxSteps := 1000000) (disch := first | omega | (simp only [AM.DB, List.length_set, List.length_map]; first | done | omega)) only [AM.RB, Nat.reduceAdd, Nat.reduceMul, Nat.reduceEqDiff, reduceCtorEq, b69_G15, g1, hg1, hg])) | (refine AM.stable_load _ _ _ _ _ _ ?_; (first | (simp (maxSteps := 1000000) (disch := first | omega | (simp only [AM.DB, List.length_set, List.length_map]; first | done | omega)) only [AM.RB, Nat.reduceAdd, Nat.reduceMul, Nat.reduceEqDiff, reduceCtorEq, b69_G15, g1, hg1, hg]) | skip); (first | (refine AM.stabL_int (by omega) ?_; (simp (maxSteps := 1000000) (disch := first | omega | (simp only [AM.DB, List.length_set, List.length_map]; first | done | omega)) only [AM.RB, Nat.reduceAdd, Nat.reduceMul, Nat.reduceEqDiff, reduceCtorEq, b69_G15, g1, hg1, hg])) | (refine AM.stabL_ptr (by omega) (by omega) ?_; (simp (maxSteps := 1000000) (disch := first | omega | (simp only [AM.DB, List.length_set, List.length_map]; first | done | omega)) only [AM.RB, Nat.reduceAdd, Nat.reduceMul, Nat.reduceEqDiff, reduceCtorEq, b69_G15, g1, hg1, hg])) | (refine AM.stabL_string (by omega) ?_; (simp (maxSteps := 1000000) (disch := first | omega | (simp only [AM.DB, List.length_set, List.length_map]; first | done | omega)) only [AM.RB, Nat.reduceAdd, Nat.reduceMul, Nat.reduceEqDiff, reduceCtorEq, b69_G15, g1, hg1, hg])) | (refine AM.stabL_bool (by omega) ?_; (simp (maxSteps := 1000000) (disch := first | omega | (simp only [AM.DB, List.length_set, List.length_map]; first | done | omega)) only [AM.RB, Nat.reduceAdd, Nat.reduceMul, Nat.reduceEqDiff, reduceCtorEq, b69_G15, g1, hg1, hg])))))
  simp only [AM.repeated_one]
  generalize hE_ : AHeap.put _ p _ = h2
  have hx0 : List.replicate K.length (Value.slice none 0 0) = (List.range K.length).map fun _ => Value.slice none 0 0 := by
    apply List.ext_getElem <;> simp
  have n2 : h2.next = h.next + 3 := by rw [← hE_]; simp only [AM.nx_put, AM.nx_alloc]; omega
  have l2 : h2.low = h.low := by rw [← hE_]; simp only [AM.lw_put, AM.lw_alloc]; omega
  have e1 : h1.next = h.next + 1 := n1
  have f0 : h2.get h.next = some (.cells [pv p] 23 false) := by rw [← hE_]; simp (maxSteps := 1000000) (disch := first | omega | (simp only [AM.DB, List.length_set, List.length_map]; first | done | omega)) only [AM.RB, Nat.reduceAdd, Nat.reduceMul, Nat.reduceEqDiff, reduceCtorEq, b69_G15, g1]
  have fn : h2.get (h.next + 1) = some (.cells ((List.range K.length).map fun _ => Value.slice none 0 0) 22 false) := by rw [← hE_, ← e1, hx0]; simp (maxSteps := 1000000) (disch := first | omega | (simp only [AM.DB, List.length_set, List.length_map]; first | done | omega)) only [AM.RB, Nat.reduceAdd, Nat.reduceMul, Nat.reduceEqDiff, reduceCtorEq, b69_G15]
  have fb : h2.get (h.next + 2) = some (.cells ((List.range K.length).map fun _ => Value.slice none 0 0) 22 false) := by rw [← hE_, hx0, show h.next + 2 = h1.next + 1 by omega]; simp (maxSteps := 1000000) (disch := first | omega | (simp only [AM.DB, List.length_set, List.length_map]; first | done | omega)) only [AM.RB, Nat.reduceAdd, Nat.reduceMul, Nat.reduceEqDiff, reduceCtorEq, b69_G15]
  have fp : h2.get p = some (.cells (.int .i64 (R : Nat) :: .int .i64 (C : Nat) :: .slice ka K.length kc :: tlD 0 1 (.slice (some ⟨h.next + 1, 0, none⟩) K.length K.length) (.slice (some ⟨h.next + 2, 0, none⟩) K.length K.length)) 84 false) := by rw [← hE_, show h.next + 2 = h1.next + 1 by omega, ← e1]; simp (maxSteps := 1000000) (disch := first | omega | (simp only [AM.DB, List.length_set, List.length_map]; first | done | omega)) only [AM.RB, Nat.reduceAdd, Nat.reduceMul, Nat.reduceEqDiff, reduceCtorEq, b69_G15]
  have fr2 : Fr (fun id => id = p) h h2 := by
    rw [← hE_]
    have fr1' : Fr (fun id => id = p) h h1 := fr1.weak
    exact (((fr1'.alloc _).alloc _).put _ (.inr rfl)).put _ (.inr rfl)
  have m2 : Mp h2 p (.slice ka K.length kc) R C K (tlD 0 1 (.slice (some ⟨h.next + 1, 0, none⟩) K.length K.length) (.slice (some ⟨h.next + 2, 0, none⟩) K.length K.length)) :=
    ⟨fp, m.2.1.fr fr2 (fun id q e => m.2.2.2.2 (e ▸ q)), rfl, by omega, m.2.2.2.2⟩
  have tk : TK h p (.slice ka K.length kc) R C K (edgesTo K R C 0) none' (fun _ => True) h2 :=
    ⟨fun _ => .slice none 0 0, f0, m2, ⟨fn, fb, fun j _ => by unfold bothE; split <;> exact Ow.nil _ _ _, fun _ _ _ _ _ _ q => q.elim, fun _ _ _ q => q.elim, by omega, by omega⟩, fr2, trivial, trivial, fun _ _ => trivial, trivial, trivial, fun _ _ _ q => q.elim⟩
  have hw2 : h2.get GW = some (.cells waysC 123 false) := fr2.get hw (fun e => by omega)
  clear hE_ f0 fn fb fp m2 hx0
  refine AM.loop_w hp 97 (fun a : Nat => [(1, pv h.next), (27, .slice ka K.length kc), (28, .int .i64 K.length), (29, .int .i64 a)])
    (fun a h' => a ≤ K.length ∧ TK h p (.slice ka K.length kc) R C K (edgesTo K R C a) none' (fun _ => True) h') (fun a => K.length - a) (by kernel_rfl) 0 ?_ ?_ ?_
  · simp (maxSteps := 1000000) (disch := first | omega | (simp only [AM.DB, List.length_set, List.length_map]; first | done | omega)) only [AM.RB, Nat.reduceAdd, Nat.reduceMul, Nat.reduceEqDiff, reduceCtorEq, b69_G15]
  · exact ⟨Nat.zero_le _, tk⟩
  rintro a h3 ρ ⟨ha, t3⟩
  simp (maxSteps := 1000000) (disch := first | omega | (simp only [AM.DB, List.length_set, List.length_map]; first | done | omega)) only [AM.RB, Nat.reduceAdd, Nat.reduceMul, Nat.reduceEqDiff, reduceCtorEq, b69_G15]
  refine AM.condV_split (fun hlt => ?_) (fun hlt => ?_)
  · have hlt' : a < K.length := by omega
    obtain ⟨X3, b0, m3, bk3, fr3, _⟩ := id t3
    have hwl3 := fr3.get hw (fun e => by omega)
    have lt3 := AM.get_some_lt bk3.g2
    have lw3 := fr3.low
    have ka3 := m3.2.1.rd
    (repeat' (first | (simp (maxSteps := 1000000) (disch := first | omega | (simp only [AM.DB, List.length_set, List.length_map]; first | done | omega)) only [AM.RB, Nat.reduceAdd, Nat.reduceMul, Nat.reduceEqDiff, reduceCtorEq, b69_G15, ka3.ia el_52, Rd.ldb ka3 lk_5, Int.toNat_natCast]) | refine AM.drawW_loose (id := 1) hp (by kernel_rfl) (by kernel_rfl) ?_ | refine AM.drawW_fine (id := 8) hp (by kernel_rfl) (by kernel_rfl) (by kernel_rfl) ?_ | refine AM.drawW_loose (id := 9) hp (by kernel_rfl) (by kernel_rfl) ?_ | refine AM.drawW_loose (id := 10) hp (by kernel_rfl) (by kernel_rfl) ?_ | refine AM.opW_tied (by kernel_rfl) ?_ | refine AM.opW_untied (by kernel_rfl) ?_))
    generalize hE_ : AHeap.put _ (h3.next + 1) _ = h4
    have n4 : h4.next = h3.next + 2 := by rw [← hE_]; simp only [AM.nx_put, AM.nx_alloc]
    have l4 : h4.low = h3.low := by rw [← hE_]; simp only [AM.lw_put, AM.lw_alloc]
    have ga4 : h4.get h3.next = some (.cells [.int .i64 a] 3 false) := by rw [← hE_]; simp (maxSteps := 1000000) (disch := first | omega | (simp only [AM.DB, List.length_set, List.length_map]; first | done | omega)) only [AM.RB, Nat.reduceAdd, Nat.reduceMul, Nat.reduceEqDiff, reduceCtorEq, b69_G15]
    have gb4 : h4.get (h3.next + 1) = some (.cells [bV (K.getD a 0)] 5 false) := by rw [← hE_]; simp (maxSteps := 1000000) (disch := first | omega | (simp only [AM.DB, List.length_set, List.length_map]; first | done | omega)) only [AM.RB, Nat.reduceAdd, Nat.reduceMul, Nat.reduceEqDiff, reduceCtorEq, b69_G15]
    have fr4 : Fr none' h3 h4 := by
      rw [← hE_]
      exact ((((Fr.refl _ _).alloc _).alloc _).put _ (.inl (Nat.le_refl _))).put _ (.inl (Nat.le_succ _))
    clear hE_
    have b04 := b0.fr0 fr4
    (repeat' (first | (simp (maxSteps := 1000000) (disch := first | omega | (simp only [AM.DB, List.length_set, List.length_map]; first | done | omega)) only [AM.RB, Nat.reduceAdd, Nat.reduceMul, Nat.reduceEqDiff, reduceCtorEq, b69_G15, b0, b04, ga4]) | refine AM.drawW_loose (id := 1) hp (by kernel_rfl) (by kernel_rfl) ?_ | refine AM.drawW_fine (id := 8) hp (by kernel_rfl) (by kernel_rfl) (by kernel_rfl) ?_ | refine AM.drawW_loose (id := 9) hp (by kernel_rfl) (by kernel_rfl) ?_ | refine AM.drawW_loose (id := 10) hp (by kernel_rfl) (by kernel_rfl) ?_ | refine AM.opW_tied (by kernel_rfl) ?_ | refine AM.opW_untied (by kernel_rfl) ?_))
    refine sidesC_w fun h5 gm5 gc5 fr5 n5 => ?_
    have fr35 := fr4.trans fr5
    have nx3 := fr3.next
    have lw5 := fr35.low
    have hwl5 := hwl3.fr0 fr35
    have m5 := m3.fr0 fr35
    have ga5 := ga4.fr0 fr5
    have gb5 := gb4.fr0 fr5
    have hl5 : h5.low ≤ h5.next := by omega
    have hxs : (sideXs R C a).length = (sidesF R C a wayV).length := by unfold sideXs; rw [List.length_map]
    have t5 : TK h p (.slice ka K.length kc) R C K (edgesTo K R C a) (fun id => h3.next ≤ id ∧ id < h3.next + 4) (fun id => id < h5.next) h5 :=
      ((t3.lt.avoid fun id q e => by have := q.2; omega).keep (fun id q => fr35.old id q.2 (fun q => q)) (fun id q => fr35.old id (by omega) (fun q => q)) fr35.next fr35.low).mono fun id q => Nat.lt_of_lt_of_le q.2 fr35.next
    (repeat' (first | (simp (maxSteps := 1000000) (disch := first | omega | (simp only [AM.DB, List.length_set, List.length_map]; first | done | omega)) only [AM.RB, Nat.reduceAdd, Nat.reduceMul, Nat.reduceEqDiff, reduceCtorEq, b69_G15]) | refine AM.drawW_loose (id := 1) hp (by kernel_rfl) (by kernel_rfl) ?_ | refine AM.drawW_fine (id := 8) hp (by kernel_rfl) (by kernel_rfl) (by kernel_rfl) ?_ | refine AM.drawW_loose (id := 9) hp (by kernel_rfl) (by kernel_rfl) ?_ | refine AM.drawW_loose (id := 10) hp (by kernel_rfl) (by kernel_rfl) ?_ | refine AM.opW_tied (by kernel_rfl) ?_ | refine AM.opW_untied (by kernel_rfl) ?_))
    refine AM.range_iter2 hp (R := fun id => id = GW ∨ id = h4.next + 1 ∨ id = h4.next ∨ id = p) (xs := sideXs R C a) (AM.entersV_of Tryd.func101 rfl) (by kernel_rfl) (by kernel_rfl) ?_ ?_ hl5 ?_
      (fun i => AM.JK h5.next (fun S h' => TK h p (.slice ka K.length kc) R C K (edgesTo K R C a ++ edgesW K C a ((sidesF R C a wayV).take i)) (fun id => h3.next ≤ id ∧ id < h3.next + 4) S h' ∧ h'.get h3.next = some (.cells [.int .i64 a] 3 false) ∧ h'.get (h3.next + 1) = some (.cells [bV (K.getD a 0)] 5 false) ∧ S h3.next ∧ S (h3.next + 1))) (fun _ _ _ => False) ?_ (fun _ => AM.Stab.no)
      (fun i x e A h' => ∃ bx, AM.Sh e 97 [(1, pv h.next), (2, pv h3.next), (3, pv (h3.next + 1)), (4, x.getD 0 undef), (5, pv bx)] ∧ AM.JK h5.next (fun S h' => (TK h p (.slice ka K.length kc) R C K (edgesTo K R C a ++ edgesW K C a ((sidesF R C a wayV).take i)) (fun id => h3.next ≤ id ∧ id < h3.next + 4) S h' ∧ h'.get h3.next = some (.cells [.int .i64 a] 3 false) ∧ h'.get (h3.next + 1) = some (.cells [bV (K.getD a 0)] 5 false) ∧ S h3.next ∧ S (h3.next + 1)) ∧ S bx ∧ ∀ c, x[1]? = some (.agg c) → h'.get bx = some (.cells c.toList 123 false)) A h') ?_ ?_ ?_ ?_ ?_ ?_
    · intro x hx
      unfold sideXs at hx
      obtain ⟨q, _, rfl⟩ := List.mem_map.1 hx; rfl
    · rintro id (rfl | rfl | rfl | rfl)
      · exact AM.get_some_lt hwl5
      · omega
      · omega
      · exact AM.get_some_lt m5.1
    · exact sides1_w hwl5 gc5 gm5 m5 hb hC (by rw [← hK]; omega)
    · exact fun i => AM.JK.stab fun S x y hB ⟨hk, k1, k2, s1, s2⟩ hS hBl hn' hl' => ⟨hk.keep hS (fun id q => hBl id (by omega)) hn' hl', by rw [hS _ s1]; exact k1, by rw [hS _ s2]; exact k2, s1, s2⟩
    · exact fun i x e => AM.Stab.ex fun bx => AM.Stab.and (AM.JK.stab fun S x y hB ⟨⟨hk, k1, k2, s1, s2⟩, sb, hg⟩ hS hBl hn' hl' => ⟨⟨hk.keep hS (fun id q => hBl id (by omega)) hn' hl', by rw [hS _ s1]; exact k1, by rw [hS _ s2]; exact k2, s1, s2⟩, sb, fun c hx => by rw [hS bx sb]; exact hg c hx⟩)
    · rintro i x A h6 hx ⟨hB, hA, S, ⟨t6, k1, k2, s1, s2⟩, hS⟩ hA1 hL6 hlow6 hR6
      unfold sideXs at hx
      rw [List.getElem?_map] at hx
      obtain ⟨⟨ch, ag, dr, dc⟩, hq', rfl⟩ := Option.map_eq_some_iff.1 hx
      (repeat' (first | (simp (maxSteps := 1000000) (disch := first | omega | (simp only [AM.DB, List.length_set, List.length_map]; first | done | omega)) only [AM.RB, Nat.reduceAdd, Nat.reduceMul, Nat.reduceEqDiff, reduceCtorEq, b69_G15, encW]) | refine AM.drawW_loose (id := 1) hp (by kernel_rfl) (by kernel_rfl) ?_ | refine AM.drawW_fine (id := 8) hp (by kernel_rfl) (by kernel_rfl) (by kernel_rfl) ?_ | refine AM.drawW_loose (id := 9) hp (by kernel_rfl) (by kernel_rfl) ?_ | refine AM.drawW_loose (id := 10) hp (by kernel_rfl) (by kernel_rfl) ?_ | refine AM.opW_tied (by kernel_rfl) ?_ | refine AM.opW_untied (by kernel_rfl) ?_))
      generalize hE_ : AHeap.put (AHeap.alloc h6 _) _ _ = h7; obtain ⟨g7, fr7, n7, l7⟩ := AM.box_get hE_ (by omega); clear hE_
      have lt6 := AM.get_some_lt k1
      have fr6 := t6
      refine ⟨by omega, fun id q1 _ => fr7.old id q1 (fun q => q), h6.next, rfl, by omega, hA, fun id => (S id ∧ id < h6.next) ∨ id = h6.next, ⟨⟨(t6.lt.keep (fun id q => fr7.old id q.2 (fun q => q)) (fun id q => fr7.old id (by omega) (fun q => q)) fr7.next fr7.low).mono (fun id q => .inl q), k1.fr0 fr7, k2.fr0 fr7, .inl ⟨s1, AM.get_some_lt k1⟩, .inl ⟨s2, AM.get_some_lt k2⟩⟩, .inr rfl, ?_⟩, ?_⟩
      · rintro c hcx
        cases hcx; exact g7
      · rintro id (q | rfl)
        · exact ⟨by omega, (hS id q.1).2⟩
        · exact ⟨by omega, fun q => by have := (hA1 _ q).2; omega⟩
    · intro o
      refine ⟨Nat.le_succ _, fun id e => by omega, fun id => id < h5.next, ⟨?_, ?_, ?_, by omega, by omega⟩, fun id q => ⟨by simp only [AM.nx_alloc]; omega, by omega⟩⟩
      · unfold edgesW
        rw [List.take_zero, List.filter_nil, List.map_nil, List.append_nil]
        exact t5.keep (fun id q => AM.get_alloc_ne (by omega)) (fun id q => AM.get_alloc_ne (by omega)) (Nat.le_succ _) rfl
      · rw [AM.get_alloc_ne (by omega)]; exact ga5
      · rw [AM.get_alloc_ne (by omega)]; exact gb5
    · rintro i x e A h6 hx ⟨bx, he, hB, hA, S, ⟨⟨t6, k1, k2, s1, s2⟩, sbx, hbx⟩, hS⟩ hA1 hL6 hlow6 hR6
      obtain ⟨ρ, rfl⟩ := he.open'
      unfold sideXs at hx
      rw [List.getElem?_map] at hx
      obtain ⟨q, hq', rfl⟩ := Option.map_eq_some_iff.1 hx
      replace hbx := hbx _ rfl
      have hin : inB R C a q = true := by
        have := List.mem_of_getElem? hq'
        unfold sidesF at this
        exact (List.mem_filter.1 this).2
      obtain ⟨b, hcb, hbl⟩ := cellTo_lt hC hin
      have hes := edgesW_succ K C a (sidesF R C a wayV) hq'
      have hgo : goesP K C a q = (leavesP (K.getD a 0) q && !decide (((K.getD b 0).toNat : Int) = 35) && !decide (((K.getD b 0).toNat : Int) = q.2.1)) := by unfold goesP; rw [hcb, Int.toNat_natCast]
      rw [hcb, Int.toNat_natCast] at hes
      obtain ⟨X, u0, u1, u2, u3, v0, v1, v2, v3, v4, v5⟩ := id t6
      rw [hcb]
      obtain ⟨ch, ag, dr, dc⟩ := q
      replace hbx : h6.get bx = some (.cells (encW (ch, ag, dr, dc)) 123 false) := hbx
      have hgp := u1.1
      have ltp := AM.get_some_lt hgp
      have ltn := AM.get_some_lt u2.g1
      have ltb := AM.get_some_lt u2.g2
      have lw6 := u3.low
      (repeat' (first | (simp (maxSteps := 1000000) (disch := first | omega | (simp only [AM.DB, List.length_set, List.length_map]; first | done | omega)) only [AM.RB, Nat.reduceAdd, Nat.reduceMul, Nat.reduceEqDiff, reduceCtorEq, b69_G15, u0, k2, hbx, encW]) | refine AM.drawW_loose (id := 1) hp (by kernel_rfl) (by kernel_rfl) ?_ | refine AM.drawW_fine (id := 8) hp (by kernel_rfl) (by kernel_rfl) (by kernel_rfl) ?_ | refine AM.drawW_loose (id := 9) hp (by kernel_rfl) (by kernel_rfl) ?_ | refine AM.drawW_loose (id := 10) hp (by kernel_rfl) (by kernel_rfl) ?_ | refine AM.opW_tied (by kernel_rfl) ?_ | refine AM.opW_untied (by kernel_rfl) ?_))
      refine leaves_w (K.getD a 0) (ch, ag, dr, dc) fun h7 fr7 => ?_
      have n7 := fr7.next
      have l7 := fr7.low
      have u07 := u0.fr0 fr7
      have k17 := k1.fr0 fr7
      have k27 := k2.fr0 fr7
      have hbx7 := hbx.fr0 fr7
      have hgp7 := hgp.fr0 fr7
      have ka7 := (u1.2.1.fr0 fr7).rd
      have hfin : goesP K C a (ch, ag, dr, dc) = false → h6.next ≤ h7.next ∧ h7.low = h6.low ∧ (∀ id, id < h6.next → (A id ∨ id = GW ∨ id = h4.next + 1 ∨ id = h4.next ∨ id = p) → h7.get id = h6.get id) ∧
          AM.JK h5.next (fun S h' => TK h p (.slice ka K.length kc) R C K (edgesTo K R C a ++ edgesW K C a ((sidesF R C a wayV).take (i + 1))) (fun id => h3.next ≤ id ∧ id < h3.next + 4) S h' ∧ h'.get h3.next = some (.cells [.int .i64 a] 3 false) ∧ h'.get (h3.next + 1) = some (.cells [bV (K.getD a 0)] 5 false) ∧ S h3.next ∧ S (h3.next + 1)) A h7 := fun hf => by
        rw [hes, hf]
        refine ⟨by omega, by omega, fun id q1 _ => fr7.old id q1 (fun q => q), by omega, hA, fun id => S id ∧ id < h6.next, ⟨?_, k17, k27, ⟨s1, AM.get_some_lt k1⟩, ⟨s2, AM.get_some_lt k2⟩⟩, fun id q => ⟨by omega, (hS id q.1).2⟩⟩
        rw [if_neg (by simp), List.append_nil]
        exact t6.lt.keep (fun id q => fr7.old id q.2 (fun q => q)) (fun id q => fr7.old id (by omega) (fun q => q)) fr7.next fr7.low
      cases hle : leavesP (K.getD a 0) (ch, ag, dr, dc)
      · (repeat' (first | (simp (maxSteps := 1000000) (disch := first | omega | (simp only [AM.DB, List.length_set, List.length_map]; first | done | omega)) only [AM.RB, Nat.reduceAdd, Nat.reduceMul, Nat.reduceEqDiff, reduceCtorEq, b69_G15, u07, k27, hbx7, encW]) | refine AM.drawW_loose (id := 1) hp (by kernel_rfl) (by kernel_rfl) ?_ | refine AM.drawW_fine (id := 8) hp (by kernel_rfl) (by kernel_rfl) (by kernel_rfl) ?_ | refine AM.drawW_loose (id := 9) hp (by kernel_rfl) (by kernel_rfl) ?_ | refine AM.drawW_loose (id := 10) hp (by kernel_rfl) (by kernel_rfl) ?_ | refine AM.opW_tied (by kernel_rfl) ?_ | refine AM.opW_untied (by kernel_rfl) ?_))
        exact hfin (by rw [hgo, hle]; rfl)
      obtain ⟨p35, h35⟩ : ∃ x, decide (((K.getD b 0).toNat : Int) = 35) = x := ⟨_, rfl⟩
      obtain ⟨pag, hag⟩ : ∃ x, decide (((K.getD b 0).toNat : Int) = ag) = x := ⟨_, rfl⟩
      rw [hle, h35, show decide (((K.getD b 0).toNat : Int) = (ch, ag, dr, dc).2.1) = pag from hag] at hgo
      cases p35
      case true =>
        (repeat' (first | (simp (maxSteps := 1000000) (disch := first | omega | (simp only [AM.DB, List.length_set, List.length_map]; first | done | omega)) only [AM.RB, Nat.reduceAdd, Nat.reduceMul, Nat.reduceEqDiff, reduceCtorEq, b69_G15, u07, k27, hbx7, hgp7, ka7.ia el_52, Rd.ldb ka7 lk_5, Int.toNat_natCast, h35]) | refine AM.drawW_loose (id := 1) hp (by kernel_rfl) (by kernel_rfl) ?_ | refine AM.drawW_fine (id := 8) hp (by kernel_rfl) (by kernel_rfl) (by kernel_rfl) ?_ | refine AM.drawW_loose (id := 9) hp (by kernel_rfl) (by kernel_rfl) ?_ | refine AM.drawW_loose (id := 10) hp (by kernel_rfl) (by kernel_rfl) ?_ | refine AM.opW_tied (by kernel_rfl) ?_ | refine AM.opW_untied (by kernel_rfl) ?_))
        exact hfin (by rw [hgo]; rfl)
      cases pag
      case true =>
        (repeat' (first | (simp (maxSteps := 1000000) (disch := first | omega | (simp only [AM.DB, List.length_set, List.length_map]; first | done | omega)) only [AM.RB, Nat.reduceAdd, Nat.reduceMul, Nat.reduceEqDiff, reduceCtorEq, b69_G15, u07, k27, hbx7, hgp7, ka7.ia el_52, Rd.ldb ka7 lk_5, Int.toNat_natCast, h35, encW, hag]) | refine AM.drawW_loose (id := 1) hp (by kernel_rfl) (by kernel_rfl) ?_ | refine AM.drawW_fine (id := 8) hp (by kernel_rfl) (by kernel_rfl) (by kernel_rfl) ?_ | refine AM.drawW_loose (id := 9) hp (by kernel_rfl) (by kernel_rfl) ?_ | refine AM.drawW_loose (id := 10) hp (by kernel_rfl) (by kernel_rfl) ?_ | refine AM.opW_tied (by kernel_rfl) ?_ | refine AM.opW_untied (by kernel_rfl) ?_))
        exact hfin (by rw [hgo]; rfl)
      have hgt : goesP K C a (ch, ag, dr, dc) = true := by rw [hgo]; rfl
      rw [if_pos hgt] at hes
      have bk7 := u2.same (fun id q => fr7.old id (by rcases q with rfl | rfl | ⟨j, hj, q⟩; omega; omega; exact (u2.ow j hj).lt q) (fun q => q)) fr7.low
      have hnx := bk7.g1
      have hxa : ((List.range K.length).map X)[a]? = some (X a) := by rw [List.getElem?_map, List.getElem?_range hlt']; rfl
      (repeat' (first | (simp (maxSteps := 1000000) (disch := first | omega | (simp only [AM.DB, List.length_set, List.length_map]; first | done | omega)) only [AM.RB, Nat.reduceAdd, Nat.reduceMul, Nat.reduceEqDiff, reduceCtorEq, b69_G15, u07, k27, hbx7, hgp7, ka7.ia el_52, Rd.ldb ka7 lk_5, Int.toNat_natCast, h35, encW, hag, k17, hnx, hxa, Nat.mul_one, Nat.zero_add]) | refine AM.drawW_loose (id := 1) hp (by kernel_rfl) (by kernel_rfl) ?_ | refine AM.drawW_fine (id := 8) hp (by kernel_rfl) (by kernel_rfl) (by kernel_rfl) ?_ | refine AM.drawW_loose (id := 9) hp (by kernel_rfl) (by kernel_rfl) ?_ | refine AM.drawW_loose (id := 10) hp (by kernel_rfl) (by kernel_rfl) ?_ | refine AM.opW_tied (by kernel_rfl) ?_ | refine AM.opW_untied (by kernel_rfl) ?_))
      have hEl : ∀ j, (bothE (edgesTo K R C a ++ edgesW K C a ((sidesF R C a wayV).take i)) K.length j).length ≤ 4 * 1024 + 4 := fun j => by
        refine Nat.le_trans (bothE_len _ _ _) ?_
        rw [List.length_append]
        have h1 := edgesTo_len K R C a
        have h2 : (edgesW K C a ((sidesF R C a wayV).take i)).length ≤ 4 := by
          unfold edgesW sidesF
          rw [List.length_map]
          refine Nat.le_trans (List.length_filter_le _ _) ?_
          rw [List.length_take]
          exact Nat.le_trans (Nat.min_le_right _ _) (List.length_filter_le _ _)
        omega
      generalize hE : edgesTo K R C a ++ edgesW K C a ((sidesF R C a wayV).take i) = E at *
      generalize hE_ : AHeap.alloc h7 _ = h8; obtain ⟨g8, fr8, n8, l8⟩ := AM.new_get hE_; clear hE_
      have hEa := hEl a
      refine AM.appends_w ap_22 ap_22 ((bk7.ow a (by omega)).fr0 fr8) (AM.Rd.whole (n := 1) (c := [.int .i64 b]) g8 rfl) rfl (by omega) (AM.fits (by omega) (by omega)) (AM.fits' (by omega)) fun va h9 ow9 fr9 hid9 => ?_
      have va5 := v5 a (by omega)
      have hnx9 := fr9.get (hnx.fr0 fr8) (fun q => by have := (va5 _ q).2.1; omega)
      have u09 := fr9.get (u07.fr0 fr8) (fun q => by have := (va5 _ q).2.1; omega)
      have hgp9 := fr9.get (hgp7.fr0 fr8) (fun q => by have := (va5 _ q).2.1; omega)
      have k19 := fr9.get (k17.fr0 fr8) (fun q => (va5 _ q).2.2 ⟨Nat.le_refl _, by omega⟩)
      have u08 := u07.fr0 fr8
      have hgp8 := hgp7.fr0 fr8
      have k18 := k17.fr0 fr8
      have l9 := fr9.low
      have n9 := fr9.next
      obtain ⟨vaa, vac, rfl⟩ := ow9.form
      have hln : ((List.range K.length).map X).length = K.length := by simp
      (repeat' (first | (simp (maxSteps := 1000000) (disch := first | omega | (simp only [AM.DB, List.length_set, List.length_map]; first | done | omega)) only [AM.RB, Nat.reduceAdd, Nat.reduceMul, Nat.reduceEqDiff, reduceCtorEq, b69_G15, u09, hgp9, k19, hnx9]) | refine AM.drawW_loose (id := 1) hp (by kernel_rfl) (by kernel_rfl) ?_ | refine AM.drawW_fine (id := 8) hp (by kernel_rfl) (by kernel_rfl) (by kernel_rfl) ?_ | refine AM.drawW_loose (id := 9) hp (by kernel_rfl) (by kernel_rfl) ?_ | refine AM.drawW_loose (id := 10) hp (by kernel_rfl) (by kernel_rfl) ?_ | refine AM.opW_tied (by kernel_rfl) ?_ | refine AM.opW_untied (by kernel_rfl) ?_))
      have rn7 : Rd h7 22 1 (.slice (some ⟨h.next + 1, 0, none⟩) K.length K.length) K.length ((List.range K.length).map X) := AM.Rd.whole bk7.g1 (by simp)
      have rb7 : Rd h7 22 1 (.slice (some ⟨h.next + 2, 0, none⟩) K.length K.length) K.length ((List.range K.length).map fun j => X (K.length + j)) := AM.Rd.whole bk7.g2 (by simp)
      refine ⟨AM.looseOk_by [(0, [0, 15]), (3, [0, 15]), (4, [0, 15])] (by kernel_rfl) ?_, ?_⟩
      · simp (maxSteps := 1000000) (disch := first | omega | (simp only [AM.DB, List.length_set, List.length_map]; first | done | omega)) only [AM.RB, Nat.reduceAdd, Nat.reduceMul, Nat.reduceEqDiff, reduceCtorEq, b69_G15]
        (repeat' apply And.intro) <;> (first | (refine AM.stable_len _ _ _ _ _ _ (fun _ => ?_); (simp (maxSteps := 1000000) (disch := first | omega | (simp only [AM.DB, List.length_set, List.length_map]; first | done | omega)) only [AM.RB, Nat.reduceAdd, Nat.reduceMul, Nat.reduceEqDiff, reduceCtorEq, b69_G15, u07, u08, u09, hgp7, hgp8, hgp9, k17, k18, k19])) | (refine AM.stable_load _ _ _ _ _ _ ?_; (first | (simp (maxSteps := 1000000) (disch := first | omega | (simp only [AM.DB, List.length_set, List.length_map]; first | done | omega)) only [AM.RB, Nat.reduceAdd, Nat.reduceMul, Nat.reduceEqDiff, reduceCtorEq, b69_G15, u07, u08, u09, hgp7, hgp8, hgp9, k17, k18, k19]) | skip); (first | (refine AM.stabL_int (by omega) ?_; (simp (maxSteps := 1000000) (disch := first | omega | (simp only [AM.DB, List.length_set, List.length_map]; first | done | omega)) only [AM.RB, Nat.reduceAdd, Nat.reduceMul, Nat.reduceEqDiff, reduceCtorEq, b69_G15, u07, u08, u09, hgp7, hgp8, hgp9, k17, k18, k19])) | (refine AM.stabL_ptr (by omega) (by omega) ?_; (simp (maxSteps := 1000000) (disch := first | omega | (simp only [AM.DB, List.length_set, List.length_map]; first | done | omega)) only [AM.RB, Nat.reduceAdd, Nat.reduceMul, Nat.reduceEqDiff, reduceCtorEq, b69_G15, u07, u08, u09, hgp7, hgp8, hgp9, k17, k18, k19])) | (refine AM.stabL_string (by omega) ?_; (simp (maxSteps := 1000000) (disch := first | omega | (simp only [AM.DB, List.length_set, List.length_map]; first | done | omega)) only [AM.RB, Nat.reduceAdd, Nat.reduceMul, Nat.reduceEqDiff, reduceCtorEq, b69_G15, u07, u08, u09, hgp7, hgp8, hgp9, k17, k18, k19])) | (refine AM.stabL_bool (by omega) ?_; (simp (maxSteps := 1000000) (disch := first | omega | (simp only [AM.DB, List.length_set, List.length_map]; first | done | omega)) only [AM.RB, Nat.reduceAdd, Nat.reduceMul, Nat.reduceEqDiff, reduceCtorEq, b69_G15, u07, u08, u09, hgp7, hgp8, hgp9, k17, k18, k19])) | (refine AM.stabL_rd rn7 (by omega) (by omega) ?_; (simp (maxSteps := 1000000) (disch := first | omega | (simp only [AM.DB, List.length_set, List.length_map]; first | done | omega)) only [AM.RB, Nat.reduceAdd, Nat.reduceMul, Nat.reduceEqDiff, reduceCtorEq, b69_G15, u07, u08, u09, hgp7, hgp8, hgp9, k17, k18, k19])) | (refine AM.stabL_rd rb7 (by omega) (by omega) ?_; (simp (maxSteps := 1000000) (disch := first | omega | (simp only [AM.DB, List.length_set, List.length_map]; first | done | omega)) only [AM.RB, Nat.reduceAdd, Nat.reduceMul, Nat.reduceEqDiff, reduceCtorEq, b69_G15, u07, u08, u09, hgp7, hgp8, hgp9, k17, k18, k19])) | (refine AM.stabL_elS rn7 (by omega) (by omega) ?_; (simp (maxSteps := 1000000) (disch := first | omega | (simp only [AM.DB, List.length_set, List.length_map]; first | done | omega)) only [AM.RB, Nat.reduceAdd, Nat.reduceMul, Nat.reduceEqDiff, reduceCtorEq, b69_G15, u07, u08, u09, hgp7, hgp8, hgp9, k17, k18, k19])) | (refine AM.stabL_elI rn7 (by omega) (by omega) ?_; (simp (maxSteps := 1000000) (disch := first | omega | (simp only [AM.DB, List.length_set, List.length_map]; first | done | omega)) only [AM.RB, Nat.reduceAdd, Nat.reduceMul, Nat.reduceEqDiff, reduceCtorEq, b69_G15, u07, u08, u09, hgp7, hgp8, hgp9, k17, k18, k19])) | (refine AM.stabL_elS rb7 (by omega) (by omega) ?_; (simp (maxSteps := 1000000) (disch := first | omega | (simp only [AM.DB, List.length_set, List.length_map]; first | done | omega)) only [AM.RB, Nat.reduceAdd, Nat.reduceMul, Nat.reduceEqDiff, reduceCtorEq, b69_G15, u07, u08, u09, hgp7, hgp8, hgp9, k17, k18, k19])) | (refine AM.stabL_elI rb7 (by omega) (by omega) ?_; (simp (maxSteps := 1000000) (disch := first | omega | (simp only [AM.DB, List.length_set, List.length_map]; first | done | omega)) only [AM.RB, Nat.reduceAdd, Nat.reduceMul, Nat.reduceEqDiff, reduceCtorEq, b69_G15, u07, u08, u09, hgp7, hgp8, hgp9, k17, k18, k19])))))
      generalize hE_ : AHeap.put h9 _ _ = h10; obtain ⟨g10, fr10, n10, l10⟩ := AM.put_get hE_ (by omega); clear hE_
      rw [Int.toNat_natCast] at g10
      have bk10 := bk7.app (k := a) (by omega) fr8 ow9 fr9 hid9 (h.next + 1) (by rw [if_pos hlt']) (by simp only [hlt', if_true]; exact g10) fr10
      have u010 := fr10.get u09 (fun q => by have q : h.next = h.next + 1 := q; omega)
      have hgp10 := fr10.get hgp9 (fun q => by have q : p = h.next + 1 := q; omega)
      have k110 := fr10.get k19 (fun q => by have q : h3.next = h.next + 1 := q; omega)
      have hnb10 := bk10.g2
      have hvab : K.length + b < 2 * K.length := by omega
      have hlt10 : h.next + 3 ≤ h10.next := by omega
      obtain ⟨Y, hY⟩ : ∃ Y, upd X a (.slice vaa ((bothE E K.length a).length + 1) vac) = Y := ⟨_, rfl⟩
      obtain ⟨M, hM⟩ : ∃ M, upd (bothE E K.length) a (bothE E K.length a ++ [(b : Int)]) = M := ⟨_, rfl⟩
      have hMb : M (K.length + b) = bothE E K.length (K.length + b) := by rw [← hM]; unfold upd; rw [if_neg (by omega)]
      have hYb : Y (K.length + b) = X (K.length + b) := by rw [← hY]; unfold upd; rw [if_neg (by omega)]
      rw [hY, hM] at bk10
      rw [hY] at hnb10
      have vY : ∀ j, j < 2 * K.length → ∀ id, idOf (Y j) id → h.next + 3 ≤ id ∧ (¬ (h3.next ≤ id ∧ id < h3.next + 4)) ∧ (S id ∧ id < h6.next ∨ h8.next ≤ id) := fun j hj id q => by
        rw [← hY] at q
        unfold upd at q
        split at q
        · rcases hid9 id q with q | q
          · exact ⟨(va5 id q).2.1, (va5 id q).2.2, .inl ⟨(va5 id q).1, (u2.ow a (by omega)).lt q⟩⟩
          · exact ⟨by omega, by omega, .inr q⟩
        · exact ⟨(v5 j hj id q).2.1, (v5 j hj id q).2.2, .inl ⟨(v5 j hj id q).1, (u2.ow j hj).lt q⟩⟩
      have hxb : ((List.range K.length).map fun j => Y (K.length + j))[b]? = some (Y (K.length + b)) := by rw [List.getElem?_map, List.getElem?_range (by omega)]; rfl
      have l10 := fr10.low
      have n10 := fr10.next
      clear hfin hgo h35 hag hle
      (repeat' (first | (simp (maxSteps := 1000000) (disch := first | omega | (simp only [AM.DB, List.length_set, List.length_map]; first | done | omega)) only [AM.RB, Nat.reduceAdd, Nat.reduceMul, Nat.reduceEqDiff, reduceCtorEq, b69_G15, u010, hgp10, k110, hnb10, hxb, Nat.mul_one, Nat.zero_add, Int.toNat_natCast]) | refine AM.drawW_loose (id := 1) hp (by kernel_rfl) (by kernel_rfl) ?_ | refine AM.drawW_fine (id := 8) hp (by kernel_rfl) (by kernel_rfl) (by kernel_rfl) ?_ | refine AM.drawW_loose (id := 9) hp (by kernel_rfl) (by kernel_rfl) ?_ | refine AM.drawW_loose (id := 10) hp (by kernel_rfl) (by kernel_rfl) ?_ | refine AM.opW_tied (by kernel_rfl) ?_ | refine AM.opW_untied (by kernel_rfl) ?_))
      generalize hE_ : AHeap.alloc h10 _ = h11; obtain ⟨g11, fr11, n11, l11⟩ := AM.new_get hE_; clear hE_
      have hEb := hEl (K.length + b)
      refine AM.appends_w ap_22 ap_22 ((bk10.ow (K.length + b) hvab).fr0 fr11) (AM.Rd.whole (n := 1) (c := [.int .i64 a]) g11 rfl) rfl (by omega) (AM.fits (by rw [hMb]; omega) (by omega)) (AM.fits' (by rw [hMb]; omega)) fun vb h12 ow12 fr12 hid12 => ?_
      have vb5 := vY _ hvab
      have hnb12 := fr12.get (hnb10.fr0 fr11) (fun q => by have := (vb5 _ q).1; omega)
      have u012 := fr12.get (u010.fr0 fr11) (fun q => by have := (vb5 _ q).1; omega)
      have hgp12 := fr12.get (hgp10.fr0 fr11) (fun q => by have := (vb5 _ q).1; omega)
      have k112 := fr12.get (k110.fr0 fr11) (fun q => (vb5 _ q).2.1 ⟨Nat.le_refl _, by omega⟩)
      have u011 := u010.fr0 fr11
      have hgp11 := hgp10.fr0 fr11
      have k111 := k110.fr0 fr11
      have l12 := fr12.low
      have n12 := fr12.next
      obtain ⟨vba, vbc, rfl⟩ := ow12.form
      have hlnb : ((List.range K.length).map fun j => Y (K.length + j)).length = K.length := by simp
      (repeat' (first | (simp (maxSteps := 1000000) (disch := first | omega | (simp only [AM.DB, List.length_set, List.length_map]; first | done | omega)) only [AM.RB, Nat.reduceAdd, Nat.reduceMul, Nat.reduceEqDiff, reduceCtorEq, b69_G15, u012, hgp12, k112, hnb12]) | refine AM.drawW_loose (id := 1) hp (by kernel_rfl) (by kernel_rfl) ?_ | refine AM.drawW_fine (id := 8) hp (by kernel_rfl) (by kernel_rfl) (by kernel_rfl) ?_ | refine AM.drawW_loose (id := 9) hp (by kernel_rfl) (by kernel_rfl) ?_ | refine AM.drawW_loose (id := 10) hp (by kernel_rfl) (by kernel_rfl) ?_ | refine AM.opW_tied (by kernel_rfl) ?_ | refine AM.opW_untied (by kernel_rfl) ?_))
      have rb10 : Rd h10 22 1 (.slice (some ⟨h.next + 2, 0, none⟩) K.length K.length) K.length ((List.range K.length).map fun j => Y (K.length + j)) := AM.Rd.whole hnb10 (by simp)
      refine ⟨AM.looseOk_by [(0, [0, 15]), (3, [0, 15])] (by kernel_rfl) ?_, ?_⟩
      · simp (maxSteps := 1000000) (disch := first | omega | (simp only [AM.DB, List.length_set, List.length_map]; first | done | omega)) only [AM.RB, Nat.reduceAdd, Nat.reduceMul, Nat.reduceEqDiff, reduceCtorEq, b69_G15]
        (repeat' apply And.intro) <;> (first | (refine AM.stable_len _ _ _ _ _ _ (fun _ => ?_); (simp (maxSteps := 1000000) (disch := first | omega | (simp only [AM.DB, List.length_set, List.length_map]; first | done | omega)) only [AM.RB, Nat.reduceAdd, Nat.reduceMul, Nat.reduceEqDiff, reduceCtorEq, b69_G15, u010, u011, u012, hgp10, hgp11, hgp12, k110, k111, k112])) | (refine AM.stable_load _ _ _ _ _ _ ?_; (first | (simp (maxSteps := 1000000) (disch := first | omega | (simp only [AM.DB, List.length_set, List.length_map]; first | done | omega)) only [AM.RB, Nat.reduceAdd, Nat.reduceMul, Nat.reduceEqDiff, reduceCtorEq, b69_G15, u010, u011, u012, hgp10, hgp11, hgp12, k110, k111, k112]) | skip); (first | (refine AM.stabL_int (by omega) ?_; (simp (maxSteps := 1000000) (disch := first | omega | (simp only [AM.DB, List.length_set, List.length_map]; first | done | omega)) only [AM.RB, Nat.reduceAdd, Nat.reduceMul, Nat.reduceEqDiff, reduceCtorEq, b69_G15, u010, u011, u012, hgp10, hgp11, hgp12, k110, k111, k112])) | (refine AM.stabL_ptr (by omega) (by omega) ?_; (simp (maxSteps := 1000000) (disch := first | omega | (simp only [AM.DB, List.length_set, List.length_map]; first | done | omega)) only [AM.RB, Nat.reduceAdd, Nat.reduceMul, Nat.reduceEqDiff, reduceCtorEq, b69_G15, u010, u011, u012, hgp10, hgp11, hgp12, k110, k111, k112])) | (refine AM.stabL_string (by omega) ?_; (simp (maxSteps := 1000000) (disch := first | omega | (simp only [AM.DB, List.length_set, List.length_map]; first | done | omega)) only [AM.RB, Nat.reduceAdd, Nat.reduceMul, Nat.reduceEqDiff, reduceCtorEq, b69_G15, u010, u011, u012, hgp10, hgp11, hgp12, k110, k111, k112])) | (refine AM.stabL_bool (by omega) ?_; (simp (maxSteps := 1000000) (disch := first | omega | (simp only [AM.DB, List.length_set, List.length_map]; first | done | omega)) only [AM.RB, Nat.reduceAdd, Nat.reduceMul, Nat.reduceEqDiff, reduceCtorEq, b69_G15, u010, u011, u012, hgp10, hgp11, hgp12, k110, k111, k112])) | (refine AM.stabL_rd rb10 (by omega) (by omega) ?_; (simp (maxSteps := 1000000) (disch := first | omega | (simp only [AM.DB, List.length_set, List.length_map]; first | done | omega)) only [AM.RB, Nat.reduceAdd, Nat.reduceMul, Nat.reduceEqDiff, reduceCtorEq, b69_G15, u010, u011, u012, hgp10, hgp11, hgp12, k110, k111, k112])) | (refine AM.stabL_elS rb10 (by omega) (by omega) ?_; (simp (maxSteps := 1000000) (disch := first | omega | (simp only [AM.DB, List.length_set, List.length_map]; first | done | omega)) only [AM.RB, Nat.reduceAdd, Nat.reduceMul, Nat.reduceEqDiff, reduceCtorEq, b69_G15, u010, u011, u012, hgp10, hgp11, hgp12, k110, k111, k112])) | (refine AM.stabL_elI rb10 (by omega) (by omega) ?_; (simp (maxSteps := 1000000) (disch := first | omega | (simp only [AM.DB, List.length_set, List.length_map]; first | done | omega)) only [AM.RB, Nat.reduceAdd, Nat.reduceMul, Nat.reduceEqDiff, reduceCtorEq, b69_G15, u010, u011, u012, hgp10, hgp11, hgp12, k110, k111, k112])))))
      generalize hE_ : AHeap.put h12 _ _ = h13; obtain ⟨g13, fr13, n13, l13⟩ := AM.put_get hE_ (by omega); clear hE_
      rw [Int.toNat_natCast] at g13
      have bk13 := bk10.app (k := K.length + b) hvab fr11 ow12 fr12 hid12 (h.next + 2) (by rw [if_neg (by omega)]) (by simp only [show ¬ K.length + b < K.length by omega, if_false, Nat.add_sub_cancel_left]; exact g13) fr13
      have hold : ∀ id, id < h6.next → ¬ idOf (X a) id → ¬ idOf (Y (K.length + b)) id → id ≠ h.next + 1 → id ≠ h.next + 2 → h13.get id = h6.get id := fun id q1 q2 q3 q4 q5 => by
        rw [fr13.old id (by omega) q5, fr12.old id (by omega) q3, fr11.old id (by omega) (fun q => q), fr10.old id (by omega) q4, fr9.old id (by omega) q2, fr8.old id (by omega) (fun q => q), fr7.old id q1 (fun q => q)]
      have hXa : ∀ id, id < h.next → ¬ idOf (X a) id := fun id q1 q => by have := (va5 id q).2.1; omega
      have hYb' : ∀ id, id < h.next → ¬ idOf (Y (K.length + b)) id := fun id q1 q => by have := (vb5 id q).1; omega
      have hkvl : ∀ id, idOf (.slice ka K.length kc) id → id < h.next := fun id q => m.2.1.lt q
      refine ⟨by omega, by omega, fun id q1 q2 => ?_, by omega, hA, fun id => (S id ∧ id < h6.next) ∨ (h8.next ≤ id ∧ id < h13.next), ⟨⟨upd Y (K.length + b) (.slice vba ((M (K.length + b)).length + 1) vbc), ?_, ⟨?_, ?_, rfl, ?_, u1.2.2.2.2⟩, ?_, ?_, ?_, ?_, ?_, ?_, ?_, ?_⟩, ?_, ?_, ?_, ?_⟩, ?_⟩
      · refine hold id q1 ?_ ?_ ?_ ?_
        · intro q
          rcases q2 with q2 | rfl | rfl | rfl | rfl
          · exact (hS id (va5 id q).1).2 q2
          · exact hXa _ (by omega) q
          · exact (va5 _ q).2.2 (by omega)
          · exact (va5 _ q).2.2 (by omega)
          · exact hXa _ hpl q
        · intro q
          have hv := vb5 id q
          rcases q2 with q2 | rfl | rfl | rfl | rfl
          · rcases hv.2.2 with q5 | q5
            · exact (hS id q5.1).2 q2
            · omega
          · exact hYb' _ (by omega) q
          · exact hv.2.1 (by omega)
          · exact hv.2.1 (by omega)
          · exact hYb' _ hpl q
        · rintro rfl
          rcases q2 with q2 | q2 | q2 | q2 | q2
          · exact (hS _ v3).2 q2
          all_goals omega
        · rintro rfl
          rcases q2 with q2 | q2 | q2 | q2 | q2
          · exact (hS _ v4).2 q2
          all_goals omega
      · exact fr13.get u012 (fun q => by have q : h.next = h.next + 2 := q; omega)
      · exact fr13.get hgp12 (fun q => by have q : p = h.next + 2 := q; omega)
      · refine u1.2.1.same (fun id q => hold id (by have := hkvl id q; omega) (hXa id (hkvl id q)) (hYb' id (hkvl id q)) (by have := hkvl id q; omega) (by have := hkvl id q; omega)) (by omega)
      · omega
      · rw [hes, ← List.append_assoc, hE, bothE_snoc E K.length a b hlt', hM, ← hMb]
        exact bk13
      · exact ⟨by omega, by omega, fun id q1 q2 => by rw [hold id (by omega) (hXa id q1) (hYb' id q1) (by omega) (by omega)]; exact u3.old id q1 q2⟩
      · exact .inl ⟨v0, by omega⟩
      · exact .inl ⟨v1, by omega⟩
      · exact fun id q => .inl ⟨v2 id q, by have := hkvl id q; omega⟩
      · exact .inl ⟨v3, by omega⟩
      · exact .inl ⟨v4, by omega⟩
      · intro j hj id q
        have hlt13 := (bk13.ow j hj).lt q
        unfold upd at q
        split at q
        · rcases hid12 id q with q | q
          · have hv := vb5 id q
            exact ⟨hv.2.2.elim .inl (fun q5 => .inr ⟨q5, hlt13⟩), hv.1, hv.2.1⟩
          · exact ⟨.inr ⟨by omega, hlt13⟩, by omega, by omega⟩
        · have hv := vY j hj id q
          exact ⟨hv.2.2.elim .inl (fun q5 => .inr ⟨q5, hlt13⟩), hv.1, hv.2.1⟩
      · exact fr13.get k112 (fun q => by have q : h3.next = h.next + 2 := q; omega)
      · have k210 := fr10.get (fr9.get (k27.fr0 fr8) (fun q => (va5 _ q).2.2 ⟨by omega, by omega⟩)) (fun q => by have q : h3.next + 1 = h.next + 1 := q; omega)
        exact fr13.get (fr12.get (k210.fr0 fr11) (fun q => (vb5 _ q).2.1 ⟨by omega, by omega⟩)) (fun q => by have q : h3.next + 1 = h.next + 2 := q; omega)
      · exact .inl ⟨s1, AM.get_some_lt k1⟩
      · exact .inl ⟨s2, AM.get_some_lt k2⟩
      · rintro id (q | q)
        · exact ⟨by omega, (hS id q.1).2⟩
        · exact ⟨q.2, fun e => by have := (hA1 id e).2; omega⟩
    · rintro A h6 ⟨hB, hA, S, ⟨t6, k1, k2, s1, s2⟩, hS⟩ hA1 hL6 hlow6
      rw [hxs, List.take_length] at t6
      (repeat' (first | (simp (maxSteps := 1000000) (disch := first | omega | (simp only [AM.DB, List.length_set, List.length_map]; first | done | omega)) only [AM.RB, Nat.reduceAdd, Nat.reduceMul, Nat.reduceEqDiff, reduceCtorEq, b69_G15, AM.wrap_i64]) | refine AM.drawW_loose (id := 1) hp (by kernel_rfl) (by kernel_rfl) ?_ | refine AM.drawW_fine (id := 8) hp (by kernel_rfl) (by kernel_rfl) (by kernel_rfl) ?_ | refine AM.drawW_loose (id := 9) hp (by kernel_rfl) (by kernel_rfl) ?_ | refine AM.drawW_loose (id := 10) hp (by kernel_rfl) (by kernel_rfl) ?_ | refine AM.opW_tied (by kernel_rfl) ?_ | refine AM.opW_untied (by kernel_rfl) ?_))
      refine ⟨a + 1, by omega, congrArg _ (by omega), by omega, ?_⟩
      exact t6.any.mono fun _ _ => trivial
    · intro _ _ _ q; exact q.elim
  · have e : a = K.length := by omega
    subst e
    obtain ⟨X, t1, t2, t3', t4, _, _, _, _, _, s6⟩ := t3
    (repeat' (first | (simp (maxSteps := 1000000) (disch := first | omega | (simp only [AM.DB, List.length_set, List.length_map]; first | done | omega)) only [AM.RB, Nat.reduceAdd, Nat.reduceMul, Nat.reduceEqDiff, reduceCtorEq, b69_G15]) | refine AM.drawW_loose (id := 1) hp (by kernel_rfl) (by kernel_rfl) ?_ | refine AM.drawW_fine (id := 8) hp (by kernel_rfl) (by kernel_rfl) (by kernel_rfl) ?_ | refine AM.drawW_loose (id := 9) hp (by kernel_rfl) (by kernel_rfl) ?_ | refine AM.drawW_loose (id := 10) hp (by kernel_rfl) (by kernel_rfl) ?_ | refine AM.opW_tied (by kernel_rfl) ?_ | refine AM.opW_untied (by kernel_rfl) ?_))
    exact hq _ _ X _ t2 t3' t4 (by omega) (by omega) (fun j hj id q => by have := (s6 j hj id q).2.1; omega)

end Go.Proofs.YtgdcbjpookldoaaDoor

namespace Go.Proofs.YtgdcbjpookldoaaDoor
open Go.AM
set_option maxRecDepth 8000
theorem b70_G16 : type_of% (And.intro (@Option.isNone_none.{0}) (And.intro (@Option.isNone_some.{0}) (And.intro (AM.bin_snil ul_22) (And.intro (AM.bsW_int bs_22) (And.intro (AM.bsW_nil bs_22) (And.intro (AM.bsW_slice bs_22) (And.intro (AM.bsW_string bs_22) (And.intro (@AM.op_append) (And.intro (@AM.op_binOp) (@AM.op_buildSlice)))))))))) := And.intro (@Option.isNone_none.{0}) (And.intro (@Option.isNone_some.{0}) (And.intro (AM.bin_snil ul_22) (And.intro (AM.bsW_int bs_22) (And.intro (AM.bsW_nil bs_22) (And.intro (AM.bsW_slice bs_22) (And.intro (AM.bsW_string bs_22) (And.intro (@AM.op_append) (And.intro (@AM.op_binOp) (@AM.op_buildSlice)))))))))


/-! ### Next, Back -/
theorem callW_first {g : FuncId} {x : Value} {h : AHeap} {Q : VQ} (hh : W g [x] h Q) : CallW Tryd.prog prims (.func (.func g) #[x] #[]) [] h Q := by
  obtain ⟨n, v, h', e, q⟩ := hh
  refine ⟨n, v, h', ?_, q⟩
  rw [← e]
  cases n with
  | zero => rfl
  | succ n => unfold callE; rfl
theorem do_w {p off : Nat} {h : AHeap} {c : List Value} {e : TypeId} {d s : Int} {Q : VQ} (hg : h.get p = some (.cells c e false)) (h0 : c[off]? = some (.int .u32 d)) (h1 : c[off + 1]? = some (.int .i32 s)) (hl : h.low ≤ p)
    (hdone : d ≠ 0 → Q (.tuple #[]) h)
    (hdo : d = 0 → s = 0 ∧ W 69 [pv p] (h.put p (some (.cells (setRow c (off + 1) [.int .i32 1]) e false))) fun _ h2 => ∃ c2 e2, h2.get p = some (.cells c2 e2 false) ∧ c2[off]? = some (.int .u32 0) ∧ c2[off + 1]? = some (.int .i32 1) ∧
      Q (.tuple #[]) (h2.put p (some (.cells (setRow c2 off [.int .u32 1, .int .i32 0]) e2 false)))) :
    W 68 [.pointer (some ⟨p, off, none⟩), .func (.func 69) #[pv p] #[]] h Q := by
  by_cases hd : d = 0
  · obtain ⟨hs, hw⟩ := hdo hd
    subst hd; subst hs
    obtain ⟨n, v, h2, hc, c2, e2, k1, k2, k3, hq⟩ := callW_first hw
    refine AM.callW_prim hp (p := pDo) (by unfold prims; rfl) ⟨n, ?_⟩ hq
    show pDo _ _ _ = _
    unfold pDo
    have ha : pDoArg [.pointer (some ⟨p, off, none⟩), .func (.func 69) #[pv p] #[]] h = some (.inr (.func (.func 69) #[pv p] #[], h.put p (some (.cells (setRow c (off + 1) [.int .i32 1]) e false)), p, off)) := by
      unfold pDoArg
      simp [hg, h0, h1, hl]
    simp only [List.append_nil, List.nil_append]
    rw [ha]
    simp only
    rw [hc, Option.bind_some]
    unfold pDoEnd
    simp [k1, k2, k3]
  · refine AM.callW_prim hp (p := pDo) (by unfold prims; rfl) ⟨0, ?_⟩ (hdone hd)
    show pDo _ _ _ = _
    unfold pDo
    have ha : pDoArg [.pointer (some ⟨p, off, none⟩), .func (.func 69) #[pv p] #[]] h = some (.inl (.tuple #[], h)) := by
      unfold pDoArg
      simp [hg, h0, h1, hl, hd]
    simp only [List.append_nil, List.nil_append]
    rw [ha]

theorem clone_w {s : Value} {n : Nat} {cs : List Value} {h : AHeap} (hs : Rd h 3 1 s n cs) (hc : cs.all (·.oneCell') = true) (hn : n ≤ 4000000000) (hl : h.low ≤ h.next) {Q : VQ}
    (hq : ∀ v h', Ow h' 3 1 v n cs → Fr none' h h' → (∀ id, idOf v id → h.next ≤ id) → Q v h') : W 70 [s] h Q := by
  obtain ⟨a, cap, rfl⟩ := hs.form
  refine AM.enter hp (fn := Tryd.f70) (rs := [.tmp 2]) (nt := 8) (by kernel_rfl) Tryd.func70 rfl rfl rfl (by kernel_rfl) ?_
  simp (maxSteps := 1000000) (disch := first | omega | (simp only [AM.DB, List.length_set, List.length_map]; first | done | omega)) only [AM.RB, Nat.reduceAdd, Nat.reduceMul, Nat.reduceEqDiff, reduceCtorEq, b70_G16]
  cases a with
  | none =>
    simp (maxSteps := 1000000) (disch := first | omega | (simp only [AM.DB, List.length_set, List.length_map]; first | done | omega)) only [AM.RB, Nat.reduceAdd, Nat.reduceMul, Nat.reduceEqDiff, reduceCtorEq, b70_G16, Option.isNone_none]
    rcases hs with ⟨e, rfl, rfl⟩ | ⟨id, off, cap', c, e', o, e, _⟩
    · exact hq _ _ (Ow.nil _ _ _) (Fr.refl _ _) (fun _ q => q.elim)
    · cases e
  | some a =>
    simp (maxSteps := 1000000) (disch := first | omega | (simp only [AM.DB, List.length_set, List.length_map]; first | done | omega)) only [AM.RB, Nat.reduceAdd, Nat.reduceMul, Nat.reduceEqDiff, reduceCtorEq, b70_G16, Option.isNone_some]
    have fr0 : Fr none' h (h.alloc (.cells [] 3 false)) := (Fr.refl _ _).alloc _
    have ow0 : Ow (h.alloc (.cells [] 3 false)) 3 1 (.slice (some ⟨h.next, 0, none⟩) 0 0) 0 [] := AM.Ow.whole (n := 0) (AM.get_alloc_self rfl) rfl hl
    have hl1 : (h.alloc (.cells [] 3 false)).low ≤ (h.alloc (.cells [] 3 false)).next := by simp only [AHeap.next_alloc, AHeap.low_alloc]; omega
    refine AM.appends_w ap_22 ap_22 ow0 (hs.fr0 fr0) hc hl1 (AM.fits (by omega) (by omega)) (AM.fits' (by omega)) ?_
    intro v h' how fr hid
    simp (maxSteps := 1000000) (disch := first | omega | (simp only [AM.DB, List.length_set, List.length_map]; first | done | omega)) only [AM.RB, Nat.reduceAdd, Nat.reduceMul, Nat.reduceEqDiff, reduceCtorEq, b70_G16]
    rw [Nat.zero_add] at how
    refine hq _ _ how (fr0.then fr fun id h1 h2 => ?_) (fun id q => ?_)
    · have : id = h.next := h2
      omega
    · rcases hid id q with h2 | h2
      · have : id = h.next := h2
        omega
      · have : h.next + 1 ≤ id := h2
        omega

/-- A map in memory with what it owns; its tables are made, or not yet. -/
def Mt (h : AHeap) (p : Nat) (L : List (List UInt8)) (S : Nat → Prop) : Prop := ∃ kv, (∀ id, idOf kv id → S id) ∧ S p ∧ (∀ id, S id → id < h.next) ∧
  (Mp h p kv L.length (L.getD 0 []).length L.flatten (tlD 0 0 (.slice none 0 0) (.slice none 0 0)) ∨
   ∃ nid bid X, Mp h p kv L.length (L.getD 0 []).length L.flatten (tlD 1 0 (.slice (some ⟨nid, 0, none⟩) L.flatten.length L.flatten.length) (.slice (some ⟨bid, 0, none⟩) L.flatten.length L.flatten.length)) ∧
     Bk h L.flatten.length nid bid X (bothE (edgesTo L.flatten L.length (L.getD 0 []).length L.flatten.length) L.flatten.length) ∧ S nid ∧ S bid ∧ (∀ j, j < 2 * L.flatten.length → ∀ id, idOf (X j) id → S id) ∧ nid ≠ p ∧ bid ≠ p ∧ (∀ j, j < 2 * L.flatten.length → ¬ idOf (X j) p))
theorem Mt.mp {h : AHeap} {p : Nat} {L : List (List UInt8)} {S : Nat → Prop} (m : Mt h p L S) : ∃ kv tl, Mp h p kv L.length (L.getD 0 []).length L.flatten tl := by
  obtain ⟨kv, _, _, _, m | ⟨_, _, _, m, _⟩⟩ := m
  · exact ⟨_, _, m⟩
  · exact ⟨_, _, m⟩
theorem Mp.same {h h' : AHeap} {p : Nat} {kv : Value} {R C : Nat} {K : List UInt8} {tl : List Value} (m : Mp h p kv R C K tl) (h1 : h'.get p = h.get p) (h2 : ∀ id, idOf kv id → h'.get id = h.get id) (hl : h'.low = h.low) : Mp h' p kv R C K tl :=
  ⟨by rw [h1]; exact m.1, m.2.1.same h2 hl, m.2.2.1, by rw [hl]; exact m.2.2.2.1, m.2.2.2.2⟩
theorem Mt.keep {h h' : AHeap} {p : Nat} {L : List (List UInt8)} {S : Nat → Prop} (m : Mt h p L S) (hS : ∀ id, S id → h'.get id = h.get id) (hn : h.next ≤ h'.next) (hl : h'.low = h.low) : Mt h' p L S := by
  obtain ⟨kv, s1, s2, s3, m⟩ := m
  refine ⟨kv, s1, s2, fun id q => Nat.lt_of_lt_of_le (s3 id q) hn, ?_⟩
  rcases m with m | ⟨nid, bid, X, m, b, s4, s5, s6, s7⟩
  · exact .inl (m.same (hS _ s2) (fun id q => hS id (s1 id q)) hl)
  · refine .inr ⟨nid, bid, X, m.same (hS _ s2) (fun id q => hS id (s1 id q)) hl, b.same ?_ hl, s4, s5, s6, s7⟩
    rintro id (rfl | rfl | ⟨j, hj, q⟩)
    · exact hS _ s4
    · exact hS _ s5
    · exact hS _ (s6 j hj id q)
theorem Mt.fr {h h' : AHeap} {p : Nat} {L : List (List UInt8)} {S T : Nat → Prop} (m : Mt h p L S) (fr : Fr T h h') (hT : ∀ id, S id → ¬ T id) : Mt h' p L S := by
  have s3 := m.choose_spec.2.2.1
  exact m.keep (fun id q => fr.old id (s3 id q) (hT id q)) fr.next fr.low
theorem Mt.fr0 {h h' : AHeap} {p : Nat} {L : List (List UInt8)} {S : Nat → Prop} (m : Mt h p L S) (fr : Fr none' h h') : Mt h' p L S := m.fr fr fun _ _ q => q
theorem Mt.lt {h : AHeap} {p : Nat} {L : List (List UInt8)} {S : Nat → Prop} (m : Mt h p L S) {id : Nat} (q : S id) : id < h.next := m.choose_spec.2.2.1 id q
theorem Mt.self {h : AHeap} {p : Nat} {L : List (List UInt8)} {S : Nat → Prop} (m : Mt h p L S) : S p := m.choose_spec.2.1
/-- A text's size. -/
structure Fit (L : List (List UInt8)) : Prop where
  rows : 0 < L.length
  cols : 0 < (L.getD 0 []).length
  r32 : L.length ≤ 32
  c32 : (L.getD 0 []).length ≤ 32
  len : L.flatten.length = L.length * (L.getD 0 []).length
theorem Good.fit {l : List UInt8} {L : List (List UInt8)} (g : Good l L) : Fit L := ⟨g.rows, g.cols, g.r32, g.c32, g.len⟩
abbrev edgesL (L : List (List UInt8)) : List Ed := edgesTo L.flatten L.length (L.getD 0 []).length L.flatten.length
def nextL (L : List (List UInt8)) (i : Int) : List Int := if 0 ≤ i ∧ i < L.flatten.length then fromE (edgesL L) i.toNat else []
def backL (L : List (List UInt8)) (i : Int) : List Int := if 0 ≤ i ∧ i < L.flatten.length then intoE (edgesL L) i.toNat else []
/-- The tables are there afterwards. -/
theorem once_w {h : AHeap} {p : Nat} {L : List (List UInt8)} {S : Nat → Prop} (m : Mt h p L S) (f : Fit L) (hw : h.get GW = some (.cells waysC 123 false)) (hgl : GW < h.low) (hl : h.low ≤ h.next) {Q : VQ}
    (hq : ∀ kv nid bid X h' S', Mp h' p kv L.length (L.getD 0 []).length L.flatten (tlD 1 0 (.slice (some ⟨nid, 0, none⟩) L.flatten.length L.flatten.length) (.slice (some ⟨bid, 0, none⟩) L.flatten.length L.flatten.length)) →
      Bk h' L.flatten.length nid bid X (bothE (edgesL L) L.flatten.length) → Mt h' p L S' → (∀ id, S' id → S id ∨ h.next ≤ id) → Fr (fun id => id = p) h h' → (∀ j, j < 2 * L.flatten.length → ∀ id, idOf (X j) id → S' id) → Q (.tuple #[]) h') :
    W 68 [.pointer (some ⟨p, 3, none⟩), .func (.func 69) #[pv p] #[]] h Q := by
  obtain ⟨kv, s1, s2, s3, m⟩ := id m
  rcases m with m1 | ⟨nid, bid, X, m1, b, s4, s5, s6, s7⟩
  · refine do_w (d := 0) (s := 0) m1.1 rfl rfl m1.2.2.2.1 (fun q => absurd rfl q) (fun _ => ⟨rfl, ?_⟩)
    generalize hE_ : AHeap.put h _ _ = h1
    obtain ⟨g1, fr1, n1, l1⟩ := AM.put_get hE_ (AM.get_some_lt m1.1)
    clear hE_
    have m2 : Mp h1 p kv L.length (L.getD 0 []).length L.flatten (tlD 0 1 (.slice none 0 0) (.slice none 0 0)) :=
      ⟨g1, m1.2.1.fr fr1 (fun id q e => m1.2.2.2.2 (by have e : id = p := e; rw [← e]; exact q)), rfl, by rw [l1]; exact m1.2.2.2.1, m1.2.2.2.2⟩
    have hgp : GW ≠ p := by have := m1.2.2.2.1; omega
    refine tables_w (fr1.get hw hgp) (by rw [l1]; exact hgl) m2 f.rows f.cols f.len ⟨f.r32, f.c32⟩ (by omega) fun nid bid X h2 m3 b fr2 c1 c2 c3 => ?_
    refine ⟨_, _, m3.1, rfl, rfl, ?_⟩
    generalize hE_ : AHeap.put h2 _ _ = h3
    obtain ⟨g3, fr3, n3, l3⟩ := AM.put_get hE_ (AM.get_some_lt m3.1)
    clear hE_
    have lp := AM.get_some_lt m1.1
    have hne : ∀ j, j < 2 * L.flatten.length → ∀ id, idOf (X j) id → id ≠ p := fun j hj id q => by have := c3 j hj id q; omega
    have m4 : Mp h3 p kv L.length (L.getD 0 []).length L.flatten (tlD 1 0 (.slice (some ⟨nid, 0, none⟩) L.flatten.length L.flatten.length) (.slice (some ⟨bid, 0, none⟩) L.flatten.length L.flatten.length)) :=
      ⟨g3, m3.2.1.fr fr3 (fun id q e => m1.2.2.2.2 (by have e : id = p := e; rw [← e]; exact q)), rfl, by rw [l3]; exact m3.2.2.2.1, m1.2.2.2.2⟩
    have b3 : Bk h3 L.flatten.length nid bid X (bothE (edgesL L) L.flatten.length) := by
      refine b.same (fun id q => fr3.old id ?_ ?_) l3
      · rcases q with rfl | rfl | ⟨j, hj, q⟩
        · exact AM.get_some_lt b.g1
        · exact AM.get_some_lt b.g2
        · exact (b.ow j hj).lt q
      · rintro e
        have e : id = p := e
        rcases q with rfl | rfl | ⟨j, hj, q⟩
        · omega
        · omega
        · exact hne j hj id q e
    have fr13 : Fr (fun id => id = p) h h3 := ((fr1.then fr2 fun _ _ q => q).then fr3 fun _ _ q => q)
    have n2 := fr2.next
    have ltn := AM.get_some_lt b3.g1
    have ltb := AM.get_some_lt b3.g2
    refine hq kv nid bid X h3 (fun id => S id ∨ id = nid ∨ id = bid ∨ ∃ j, j < 2 * L.flatten.length ∧ idOf (X j) id) m4 b3 ⟨kv, fun id q => .inl (s1 id q), .inl s2, ?_, .inr ⟨nid, bid, X, m4, b3, .inr (.inl rfl), .inr (.inr (.inl rfl)), fun j hj id q => .inr (.inr (.inr ⟨j, hj, q⟩)), by omega, by omega, fun j hj q => hne j hj p q rfl⟩⟩ ?_ fr13 (fun j hj id q => .inr (.inr (.inr ⟨j, hj, q⟩)))
    · rintro id (q | rfl | rfl | ⟨j, hj, q⟩)
      · have := s3 id q; omega
      · exact ltn
      · exact ltb
      · exact (b3.ow j hj).lt q
    · rintro id (q | rfl | rfl | ⟨j, hj, q⟩)
      · exact .inl q
      · exact .inr (by omega)
      · exact .inr (by omega)
      · exact .inr (by have := c3 j hj id q; omega)
  · refine do_w (d := 1) (s := 0) m1.1 rfl rfl m1.2.2.2.1 (fun _ => ?_) (fun q => by cases q)
    exact hq kv nid bid X h S m1 b ⟨kv, s1, s2, s3, .inr ⟨nid, bid, X, m1, b, s4, s5, s6, s7⟩⟩ (fun id q => .inl q) (Fr.refl _ _) s6

end Go.Proofs.YtgdcbjpookldoaaDoor

namespace Go.Proofs.YtgdcbjpookldoaaDoor
open Go.AM
set_option maxRecDepth 8000
theorem b25_G17 : type_of% (And.intro (@List.map_toArray.{0,0}) (And.intro (@AM.fa_ptr) (And.intro (@fd_84_3) (And.intro (@fd_84_4) (And.intro (@AM.iaO_ok) (And.intro (AM.ia_slice el_82) (And.intro (@AM.ldO_agg) (And.intro (@AM.ldO_one) (And.intro (@AM.ld_ptr) (And.intro (@lk_22) (And.intro (@lk_82) (And.intro (@AM.op_call) (And.intro (@AM.op_fieldAddr) (And.intro (@AM.op_indexAddr) (And.intro (@AM.op_load) (And.intro (@AM.op_makeFunc) (And.intro (@AM.op_nilCheck) (And.intro (@AM.op_unOp) (And.intro (@AM.un_neg) (@AM.un_not)))))))))))))))))))) := And.intro (@List.map_toArray.{0,0}) (And.intro (@AM.fa_ptr) (And.intro (@fd_84_3) (And.intro (@fd_84_4) (And.intro (@AM.iaO_ok) (And.intro (AM.ia_slice el_82) (And.intro (@AM.ldO_agg) (And.intro (@AM.ldO_one) (And.intro (@AM.ld_ptr) (And.intro (@lk_22) (And.intro (@lk_82) (And.intro (@AM.op_call) (And.intro (@AM.op_fieldAddr) (And.intro (@AM.op_indexAddr) (And.intro (@AM.op_load) (And.intro (@AM.op_makeFunc) (And.intro (@AM.op_nilCheck) (And.intro (@AM.op_unOp) (And.intro (@AM.un_neg) (@AM.un_not)))))))))))))))))))
theorem b96_G17 : type_of% (And.intro (@List.map_toArray.{0,0}) (And.intro (@AM.fa_ptr) (And.intro (@fd_84_3) (And.intro (@fd_84_5) (And.intro (@AM.iaO_ok) (And.intro (AM.ia_slice el_82) (And.intro (@AM.ldO_agg) (And.intro (@AM.ldO_one) (And.intro (@AM.ld_ptr) (And.intro (@lk_22) (And.intro (@lk_82) (And.intro (@AM.op_call) (And.intro (@AM.op_fieldAddr) (And.intro (@AM.op_indexAddr) (And.intro (@AM.op_load) (And.intro (@AM.op_makeFunc) (And.intro (@AM.op_nilCheck) (And.intro (@AM.op_unOp) (And.intro (@AM.un_neg) (@AM.un_not)))))))))))))))))))) := And.intro (@List.map_toArray.{0,0}) (And.intro (@AM.fa_ptr) (And.intro (@fd_84_3) (And.intro (@fd_84_5) (And.intro (@AM.iaO_ok) (And.intro (AM.ia_slice el_82) (And.intro (@AM.ldO_agg) (And.intro (@AM.ldO_one) (And.intro (@AM.ld_ptr) (And.intro (@lk_22) (And.intro (@lk_82) (And.intro (@AM.op_call) (And.intro (@AM.op_fieldAddr) (And.intro (@AM.op_indexAddr) (And.intro (@AM.op_load) (And.intro (@AM.op_makeFunc) (And.intro (@AM.op_nilCheck) (And.intro (@AM.op_unOp) (And.intro (@AM.un_neg) (@AM.un_not)))))))))))))))))))
theorem ints_one (l : List Int) : (l.map (Value.int .i64)).all (·.oneCell') = true := by
  rw [List.all_eq_true]; intro x hx
  obtain ⟨n, _, rfl⟩ := List.mem_map.1 hx; rfl
theorem edgesL_len (L : List (List UInt8)) (f : Fit L) : (edgesL L).length ≤ 4096 := by
  have h1 := edgesTo_len L.flatten L.length (L.getD 0 []).length L.flatten.length
  have h2 : L.flatten.length ≤ 1024 := by rw [f.len]; exact Nat.le_trans (Nat.mul_le_mul f.r32 f.c32) (by decide)
  show (edgesTo L.flatten L.length (L.getD 0 []).length L.flatten.length).length ≤ 4096
  omega
theorem Fit.k1024 {L : List (List UInt8)} (f : Fit L) : L.flatten.length ≤ 1024 := by rw [f.len]; exact Nat.le_trans (Nat.mul_le_mul f.r32 f.c32) (by decide)
theorem next_w {h : AHeap} {p : Nat} {L : List (List UInt8)} {S : Nat → Prop} (m : Mt h p L S) (f : Fit L) (hw : h.get GW = some (.cells waysC 123 false)) (hgl : GW < h.low) (hl : h.low ≤ h.next) (i : Int) {Q : VQ}
    (hq : ∀ v h' S', Mt h' p L S' → (∀ id, S' id → S id ∨ h.next ≤ id) → Ow h' 3 1 v (nextL L i).length ((nextL L i).map (.int .i64)) → Fr (fun id => id = p) h h' → (∀ id, idOf v id → h.next ≤ id ∧ ¬ S' id) → Q v h') : W 25 [pv p, .int .i64 i] h Q := by
  obtain ⟨kv0, tl0', m0⟩ := m.mp
  have hK := f.k1024
  refine AM.enter hp (fn := Tryd.f25) (rs := [.tmp 4]) (nt := 23) (by kernel_rfl) Tryd.func25 rfl rfl rfl (by kernel_rfl) ?_
  (first | (simp (maxSteps := 1000000) (disch := first | omega | (simp only [AM.DB, List.length_set, List.length_map]; first | done | omega)) only [AM.RB, Nat.reduceAdd, Nat.reduceMul, Nat.reduceEqDiff, reduceCtorEq, b25_G17]) | skip)
  refine is_w m0 f.rows i _ ?_
  by_cases hi : 0 ≤ i ∧ i < L.flatten.length
  · (first | (simp (maxSteps := 1000000) (disch := first | omega | (simp only [AM.DB, List.length_set, List.length_map]; first | done | omega)) only [AM.RB, Nat.reduceAdd, Nat.reduceMul, Nat.reduceEqDiff, reduceCtorEq, b25_G17, decide_eq_true hi]) | skip)
    refine once_w m f hw hgl hl fun kv nid bid X h1 S1 m1 b mt1 hS1 fr1 hX => ?_
    have hg1 := m1.1
    obtain ⟨n, rfl⟩ := Int.eq_ofNat_of_zero_le hi.1
    have hn : n < L.flatten.length := by omega
    have hxa : ((List.range L.flatten.length).map X)[n]? = some (X n) := by rw [List.getElem?_map, List.getElem?_range hn]; rfl
    have hgn := b.g1
    have hl1 := fr1.hl hl
    have hEl := bothE_len (edgesL L) L.flatten.length n
    have hEL := edgesL_len L f
    (first | (simp (maxSteps := 1000000) (disch := first | omega | (simp only [AM.DB, List.length_set, List.length_map]; first | done | omega)) only [AM.RB, Nat.reduceAdd, Nat.reduceMul, Nat.reduceEqDiff, reduceCtorEq, b25_G17, hg1, hgn, hxa, Nat.mul_one, Nat.zero_add, Int.toNat_natCast]) | skip)
    have heq : bothE (edgesL L) L.flatten.length n = nextL L n := by unfold bothE nextL; rw [if_pos hn, if_pos ⟨by omega, by omega⟩, Int.toNat_natCast]
    refine clone_w ((b.ow n (by omega)).rd) (ints_one _) (by omega) hl1 fun v h2 o2 fr2 hid2 => ?_
    (first | (simp (maxSteps := 1000000) (disch := first | omega | (simp only [AM.DB, List.length_set, List.length_map]; first | done | omega)) only [AM.RB, Nat.reduceAdd, Nat.reduceMul, Nat.reduceEqDiff, reduceCtorEq, b25_G17]) | skip)
    rw [heq] at o2
    have n1 := fr1.next
    exact hq v h2 S1 (mt1.fr0 fr2) hS1 o2 (fr1.then fr2 fun _ _ q => q.elim) fun id q => ⟨by have := hid2 id q; omega, fun e => by have := hid2 id q; have := mt1.lt e; omega⟩
  · (first | (simp (maxSteps := 1000000) (disch := first | omega | (simp only [AM.DB, List.length_set, List.length_map]; first | done | omega)) only [AM.RB, Nat.reduceAdd, Nat.reduceMul, Nat.reduceEqDiff, reduceCtorEq, b25_G17, decide_eq_false hi]) | skip)
    refine hq _ h S m (fun _ q => .inl q) ?_ (Fr.refl _ _) (fun _ q => q.elim)
    unfold nextL; rw [if_neg hi]; exact Ow.nil _ _ _
theorem back_w {h : AHeap} {p : Nat} {L : List (List UInt8)} {S : Nat → Prop} (m : Mt h p L S) (f : Fit L) (hw : h.get GW = some (.cells waysC 123 false)) (hgl : GW < h.low) (hl : h.low ≤ h.next) (i : Int) {Q : VQ}
    (hq : ∀ v h' S', Mt h' p L S' → (∀ id, S' id → S id ∨ h.next ≤ id) → Ow h' 3 1 v (backL L i).length ((backL L i).map (.int .i64)) → Fr (fun id => id = p) h h' → (∀ id, idOf v id → h.next ≤ id ∧ ¬ S' id) → Q v h') : W 96 [pv p, .int .i64 i] h Q := by
  obtain ⟨kv0, tl0', m0⟩ := m.mp
  have hK := f.k1024
  refine AM.enter hp (fn := Tryd.f96) (rs := [.tmp 4]) (nt := 23) (by kernel_rfl) Tryd.func96 rfl rfl rfl (by kernel_rfl) ?_
  (first | (simp (maxSteps := 1000000) (disch := first | omega | (simp only [AM.DB, List.length_set, List.length_map]; first | done | omega)) only [AM.RB, Nat.reduceAdd, Nat.reduceMul, Nat.reduceEqDiff, reduceCtorEq, b96_G17]) | skip)
  refine is_w m0 f.rows i _ ?_
  by_cases hi : 0 ≤ i ∧ i < L.flatten.length
  · (first | (simp (maxSteps := 1000000) (disch := first | omega | (simp only [AM.DB, List.length_set, List.length_map]; first | done | omega)) only [AM.RB, Nat.reduceAdd, Nat.reduceMul, Nat.reduceEqDiff, reduceCtorEq, b96_G17, decide_eq_true hi]) | skip)
    refine once_w m f hw hgl hl fun kv nid bid X h1 S1 m1 b mt1 hS1 fr1 hX => ?_
    have hg1 := m1.1
    obtain ⟨n, rfl⟩ := Int.eq_ofNat_of_zero_le hi.1
    have hn : n < L.flatten.length := by omega
    have hxa : ((List.range L.flatten.length).map fun j => X (L.flatten.length + j))[n]? = some (X (L.flatten.length + n)) := by rw [List.getElem?_map, List.getElem?_range hn]; rfl
    have hgn := b.g2
    have hl1 := fr1.hl hl
    have hEl := bothE_len (edgesL L) L.flatten.length (L.flatten.length + n)
    have hEL := edgesL_len L f
    (first | (simp (maxSteps := 1000000) (disch := first | omega | (simp only [AM.DB, List.length_set, List.length_map]; first | done | omega)) only [AM.RB, Nat.reduceAdd, Nat.reduceMul, Nat.reduceEqDiff, reduceCtorEq, b96_G17, hg1, hgn, hxa, Nat.mul_one, Nat.zero_add, Int.toNat_natCast]) | skip)
    have heq : bothE (edgesL L) L.flatten.length (L.flatten.length + n) = backL L n := by unfold bothE backL; rw [if_neg (by omega), if_pos ⟨by omega, by omega⟩, Int.toNat_natCast, Nat.add_sub_cancel_left]
    refine clone_w ((b.ow (L.flatten.length + n) (by omega)).rd) (ints_one _) (by omega) hl1 fun v h2 o2 fr2 hid2 => ?_
    (first | (simp (maxSteps := 1000000) (disch := first | omega | (simp only [AM.DB, List.length_set, List.length_map]; first | done | omega)) only [AM.RB, Nat.reduceAdd, Nat.reduceMul, Nat.reduceEqDiff, reduceCtorEq, b96_G17]) | skip)
    rw [heq] at o2
    have n1 := fr1.next
    exact hq v h2 S1 (mt1.fr0 fr2) hS1 o2 (fr1.then fr2 fun _ _ q => q.elim) fun id q => ⟨by have := hid2 id q; omega, fun e => by have := hid2 id q; have := mt1.lt e; omega⟩
  · (first | (simp (maxSteps := 1000000) (disch := first | omega | (simp only [AM.DB, List.length_set, List.length_map]; first | done | omega)) only [AM.RB, Nat.reduceAdd, Nat.reduceMul, Nat.reduceEqDiff, reduceCtorEq, b96_G17, decide_eq_false hi]) | skip)
    refine hq _ h S m (fun _ q => .inl q) ?_ (Fr.refl _ _) (fun _ q => q.elim)
    unfold backL; rw [if_neg hi]; exact Ow.nil _ _ _
end Go.Proofs.YtgdcbjpookldoaaDoor

namespace Go.Proofs.YtgdcbjpookldoaaDoor
open Go.AM

/-! ### The edges, as the document has them -/
def farN (C a b : Nat) : Int := max (((a / C : Nat) : Int) - (b / C : Nat)) (((b / C : Nat) : Int) - (a / C : Nat)) + max (((a % C : Nat) : Int) - (b % C : Nat)) (((b % C : Nat) : Int) - (a % C : Nat))
def wayOf (C a b : Nat) : Int × Int := if (b : Int) = (a : Int) - 1 ∧ b / C = a / C then (60, 62) else if b / C < a / C then (94, 118) else if a / C < b / C then (118, 94) else (62, 60)
/-- Does an edge go from a cell to another one? -/
def edgeN (K : List UInt8) (C a b : Nat) : Bool := !decide (((K.getD a 0).toNat : Int) = 35) && !decide (((K.getD b 0).toNat : Int) = 35) && decide (farN C a b = 1) &&
  (decide (((K.getD a 0).toNat : Int) = 46) || decide (((K.getD a 0).toNat : Int) = (wayOf C a b).1)) && !decide (((K.getD b 0).toNat : Int) = (wayOf C a b).2)
/-- A way leads to a cell. -/
def hits (C a b : Nat) (q : Wy) : Prop := ((b / C : Nat) : Int) = rowTo C a q ∧ ((b % C : Nat) : Int) = colTo C a q
theorem hits_of {R C a b : Nat} {q : Wy} (hC : 0 < C) (hb : b < R * C) : (inB R C a q = true ∧ cellTo C a q = b) ↔ hits C a b q := by
  have hm := Nat.mod_lt b hC
  have hd : b / C < R := by rw [Nat.div_lt_iff_lt_mul hC]; exact hb
  have he : b / C * C + b % C = b := by rw [Nat.mul_comm]; exact Nat.div_add_mod b C
  unfold hits inB cellTo
  simp only [Bool.and_eq_true, decide_eq_true_eq]
  generalize rowTo C a q = r
  generalize colTo C a q = c
  constructor
  · rintro ⟨⟨⟨⟨h1, h2⟩, h3⟩, h4⟩, h5⟩
    obtain ⟨r, rfl⟩ := Int.eq_ofNat_of_zero_le h1
    obtain ⟨c, rfl⟩ := Int.eq_ofNat_of_zero_le h3
    have hb' : b = c + C * r := by
      have h6 : b = r * C + c := by
        have : (b : Int) = ((r * C + c : Nat) : Int) := by rw [← h5, Int.natCast_add, Int.natCast_mul]
        exact Int.ofNat.inj this
      rw [h6, Nat.mul_comm, Nat.add_comm]
    have hc : c < C := by omega
    rw [hb', Nat.add_mul_div_left _ _ hC, Nat.add_mul_mod_self_left, Nat.div_eq_of_lt hc, Nat.mod_eq_of_lt hc, Nat.zero_add]
    exact ⟨rfl, rfl⟩
  · rintro ⟨rfl, rfl⟩
    refine ⟨⟨⟨⟨Int.natCast_nonneg _, Int.ofNat_lt.2 hd⟩, Int.natCast_nonneg _⟩, Int.ofNat_lt.2 hm⟩, ?_⟩
    rw [← Int.natCast_mul, ← Int.natCast_add, he]
theorem far_hits {C a b : Nat} : farN C a b = 1 ↔ ∃ q ∈ wayV, hits C a b q := by
  unfold farN hits rowTo colTo wayV
  generalize a / C = ra
  generalize b / C = rb
  generalize a % C = ca
  generalize b % C = cb
  constructor
  · intro h
    have hh : ((rb : Int) = ra - 1 ∧ (cb : Int) = ca) ∨ ((rb : Int) = ra ∧ (cb : Int) = ca - 1) ∨ ((rb : Int) = ra ∧ (cb : Int) = ca + 1) ∨ ((rb : Int) = ra + 1 ∧ (cb : Int) = ca) := by omega
    rcases hh with ⟨h1, h2⟩ | ⟨h1, h2⟩ | ⟨h1, h2⟩ | ⟨h1, h2⟩
    · exact ⟨(94, 118, -1, 0), by simp, by simp only; omega, by simp only; omega⟩
    · exact ⟨(60, 62, 0, -1), by simp, by simp only; omega, by simp only; omega⟩
    · exact ⟨(62, 60, 0, 1), by simp, by simp only; omega, by simp only; omega⟩
    · exact ⟨(118, 94, 1, 0), by simp, by simp only; omega, by simp only; omega⟩
  · rintro ⟨q, hq, h1, h2⟩
    simp only [List.mem_cons, List.not_mem_nil, or_false] at hq
    rcases hq with rfl | rfl | rfl | rfl <;> simp only at h1 h2 <;> omega
theorem way_of {C a b : Nat} (hC : 0 < C) {q : Wy} (hq : q ∈ wayV) (h : hits C a b q) : wayOf C a b = (q.1, q.2.1) := by
  have ha : a / C * C + a % C = a := by rw [Nat.mul_comm]; exact Nat.div_add_mod a C
  have hb : b / C * C + b % C = b := by rw [Nat.mul_comm]; exact Nat.div_add_mod b C
  obtain ⟨h1, h2⟩ := h
  unfold rowTo at h1
  unfold colTo at h2
  unfold wayOf
  generalize hra : a / C = ra at *
  generalize hrb : b / C = rb at *
  generalize hca : a % C = ca at *
  generalize hcb : b % C = cb at *
  unfold wayV at hq
  simp only [List.mem_cons, List.not_mem_nil, or_false] at hq
  rcases hq with rfl | rfl | rfl | rfl <;> simp only at h1 h2
  · rw [if_neg (by omega), if_pos (by omega)]
  · have e : rb = ra := by omega
    subst e
    rw [if_pos ⟨by omega, rfl⟩]
  · have e : rb = ra := by omega
    subst e
    rw [if_neg (by omega), if_neg (by omega), if_neg (by omega)]
  · rw [if_neg (by omega), if_neg (by omega), if_pos (by omega)]
/-- The program's edges are the document's. -/
theorem edge_iff (K : List UInt8) {R C a b : Nat} (hC : 0 < C) (hb : b < R * C) : edgeN K C a b = true ↔ ∃ q ∈ wayV, inB R C a q = true ∧ goesP K C a q = true ∧ cellTo C a q = b := by
  unfold edgeN
  simp only [Bool.and_eq_true, decide_eq_true_eq, Bool.or_eq_true, Bool.not_eq_true', decide_eq_false_iff_not]
  constructor
  · rintro ⟨⟨⟨⟨h1, h2⟩, h3⟩, h4⟩, h5⟩
    obtain ⟨q, hq, hh⟩ := far_hits.1 h3
    obtain ⟨i1, i2⟩ := (hits_of hC hb).2 hh
    refine ⟨q, hq, i1, ?_, i2⟩
    rw [way_of hC hq hh] at h4 h5
    unfold goesP leavesP
    rw [i2, Int.toNat_natCast]
    simp only [Bool.and_eq_true, decide_eq_true_eq, Bool.or_eq_true, Bool.not_eq_true', decide_eq_false_iff_not]
    exact ⟨⟨h4, h2⟩, h5⟩
  · rintro ⟨q, hq, i1, hg, i2⟩
    have hh := (hits_of hC hb).1 ⟨i1, i2⟩
    rw [way_of hC hq hh]
    unfold goesP leavesP at hg
    rw [i2, Int.toNat_natCast] at hg
    simp only [Bool.and_eq_true, decide_eq_true_eq, Bool.or_eq_true, Bool.not_eq_true', decide_eq_false_iff_not] at hg
    obtain ⟨⟨g1, g2⟩, g3⟩ := hg
    refine ⟨⟨⟨⟨?_, g2⟩, far_hits.2 ⟨q, hq, hh⟩⟩, g1⟩, g3⟩
    unfold wayV at hq
    simp only [List.mem_cons, List.not_mem_nil, or_false] at hq
    rcases hq with rfl | rfl | rfl | rfl <;> simp only at g1 <;> omega
/-! ### Ascending lists -/
def Asc : List Nat → Prop
  | [] => True
  | x :: l => (∀ y ∈ l, x < y) ∧ Asc l
theorem asc_eq : ∀ {l m : List Nat}, Asc l → Asc m → (∀ x, x ∈ l ↔ x ∈ m) → l = m
  | [], [], _, _, _ => rfl
  | [], y :: m, _, _, h => by have := (h y).2 (by simp); cases this
  | x :: l, [], _, _, h => by have := (h x).1 (by simp); cases this
  | x :: l, y :: m, ⟨a1, a2⟩, ⟨b1, b2⟩, h => by
    have e : x = y := by
      have h1 := (h x).1 (by simp)
      have h2 := (h y).2 (by simp)
      rcases List.mem_cons.1 h1 with q | q
      · exact q
      · rcases List.mem_cons.1 h2 with q2 | q2
        · exact q2.symm
        · have := b1 x q; have := a1 y q2; omega
    subst e
    rw [asc_eq a2 b2 fun z => ?_]
    constructor
    · intro hz
      rcases List.mem_cons.1 ((h z).1 (by simp [hz])) with q | q
      · have := a1 z hz; omega
      · exact q
    · intro hz
      rcases List.mem_cons.1 ((h z).2 (by simp [hz])) with q | q
      · have := b1 z hz; omega
      · exact q
theorem asc_append : ∀ {l m : List Nat}, Asc l → Asc m → (∀ x ∈ l, ∀ y ∈ m, x < y) → Asc (l ++ m)
  | [], _, _, hm, _ => hm
  | x :: l, m, ⟨a1, a2⟩, hm, h => ⟨fun y hy => (List.mem_append.1 hy).elim (a1 y) (h x (by simp) y), asc_append a2 hm fun z hz => h z (by simp [hz])⟩
theorem asc_filter {p : Nat → Bool} : ∀ {l : List Nat}, Asc l → Asc (l.filter p)
  | [], _ => trivial
  | x :: l, ⟨a1, a2⟩ => by
    rw [List.filter_cons]
    split
    · exact ⟨fun y hy => a1 y (List.mem_filter.1 hy).1, asc_filter a2⟩
    · exact asc_filter a2
theorem asc_range : ∀ n, Asc (List.range n)
  | 0 => trivial
  | n + 1 => by
    rw [List.range_succ]
    refine asc_append (asc_range n) ⟨fun y hy => by simp at hy, trivial⟩ fun x hx y hy => ?_
    have := List.mem_range.1 hx
    simp at hy; omega

/-- Where one goes from a cell, in order. -/
def outsW (K : List UInt8) (R C a : Nat) : List Nat := ((sidesF R C a wayV).filter (goesP K C a)).map fun q => (cellTo C a q).toNat
theorem outs_mem (K : List UInt8) {R C a b : Nat} (hC : 0 < C) : b ∈ outsW K R C a ↔ b < R * C ∧ edgeN K C a b = true := by
  unfold outsW sidesF
  rw [List.mem_map]
  constructor
  · rintro ⟨q, hq, rfl⟩
    obtain ⟨h1, h2⟩ := List.mem_filter.1 hq
    obtain ⟨h3, h4⟩ := List.mem_filter.1 h1
    obtain ⟨b, hb, hbl⟩ := cellTo_lt hC h4
    rw [hb, Int.toNat_natCast]
    exact ⟨hbl, (edge_iff K hC hbl).2 ⟨q, h3, h4, h2, hb⟩⟩
  · rintro ⟨hb, he⟩
    obtain ⟨q, h1, h2, h3, h4⟩ := (edge_iff K hC hb).1 he
    exact ⟨q, List.mem_filter.2 ⟨List.mem_filter.2 ⟨h1, h2⟩, h3⟩, by rw [h4, Int.toNat_natCast]⟩
theorem outs_asc (K : List UInt8) {R C a : Nat} (hC : 0 < C) : Asc (outsW K R C a) := by
  unfold outsW sidesF
  rw [List.filter_filter]
  have hm := Nat.mod_lt a hC
  -- the four, one behind the other
  have key : ∀ (l : List Wy), (∀ q ∈ l, inB R C a q = true → ∃ b : Nat, cellTo C a q = b) → (l.Pairwise fun q r => inB R C a q = true → inB R C a r = true → cellTo C a q < cellTo C a r) → Asc ((l.filter fun q => goesP K C a q && inB R C a q).map fun q => (cellTo C a q).toNat) := by
    intro l
    induction l with
    | nil => intro _ _; trivial
    | cons q l ih =>
      intro h1 h2
      rw [List.pairwise_cons] at h2
      rw [List.filter_cons]
      split
      · rename_i hc
        rw [Bool.and_eq_true] at hc
        refine ⟨fun y hy => ?_, ih (fun r hr => h1 r (by simp [hr])) h2.2⟩
        obtain ⟨r, hr, rfl⟩ := List.mem_map.1 hy
        obtain ⟨hr1, hr2⟩ := List.mem_filter.1 hr
        rw [Bool.and_eq_true] at hr2
        have := h2.1 r hr1 hc.2 hr2.2
        obtain ⟨b1, e1⟩ := h1 q (by simp) hc.2
        obtain ⟨b2, e2⟩ := h1 r (by simp [hr1]) hr2.2
        simp only
        rw [e1, e2] at this ⊢
        omega
      · exact ih (fun r hr => h1 r (by simp [hr])) h2.2
  refine key wayV (fun q _ h => (cellTo_lt hC h).imp fun _ q => q.1) ?_
  unfold wayV
  simp only [List.pairwise_cons, List.mem_cons, List.not_mem_nil, or_false, forall_eq_or_imp, forall_eq, false_implies, implies_true, List.Pairwise.nil, and_true]
  unfold inB cellTo rowTo colTo
  simp only [Bool.and_eq_true, decide_eq_true_eq]
  generalize a / C = ra
  generalize a % C = ca at *
  have e1 : ((ra : Int) + -1) * C = ra * C - C := by rw [Int.add_mul]; omega
  have e2 : ((ra : Int) + 1) * C = ra * C + C := by rw [Int.add_mul]; omega
  have e3 : ((ra : Int) + 0) * C = ra * C := by rw [Int.add_zero]
  rw [e1, e2, e3]
  generalize (ra : Int) * C = rc
  refine ⟨⟨?_, ?_, ?_⟩, ⟨?_, ?_⟩, ?_⟩ <;> (rintro ⟨⟨⟨_, _⟩, _⟩, _⟩ ⟨⟨⟨_, _⟩, _⟩, _⟩; omega)
theorem outs_eq (K : List UInt8) {R C a : Nat} (hC : 0 < C) : outsW K R C a = (List.range (R * C)).filter (edgeN K C a) :=
  asc_eq (outs_asc K hC) (asc_filter (asc_range _)) fun b => by rw [outs_mem K hC, List.mem_filter, List.mem_range]

theorem from_edges (K : List UInt8) (R C : Nat) : ∀ (n a : Nat), fromE (edgesTo K R C n) a = if a < n then (outsW K R C a).map fun (b : Nat) => (b : Int) else []
  | 0, a => by simp [edgesTo, fromE]
  | n + 1, a => by
    have ih := from_edges K R C n a
    have hs : fromE (edgesTo K R C (n + 1)) a = fromE (edgesTo K R C n) a ++ fromE (edgesW K C n (sidesF R C n wayV)) a := by
      rw [edgesTo]; unfold fromE; rw [List.filter_append, List.map_append]
    rw [hs, ih]
    by_cases e : a = n
    · subst e
      rw [if_neg (by omega), if_pos (by omega), List.nil_append]
      unfold fromE edgesW outsW
      rw [List.filter_map, List.map_map, List.map_map]
      congr 1
      rw [List.filter_eq_self]
      intro q _
      simp
    · have : fromE (edgesW K C n (sidesF R C n wayV)) a = [] := by
        unfold fromE edgesW
        rw [List.filter_map, List.map_map, List.map_eq_nil_iff, List.filter_eq_nil_iff]
        intro q _
        have : n ≠ a := fun q => e q.symm
        simp [this]
      rw [this, List.append_nil]
      by_cases h : a < n
      · rw [if_pos h, if_pos (by omega)]
      · rw [if_neg h, if_neg (by omega)]
theorem into_edges (K : List UInt8) {R C : Nat} (hC : 0 < C) {b : Nat} (hb : b < R * C) : ∀ (n : Nat), intoE (edgesTo K R C n) b = ((List.range n).filter fun a => edgeN K C a b).map fun (a : Nat) => (a : Int)
  | 0 => by simp [edgesTo, intoE]
  | n + 1 => by
    have ih := into_edges K hC hb n
    have hs : intoE (edgesTo K R C (n + 1)) b = intoE (edgesTo K R C n) b ++ intoE (edgesW K C n (sidesF R C n wayV)) b := by
      rw [edgesTo]; unfold intoE; rw [List.filter_append, List.map_append]
    rw [hs, ih, List.range_succ, List.filter_append, List.map_append]
    congr 1
    have h1 : intoE (edgesW K C n (sidesF R C n wayV)) b = ((outsW K R C n).filter fun x => decide (x = b)).map fun _ => (n : Int) := by
      unfold intoE edgesW outsW
      rw [List.filter_map, List.filter_map, List.map_map, List.map_map]
      rfl
    rw [h1, List.filter_cons, List.filter_nil]
    have hasc := outs_asc K (R := R) (a := n) hC
    have hmem := outs_mem K (R := R) (a := n) (b := b) hC
    have hcount : ∀ l : List Nat, Asc l → (l.filter fun x => decide (x = b)) = if b ∈ l then [b] else [] := by
      intro l
      induction l with
      | nil => intro _; simp
      | cons x l ih =>
        rintro ⟨a1, a2⟩
        rw [List.filter_cons, ih a2]
        by_cases e : x = b
        · subst e
          have : x ∉ l := fun q => by have := a1 x q; omega
          simp [this]
        · have : b ≠ x := fun q => e q.symm
          simp [e, this]
    rw [hcount _ hasc]
    cases he : edgeN K C n b with
    | true => rw [if_pos (hmem.2 ⟨hb, he⟩), if_pos rfl]; rfl
    | false =>
      rw [if_neg (fun q => by have := (hmem.1 q).2; rw [he] at this; cases this)]; rfl
theorem nextL_eq {L : List (List UInt8)} (f : Fit L) (i : Int) : nextL L i = if 0 ≤ i ∧ i < L.flatten.length then ((List.range L.flatten.length).filter (edgeN L.flatten (L.getD 0 []).length i.toNat)).map (fun (b : Nat) => (b : Int)) else [] := by
  unfold nextL
  split
  · rename_i h
    rw [from_edges, if_pos (by omega), outs_eq _ f.cols, f.len]
  · rfl
theorem backL_eq {L : List (List UInt8)} (f : Fit L) (i : Int) : backL L i = if 0 ≤ i ∧ i < L.flatten.length then ((List.range L.flatten.length).filter fun a => edgeN L.flatten (L.getD 0 []).length a i.toNat).map (fun (b : Nat) => (b : Int)) else [] := by
  unfold backL
  split
  · rename_i h
    rw [into_edges _ f.cols (by rw [← f.len]; omega)]
  · rfl

end Go.Proofs.YtgdcbjpookldoaaDoor

namespace Go.Proofs.YtgdcbjpookldoaaDoor
open Go.AM
set_option maxRecDepth 8000
theorem b67_G19 : type_of% (And.intro (@AM.aMax_int) (And.intro (@AM.bin_sub) (And.intro (@AM.op_binOp) (@AM.op_max2)))) := And.intro (@AM.aMax_int) (And.intro (@AM.bin_sub) (And.intro (@AM.op_binOp) (@AM.op_max2)))
theorem b24_G19 : type_of% (And.intro (@AM.bin_add) (And.intro (@AM.bin_quo) (And.intro (@AM.bin_rem) (And.intro (@AM.fa_ptr) (And.intro (@fd_84_1) (And.intro (@AM.ldO_agg) (And.intro (@AM.ldO_one) (And.intro (@AM.ld_ptr) (And.intro (@lk_3) (And.intro (@AM.op_binOp) (And.intro (@AM.op_call) (And.intro (@AM.op_fieldAddr) (And.intro (@AM.op_load) (And.intro (@AM.op_nilCheck) (And.intro (@AM.op_unOp) (And.intro (@AM.un_neg) (@AM.un_not))))))))))))))))) := And.intro (@AM.bin_add) (And.intro (@AM.bin_quo) (And.intro (@AM.bin_rem) (And.intro (@AM.fa_ptr) (And.intro (@fd_84_1) (And.intro (@AM.ldO_agg) (And.intro (@AM.ldO_one) (And.intro (@AM.ld_ptr) (And.intro (@lk_3) (And.intro (@AM.op_binOp) (And.intro (@AM.op_call) (And.intro (@AM.op_fieldAddr) (And.intro (@AM.op_load) (And.intro (@AM.op_nilCheck) (And.intro (@AM.op_unOp) (And.intro (@AM.un_neg) (@AM.un_not))))))))))))))))
theorem b19_G19 : type_of% (And.intro (@AM.bin_add) (And.intro (@AM.bin_lss) (And.intro (@AM.bin_neq) (And.intro (@AM.iaO_ok) (And.intro (AM.ia_slice el_22) (And.intro (@AM.ldO_agg) (And.intro (@AM.ldO_one) (And.intro (@AM.ld_ptr) (And.intro (AM.len_slice ul_22) (And.intro (@lk_3) (And.intro (@AM.op_binOp) (And.intro (@AM.op_indexAddr) (And.intro (@AM.op_len) (@AM.op_load)))))))))))))) := And.intro (@AM.bin_add) (And.intro (@AM.bin_lss) (And.intro (@AM.bin_neq) (And.intro (@AM.iaO_ok) (And.intro (AM.ia_slice el_22) (And.intro (@AM.ldO_agg) (And.intro (@AM.ldO_one) (And.intro (@AM.ld_ptr) (And.intro (AM.len_slice ul_22) (And.intro (@lk_3) (And.intro (@AM.op_binOp) (And.intro (@AM.op_indexAddr) (And.intro (@AM.op_len) (@AM.op_load)))))))))))))


def farL (L : List (List UInt8)) (a b : Int) : Int := if (0 ≤ a ∧ a < L.flatten.length) ∧ 0 ≤ b ∧ b < L.flatten.length then farN (L.getD 0 []).length a.toNat b.toNat else -1
theorem apart_w {x y : Int} {h : AHeap} (hx : 0 ≤ x ∧ x ≤ 4000000) (hy : 0 ≤ y ∧ y ≤ 4000000) {Q : VQ} (hq : Q (.int .i64 (max (x - y) (y - x))) h) : W 67 [.int .i64 x, .int .i64 y] h Q := by
  refine AM.enter hp (fn := Tryd.f67) (rs := [.tmp 4]) (nt := 12) (by kernel_rfl) Tryd.func67 rfl rfl rfl (by kernel_rfl) ?_
  (first | (simp (maxSteps := 1000000) (disch := first | omega | (simp only [AM.DB, List.length_set, List.length_map]; first | done | omega)) only [AM.RB, Nat.reduceAdd, Nat.reduceMul, Nat.reduceEqDiff, reduceCtorEq, b67_G19, AM.wrap_i64]) | skip)
  exact hq
theorem tdiv_nat (n C : Nat) : (n : Int).tdiv C = ((n / C : Nat) : Int) := by rw [Int.tdiv_eq_ediv_of_nonneg (by omega)]; rfl
theorem tmod_nat (n C : Nat) : (n : Int).tmod C = ((n % C : Nat) : Int) := by rw [Int.tmod_eq_emod_of_nonneg (by omega)]; rfl
theorem wrap_nat {n : Nat} (h : n ≤ 4000000000) : IntKind.i64.wrap (n : Int) = n := AM.wrap_i64 (by omega) (by omega)
set_option maxHeartbeats 1000000 in
theorem far_w {h : AHeap} {p : Nat} {kv : Value} {tl : List Value} {L : List (List UInt8)} (m : Mp h p kv L.length (L.getD 0 []).length L.flatten tl) (f : Fit L) (a b : Int) {Q : VQ} (hq : Q (.int .i64 (farL L a b)) h) : W 24 [pv p, .int .i64 a, .int .i64 b] h Q := by
  have hg := m.1
  have hpl := AM.get_some_lt hg
  have hK := f.k1024
  have hC := f.cols
  unfold farL at hq
  refine AM.enter hp (fn := Tryd.f24) (rs := [.tmp 6]) (nt := 44) (by kernel_rfl) Tryd.func24 rfl rfl rfl (by kernel_rfl) ?_
  (repeat' (first | (simp (maxSteps := 1000000) (disch := first | omega | (simp only [AM.DB, List.length_set, List.length_map]; first | done | omega)) only [AM.RB, Nat.reduceAdd, Nat.reduceMul, Nat.reduceEqDiff, reduceCtorEq, b24_G19]) | refine AM.drawW_loose (id := 3) hp (by kernel_rfl) (by kernel_rfl) ?_ | refine AM.opW_tied (by kernel_rfl) ?_ | refine AM.opW_untied (by kernel_rfl) ?_))
  refine is_w m f.rows a _ ?_
  by_cases ha : 0 ≤ a ∧ a < L.flatten.length
  · (repeat' (first | (simp (maxSteps := 1000000) (disch := first | omega | (simp only [AM.DB, List.length_set, List.length_map]; first | done | omega)) only [AM.RB, Nat.reduceAdd, Nat.reduceMul, Nat.reduceEqDiff, reduceCtorEq, b24_G19, decide_eq_true ha]) | refine AM.drawW_loose (id := 3) hp (by kernel_rfl) (by kernel_rfl) ?_ | refine AM.opW_tied (by kernel_rfl) ?_ | refine AM.opW_untied (by kernel_rfl) ?_))
    refine is_w m f.rows b _ ?_
    by_cases hb : 0 ≤ b ∧ b < L.flatten.length
    · rw [if_pos ⟨ha, hb⟩] at hq
      obtain ⟨na, rfl⟩ := Int.eq_ofNat_of_zero_le ha.1
      obtain ⟨nb, rfl⟩ := Int.eq_ofNat_of_zero_le hb.1
      have hC' : ((L.getD 0 []).length : Int) ≠ 0 := by omega
      have e1 := tdiv_nat na (L.getD 0 []).length
      have e2 := tdiv_nat nb (L.getD 0 []).length
      have e3 := tmod_nat na (L.getD 0 []).length
      have e4 := tmod_nat nb (L.getD 0 []).length
      have b1 : na / (L.getD 0 []).length ≤ 1024 := Nat.le_trans (Nat.div_le_self _ _) (by omega)
      have b2 : nb / (L.getD 0 []).length ≤ 1024 := Nat.le_trans (Nat.div_le_self _ _) (by omega)
      have b3 : na % (L.getD 0 []).length ≤ 1024 := Nat.le_trans (Nat.mod_le _ _) (by omega)
      have b4 : nb % (L.getD 0 []).length ≤ 1024 := Nat.le_trans (Nat.mod_le _ _) (by omega)
      rw [Int.toNat_natCast, Int.toNat_natCast] at hq
      unfold farN at hq
      generalize na / (L.getD 0 []).length = x1 at *
      generalize nb / (L.getD 0 []).length = x2 at *
      generalize na % (L.getD 0 []).length = x3 at *
      generalize nb % (L.getD 0 []).length = x4 at *
      have w1 := wrap_nat (n := x1) (by omega)
      have w2 := wrap_nat (n := x2) (by omega)
      (repeat' (first | (simp (maxSteps := 1000000) (disch := first | omega | (simp only [AM.DB, List.length_set, List.length_map]; first | done | omega)) only [AM.RB, Nat.reduceAdd, Nat.reduceMul, Nat.reduceEqDiff, reduceCtorEq, b24_G19, decide_eq_true hb, hg, e1, e2, w1, w2]) | refine AM.drawW_loose (id := 3) hp (by kernel_rfl) (by kernel_rfl) ?_ | refine AM.opW_tied (by kernel_rfl) ?_ | refine AM.opW_untied (by kernel_rfl) ?_))
      refine apart_w ⟨by omega, by omega⟩ ⟨by omega, by omega⟩ ?_
      (repeat' (first | (simp (maxSteps := 1000000) (disch := first | omega | (simp only [AM.DB, List.length_set, List.length_map]; first | done | omega)) only [AM.RB, Nat.reduceAdd, Nat.reduceMul, Nat.reduceEqDiff, reduceCtorEq, b24_G19, hg, e3, e4]) | refine AM.drawW_loose (id := 3) hp (by kernel_rfl) (by kernel_rfl) ?_ | refine AM.opW_tied (by kernel_rfl) ?_ | refine AM.opW_untied (by kernel_rfl) ?_))
      refine apart_w ⟨by omega, by omega⟩ ⟨by omega, by omega⟩ ?_
      (repeat' (first | (simp (maxSteps := 1000000) (disch := first | omega | (simp only [AM.DB, List.length_set, List.length_map]; first | done | omega)) only [AM.RB, Nat.reduceAdd, Nat.reduceMul, Nat.reduceEqDiff, reduceCtorEq, b24_G19, AM.wrap_i64]) | refine AM.drawW_loose (id := 3) hp (by kernel_rfl) (by kernel_rfl) ?_ | refine AM.opW_tied (by kernel_rfl) ?_ | refine AM.opW_untied (by kernel_rfl) ?_))
      refine ⟨AM.looseOk_by [(17, [0, 13]), (23, [0, 13])] (by kernel_rfl) ?_, ?_⟩
      · simp (maxSteps := 1000000) (disch := first | omega | (simp only [AM.DB, List.length_set, List.length_map]; first | done | omega)) only [AM.RB, Nat.reduceAdd, Nat.reduceMul, Nat.reduceEqDiff, reduceCtorEq, b24_G19]
        (repeat' apply And.intro) <;> (first | (refine AM.stable_len _ _ _ _ _ _ (fun _ => ?_); (simp (maxSteps := 1000000) (disch := first | omega | (simp only [AM.DB, List.length_set, List.length_map]; first | done | omega)) only [AM.RB, Nat.reduceAdd, Nat.reduceMul, Nat.reduceEqDiff, reduceCtorEq, b24_G19, hg])) | (refine AM.stable_load _ _ _ _ _ _ ?_; (first | (simp (maxSteps := 1000000) (disch := first | omega | (simp only [AM.DB, List.length_set, List.length_map]; first | done | omega)) only [AM.RB, Nat.reduceAdd, Nat.reduceMul, Nat.reduceEqDiff, reduceCtorEq, b24_G19, hg]) | skip); (first | (refine AM.stabL_int (by omega) ?_; (simp (maxSteps := 1000000) (disch := first | omega | (simp only [AM.DB, List.length_set, List.length_map]; first | done | omega)) only [AM.RB, Nat.reduceAdd, Nat.reduceMul, Nat.reduceEqDiff, reduceCtorEq, b24_G19, hg])) | (refine AM.stabL_ptr (by omega) (by omega) ?_; (simp (maxSteps := 1000000) (disch := first | omega | (simp only [AM.DB, List.length_set, List.length_map]; first | done | omega)) only [AM.RB, Nat.reduceAdd, Nat.reduceMul, Nat.reduceEqDiff, reduceCtorEq, b24_G19, hg])) | (refine AM.stabL_string (by omega) ?_; (simp (maxSteps := 1000000) (disch := first | omega | (simp only [AM.DB, List.length_set, List.length_map]; first | done | omega)) only [AM.RB, Nat.reduceAdd, Nat.reduceMul, Nat.reduceEqDiff, reduceCtorEq, b24_G19, hg])) | (refine AM.stabL_bool (by omega) ?_; (simp (maxSteps := 1000000) (disch := first | omega | (simp only [AM.DB, List.length_set, List.length_map]; first | done | omega)) only [AM.RB, Nat.reduceAdd, Nat.reduceMul, Nat.reduceEqDiff, reduceCtorEq, b24_G19, hg])))))
      exact hq
    · rw [if_neg (fun q => hb q.2)] at hq
      (repeat' (first | (simp (maxSteps := 1000000) (disch := first | omega | (simp only [AM.DB, List.length_set, List.length_map]; first | done | omega)) only [AM.RB, Nat.reduceAdd, Nat.reduceMul, Nat.reduceEqDiff, reduceCtorEq, b24_G19, decide_eq_false hb]) | refine AM.drawW_loose (id := 3) hp (by kernel_rfl) (by kernel_rfl) ?_ | refine AM.opW_tied (by kernel_rfl) ?_ | refine AM.opW_untied (by kernel_rfl) ?_))
      exact hq
  · rw [if_neg (fun q => ha q.1)] at hq
    (repeat' (first | (simp (maxSteps := 1000000) (disch := first | omega | (simp only [AM.DB, List.length_set, List.length_map]; first | done | omega)) only [AM.RB, Nat.reduceAdd, Nat.reduceMul, Nat.reduceEqDiff, reduceCtorEq, b24_G19, decide_eq_false ha]) | refine AM.drawW_loose (id := 3) hp (by kernel_rfl) (by kernel_rfl) ?_ | refine AM.opW_tied (by kernel_rfl) ?_ | refine AM.opW_untied (by kernel_rfl) ?_))
    exact hq

theorem same_w {s t : Value} {n k : Nat} {l m : List Int} {h : AHeap} (hs : Rd h 3 1 s n (l.map (.int .i64))) (ht : Rd h 3 1 t k (m.map (.int .i64))) (hn : n ≤ 4000000000) {Q : VQ} (hq : Q (.bool (decide (l = m))) h) : W 19 [s, t] h Q := by
  obtain ⟨a, ac, rfl⟩ := hs.form
  obtain ⟨b, bc, rfl⟩ := ht.form
  have hl : l.length = n := by have := hs.length; rw [List.length_map] at this; omega
  have hm : m.length = k := by have := ht.length; rw [List.length_map] at this; omega
  refine AM.enter hp (fn := Tryd.f19) (rs := [.tmp 4]) (nt := 26) (by kernel_rfl) Tryd.func19 rfl rfl rfl (by kernel_rfl) ?_
  by_cases hnk : (n : Int) = k
  · (repeat' (first | (simp (maxSteps := 1000000) (disch := first | omega | (simp only [AM.DB, List.length_set, List.length_map]; first | done | omega)) only [AM.RB, Nat.reduceAdd, Nat.reduceMul, Nat.reduceEqDiff, reduceCtorEq, b19_G19, decide_eq_true hnk]) | refine AM.drawW_fine hp (by kernel_rfl) (by kernel_rfl) (by kernel_rfl) ?_ | refine AM.opW_tied (by kernel_rfl) ?_ | refine AM.opW_untied (by kernel_rfl) ?_))
    refine AM.loop_w hp 26 (fun i : Nat => [(0, .slice a n ac), (1, .slice b k bc), (5, .int .i64 i)]) (fun i h' => h' = h ∧ i ≤ n ∧ l.take i = m.take i) (fun i => n - i) (by kernel_rfl) 0 ?_ ?_ ?_
    · simp (maxSteps := 1000000) (disch := first | omega | (simp only [AM.DB, List.length_set, List.length_map]; first | done | omega)) only [AM.RB, Nat.reduceAdd, Nat.reduceMul, Nat.reduceEqDiff, reduceCtorEq, b19_G19]
    · exact ⟨rfl, Nat.zero_le _, rfl⟩
    rintro i h1 ρ ⟨rfl, hi, htk⟩
    simp (maxSteps := 1000000) (disch := first | omega | (simp only [AM.DB, List.length_set, List.length_map]; first | done | omega)) only [AM.RB, Nat.reduceAdd, Nat.reduceMul, Nat.reduceEqDiff, reduceCtorEq, b19_G19]
    refine AM.condV_split (fun hlt => ?_) (fun hlt => ?_)
    · have hil : i < l.length := by omega
      have him : i < m.length := by omega
      by_cases e : l.getD i 0 = m.getD i 0
      · (repeat' (first | (simp (maxSteps := 1000000) (disch := first | omega | (simp only [AM.DB, List.length_set, List.length_map]; first | done | omega)) only [AM.RB, Nat.reduceAdd, Nat.reduceMul, Nat.reduceEqDiff, reduceCtorEq, b19_G19, hs.ia el_22, ht.ia el_22, Rd.ldi hs lk_3, Rd.ldi ht lk_3, Int.toNat_natCast, decide_eq_true e, AM.wrap_i64]) | refine AM.drawW_fine hp (by kernel_rfl) (by kernel_rfl) (by kernel_rfl) ?_ | refine AM.opW_tied (by kernel_rfl) ?_ | refine AM.opW_untied (by kernel_rfl) ?_))
        refine ⟨i + 1, by omega, congrArg _ (by omega), by omega, ?_⟩
        rw [List.take_add_one, List.take_add_one, htk]
        simp only [List.getD, List.getElem?_eq_getElem hil, List.getElem?_eq_getElem him, Option.getD_some] at e ⊢
        rw [e]
      · (repeat' (first | (simp (maxSteps := 1000000) (disch := first | omega | (simp only [AM.DB, List.length_set, List.length_map]; first | done | omega)) only [AM.RB, Nat.reduceAdd, Nat.reduceMul, Nat.reduceEqDiff, reduceCtorEq, b19_G19, hs.ia el_22, ht.ia el_22, Rd.ldi hs lk_3, Rd.ldi ht lk_3, Int.toNat_natCast, decide_eq_false e]) | refine AM.drawW_fine hp (by kernel_rfl) (by kernel_rfl) (by kernel_rfl) ?_ | refine AM.opW_tied (by kernel_rfl) ?_ | refine AM.opW_untied (by kernel_rfl) ?_))
        rw [decide_eq_false (fun q => e (by rw [q]))] at hq
        exact hq
    · have e : l = m := by
        have : i = n := by omega
        subst this
        rw [← hl, List.take_length] at htk
        rw [htk, List.take_of_length_le (by omega)]
      rw [decide_eq_true e] at hq
      (repeat' (first | (simp (maxSteps := 1000000) (disch := first | omega | (simp only [AM.DB, List.length_set, List.length_map]; first | done | omega)) only [AM.RB, Nat.reduceAdd, Nat.reduceMul, Nat.reduceEqDiff, reduceCtorEq, b19_G19]) | refine AM.drawW_fine hp (by kernel_rfl) (by kernel_rfl) (by kernel_rfl) ?_ | refine AM.opW_tied (by kernel_rfl) ?_ | refine AM.opW_untied (by kernel_rfl) ?_))
      exact hq
  · (repeat' (first | (simp (maxSteps := 1000000) (disch := first | omega | (simp only [AM.DB, List.length_set, List.length_map]; first | done | omega)) only [AM.RB, Nat.reduceAdd, Nat.reduceMul, Nat.reduceEqDiff, reduceCtorEq, b19_G19, decide_eq_false hnk]) | refine AM.drawW_fine hp (by kernel_rfl) (by kernel_rfl) (by kernel_rfl) ?_ | refine AM.opW_tied (by kernel_rfl) ?_ | refine AM.opW_untied (by kernel_rfl) ?_))
    rw [decide_eq_false (fun q => hnk (by rw [← hl, ← hm, q]))] at hq
    exact hq

end Go.Proofs.YtgdcbjpookldoaaDoor

namespace Go.Proofs.YtgdcbjpookldoaaDoor
open Go.AM
set_option maxRecDepth 8000
def edgeL (L : List (List UInt8)) (a b : Int) : Bool := decide ((0 ≤ a ∧ a < L.flatten.length) ∧ 0 ≤ b ∧ b < L.flatten.length) && edgeN L.flatten (L.getD 0 []).length a.toNat b.toNat
/-! ### Lists of the document's -/
def nxt (L : List (List UInt8)) (a : Int) (n : Nat) : List Int := ((List.range n).filter fun (b : Nat) => edgeL L a b).map fun (b : Nat) => (b : Int)
def bck (L : List (List UInt8)) (b : Int) (n : Nat) : List Int := ((List.range n).filter fun (a : Nat) => edgeL L a b).map fun (a : Nat) => (a : Int)
theorem nxt_len (L : List (List UInt8)) (a : Int) (n : Nat) : (nxt L a n).length ≤ n := by
  unfold nxt; rw [List.length_map]; exact Nat.le_trans (List.length_filter_le _ _) (by simp)
theorem bck_len (L : List (List UInt8)) (a : Int) (n : Nat) : (bck L a n).length ≤ n := by
  unfold bck; rw [List.length_map]; exact Nat.le_trans (List.length_filter_le _ _) (by simp)
theorem nxt_eq {L : List (List UInt8)} (f : Fit L) (a : Int) : nxt L a L.flatten.length = nextL L a := by
  rw [nextL_eq f]
  unfold nxt
  split
  · rename_i h
    congr 1
    apply List.filter_congr
    intro b hb
    have := List.mem_range.1 hb
    unfold edgeL
    rw [decide_eq_true ⟨h, by omega, by omega⟩, Bool.true_and, Int.toNat_natCast]
  · rename_i h
    rw [List.map_eq_nil_iff, List.filter_eq_nil_iff]
    intro b _
    unfold edgeL
    rw [decide_eq_false (fun q => h q.1)]; simp
theorem bck_eq {L : List (List UInt8)} (f : Fit L) (b : Int) : bck L b L.flatten.length = backL L b := by
  rw [backL_eq f]
  unfold bck
  split
  · rename_i h
    congr 1
    apply List.filter_congr
    intro a ha
    have := List.mem_range.1 ha
    unfold edgeL
    rw [decide_eq_true ⟨⟨by omega, by omega⟩, h⟩, Bool.true_and, Int.toNat_natCast]
  · rename_i h
    rw [List.map_eq_nil_iff, List.filter_eq_nil_iff]
    intro a _
    unfold edgeL
    rw [decide_eq_false (fun q => h q.2)]; simp
theorem edge_mem {L : List (List UInt8)} (f : Fit L) (a b : Int) : decide (b ∈ nextL L a) = edgeL L a b := by
  rw [← nxt_eq f]
  unfold nxt
  cases he : edgeL L a b with
  | true =>
    have h := he
    unfold edgeL at h
    rw [Bool.and_eq_true, decide_eq_true_eq] at h
    obtain ⟨⟨_, h1, h2⟩, _⟩ := h
    obtain ⟨n, rfl⟩ := Int.eq_ofNat_of_zero_le h1
    exact decide_eq_true (List.mem_map.2 ⟨n, List.mem_filter.2 ⟨List.mem_range.2 (by omega), he⟩, rfl⟩)
  | false =>
    refine decide_eq_false fun q => ?_
    obtain ⟨n, hn, rfl⟩ := List.mem_map.1 q
    rw [(List.mem_filter.1 hn).2] at he; cases he

end Go.Proofs.YtgdcbjpookldoaaDoor

namespace Go.Proofs.YtgdcbjpookldoaaDoor
open Go.AM

theorem Mt.start {h : AHeap} {p : Nat} {kv : Value} {L : List (List UInt8)} (m : Mp h p kv L.length (L.getD 0 []).length L.flatten tl0) : Mt h p L (fun id => id = p ∨ idOf kv id) :=
  ⟨kv, fun id q => .inr q, .inl rfl, fun id q => q.elim (fun e => by rw [e]; exact AM.get_some_lt m.1) (fun q => m.2.1.lt q), .inl m⟩
theorem nextL_len {L : List (List UInt8)} (f : Fit L) (i : Int) : (nextL L i).length ≤ 1024 := by rw [← nxt_eq f]; exact Nat.le_trans (nxt_len _ _ _) f.k1024
theorem backL_len {L : List (List UInt8)} (f : Fit L) (i : Int) : (backL L i).length ≤ 1024 := by rw [← bck_eq f]; exact Nat.le_trans (bck_len _ _ _) f.k1024
/-- What the laws keep of a map between calls. -/
structure Keep (h0 h : AHeap) (p : Nat) (L : List (List UInt8)) (S : Nat → Prop) : Prop where
  mt : Mt h p L S
  low : h.low = h0.low
  next : h0.next ≤ h.next
  ways : h.get GW = some (.cells waysC 123 false)

end Go.Proofs.YtgdcbjpookldoaaDoor

namespace Go.Proofs.YtgdcbjpookldoaaDoor
open Go.AM

/-! ### Laws of edges -/
/-- What an edge tells. -/
theorem edgeL_facts {L : List (List UInt8)} {a b : Int} (h : edgeL L a b = true) : ((0 ≤ a ∧ a < L.flatten.length) ∧ 0 ≤ b ∧ b < L.flatten.length) ∧ farL L a b = 1 ∧ freeP L.flatten a = true ∧ freeP L.flatten b = true := by
  unfold edgeL edgeN at h
  simp only [Bool.and_eq_true, decide_eq_true_eq, Bool.or_eq_true, Bool.not_eq_true', decide_eq_false_iff_not] at h
  obtain ⟨hin, ⟨⟨⟨h1, h2⟩, h3⟩, _⟩, _⟩ := h
  refine ⟨hin, by unfold farL; rw [if_pos hin]; exact h3, ?_, ?_⟩
  · unfold freeP kindP
    rw [decide_eq_true hin.1, if_pos hin.1.1, Bool.true_and]
    have : decide (L.flatten.getD a.toNat 0 = 35) = false := decide_eq_false fun e => h1 (by rw [e]; rfl)
    rw [this]; rfl
  · unfold freeP kindP
    rw [decide_eq_true hin.2, if_pos hin.2.1, Bool.true_and]
    have : decide (L.flatten.getD b.toNat 0 = 35) = false := decide_eq_false fun e => h2 (by rw [e]; rfl)
    rw [this]; rfl
theorem backL_mem {L : List (List UInt8)} (f : Fit L) {a b : Int} (h : edgeL L a b = true) : a ∈ backL L b := by
  rw [← bck_eq f]
  unfold bck
  obtain ⟨hin, _⟩ := edgeL_facts h
  obtain ⟨n, rfl⟩ := Int.eq_ofNat_of_zero_le hin.1.1
  exact List.mem_map.2 ⟨n, List.mem_filter.2 ⟨List.mem_range.2 (by omega), h⟩, rfl⟩

end Go.Proofs.YtgdcbjpookldoaaDoor

namespace Go.Proofs.YtgdcbjpookldoaaDoor
open Go.AM

/-! ### A text out of rows -/
def textL (L : List (List UInt8)) : List UInt8 := (L.map (· ++ [10])).flatten
/-- Rows that are a map's. -/
structure Rows' (L : List (List UInt8)) (C : Nat) : Prop where
  c0 : 0 < C
  c32 : C ≤ 32
  all : ∀ T ∈ L, T.length = C
  cell : ∀ T ∈ L, ∀ c ∈ T, cellB c = true
theorem rowP_good {T : List UInt8} {c : Int} (hc : (T.length : Int) ≤ c) (h : ∀ x ∈ T, cellB x = true) : ∀ (k i : Nat), i + k ≤ T.length → rowP T c k i = none
  | 0, _, _ => rfl
  | k + 1, i, hk => by
    have hi : i < T.length := by omega
    have hg : T.getD i 0 = T[i] := by simp [List.getD, hi]
    rw [rowP, if_neg, rowP_good hc h k (i + 1) (by omega)]
    rintro (q | q)
    · rw [hg, h _ (List.getElem_mem hi)] at q; cases q
    · omega
theorem refGo_text : ∀ (rows acc : List (List UInt8)) (C : Nat) (f : Bool), Rows' (acc ++ rows) C → (acc ++ rows).length ≤ 32 →
    refGo (textL rows) acc [] f = if (f || rows.any freeL) = true then .ok (acc ++ rows) else .err 0 0
  | [], acc, C, f, _, _ => by
    unfold textL
    rw [List.map_nil, List.flatten_nil, refGo, if_neg (by simp)]
    simp
  | T :: rows, acc, C, f, g, hl => by
    have hT : T.length = C := g.all T (by simp)
    have hcell := g.cell T (by simp)
    have h10 : (10 : UInt8) ∉ T := fun q => by have := hcell 10 q; revert this; decide
    rw [List.length_append, List.length_cons] at hl
    have hcap : capL acc = 32 ∨ capL acc = C := by
      unfold capL
      by_cases e : acc.length = 0
      · rw [if_pos e]; exact .inl rfl
      · rw [if_neg e]
        right
        have h0 : 0 < acc.length := by omega
        have : acc.getD 0 [] = acc[0] := by simp [List.getD, h0]
        rw [this]; exact g.all _ (List.mem_append_left _ (List.getElem_mem h0))
    have hc32 := g.c32
    have hc0 := g.c0
    have e : textL (T :: rows) = T ++ 10 :: textL rows := by unfold textL; rw [List.map_cons, List.flatten_cons, List.append_assoc]; rfl
    have hrow := refGo_row acc T (10 :: textL rows) (by omega) (by rcases hcap with q | q <;> omega) h10 T.length 0 f (by omega) (by omega)
    rw [List.drop_zero, List.take_zero, rowP_good (by rcases hcap with q | q <;> omega) hcell T.length 0 (by omega)] at hrow
    simp only at hrow
    rw [e, hrow, refGo, if_neg (by omega), if_pos rfl, if_neg, refGo_text rows (acc ++ [T]) C _ (by rw [List.append_assoc]; exact g) (by simp; omega), List.append_assoc, List.any_cons, Bool.or_assoc]
    · rfl
    · rintro (q | ⟨q1, q2⟩)
      · omega
      · have : capL acc = (acc.getD 0 []).length := by unfold capL; rw [if_neg (by omega)]
        rcases hcap with q | q
        · have h0 : 0 < acc.length := by omega
          have e2 : acc.getD 0 [] = acc[0] := by simp [List.getD, h0]
          have : acc[0].length = C := g.all _ (List.mem_append_left _ (List.getElem_mem h0))
          rw [e2] at q2; omega
        · omega
theorem verd_text {L : List (List UInt8)} {C : Nat} (g : Rows' L C) (h0 : L ≠ []) (hl : L.length ≤ 32) (hf : L.any freeL = true) : verd (textL L) = .ok L := by
  have hne : textL L ≠ [] := by
    cases L with
    | nil => exact absurd rfl h0
    | cons T L => unfold textL; simp
  unfold verd
  rw [if_neg hne]
  have := refGo_text L [] C false (by simpa using g) (by simpa using hl)
  rw [this, Bool.false_or, if_pos hf, List.nil_append]

end Go.Proofs.YtgdcbjpookldoaaDoor

namespace Go.Proofs.YtgdcbjpookldoaaDoor
open Go.AM

/-! ### Walls below, walls above -/
abbrev wallR (C : Nat) : List UInt8 := List.replicate C 35
end Go.Proofs.YtgdcbjpookldoaaDoor

namespace Go.Proofs.YtgdcbjpookldoaaDoor
open Go.AM

abbrev colsL (L : List (List UInt8)) : Nat := (L.getD 0 []).length
theorem textP_text {L : List (List UInt8)} (h : ∀ T ∈ L, T.length = colsL L) : ∀ k, k ≤ L.length → textP L.flatten (colsL L) k = textL (L.take k)
  | 0, _ => rfl
  | k + 1, hk => by
    have hg : L.getD k [] = L[k] := by simp [List.getD, show k < L.length by omega]
    rw [textP, textP_text h k (by omega), flat_drop L h k (by omega), hg]
    unfold textL
    rw [List.take_add_one, List.getElem?_eq_getElem (show k < L.length by omega), List.map_append, List.flatten_append]
    simp
theorem Good.text' {l : List UInt8} {L : List (List UInt8)} (g : Good l L) : l = textL L := by
  rw [← g.text, textP_text g.all _ (Nat.le_refl _), List.take_length]
theorem Good.any {l : List UInt8} {L : List (List UInt8)} (g : Good l L) : L.any freeL = true := by
  rw [← any_flat]; exact (allP_any _).1 g.some
def below (L : List (List UInt8)) : List (List UInt8) := L ++ [wallR (colsL L)]
def above (L : List (List UInt8)) : List (List UInt8) := wallR (colsL L) :: L
end Go.Proofs.YtgdcbjpookldoaaDoor

namespace Go.Proofs.YtgdcbjpookldoaaDoor
open Go.AM

/-! ### Several maps at once -/
/-- A map in memory that owns none of some others. -/
def Mk (h : AHeap) (p : Nat) (L : List (List UInt8)) (B : Nat → Prop) : Prop := (∃ S, Mt h p L S ∧ ∀ id, B id → ¬ S id) ∧ ∀ id, B id → id < h.next
theorem Mk.mp {h : AHeap} {p : Nat} {L : List (List UInt8)} {B : Nat → Prop} (m : Mk h p L B) : ∃ kv tl, Mp h p kv L.length (L.getD 0 []).length L.flatten tl := by
  obtain ⟨⟨S, m, _⟩, _⟩ := m
  exact m.mp
theorem Mk.lt {h : AHeap} {p : Nat} {L : List (List UInt8)} {B : Nat → Prop} (m : Mk h p L B) : p < h.next := by
  obtain ⟨⟨S, m, _⟩, _⟩ := m
  exact m.lt m.self
theorem Mk.frB {h h' : AHeap} {p : Nat} {L : List (List UInt8)} {B T : Nat → Prop} (m : Mk h p L B) (fr : Fr T h h') (hT : ∀ id, T id → B id) : Mk h' p L B := by
  obtain ⟨⟨S, m, hB⟩, hb⟩ := m
  have hn := fr.next
  exact ⟨⟨S, m.fr fr fun id q1 q2 => hB id (hT id q2) q1, hB⟩, fun id q => Nat.lt_of_lt_of_le (hb id q) hn⟩
theorem Mk.fr0 {h h' : AHeap} {p : Nat} {L : List (List UInt8)} {B : Nat → Prop} (m : Mk h p L B) (fr : Fr none' h h') : Mk h' p L B := m.frB fr fun _ q => q.elim
theorem Mk.grow {h h' : AHeap} {p : Nat} {L : List (List UInt8)} {B S S' : Nat → Prop} (hB : ∀ id, B id → ¬ S id) (hb : ∀ id, B id → id < h.next) (m' : Mt h' p L S') (hS : ∀ id, S' id → S id ∨ h.next ≤ id) (hn : h.next ≤ h'.next) : Mk h' p L B := by
  refine ⟨⟨S', m', fun id q1 q2 => ?_⟩, fun id q => Nat.lt_of_lt_of_le (hb id q) hn⟩
  have := hb id q1
  rcases hS id q2 with q | q
  · exact hB id q1 q
  · omega
theorem nextK_w {h : AHeap} {p : Nat} {L : List (List UInt8)} {B : Nat → Prop} (m : Mk h p L B) (f : Fit L) (hw : h.get GW = some (.cells waysC 123 false)) (hgl : GW < h.low) (hl : h.low ≤ h.next) (i : Int) {Q : VQ}
    (hq : ∀ v h', Mk h' p L B → Ow h' 3 1 v (nextL L i).length ((nextL L i).map (.int .i64)) → Fr (fun id => id = p) h h' → (∀ id, idOf v id → h.next ≤ id) → Q v h') : W 25 [pv p, .int .i64 i] h Q := by
  obtain ⟨⟨S, m, hB⟩, hb⟩ := m
  exact next_w m f hw hgl hl i fun v h' S' m' hS' o fr hid => hq v h' (Mk.grow hB hb m' hS' fr.next) o fr fun id q => (hid id q).1
/-- A map that was just read. -/
theorem Mk.start {h h0 : AHeap} {p : Nat} {kv : Value} {L : List (List UInt8)} {B : Nat → Prop} (m : Mp h p kv L.length (L.getD 0 []).length L.flatten tl0) (hp' : h0.next ≤ p) (hid : ∀ id, idOf kv id → h0.next ≤ id) (hn : h0.next ≤ h.next) (hB : ∀ id, B id → id < h0.next) : Mk h p L B :=
  ⟨⟨_, Mt.start m, fun id q1 q2 => by
    have := hB id q1
    rcases q2 with rfl | q2
    · omega
    · have := hid id q2; omega⟩, fun id q => Nat.lt_of_lt_of_le (hB id q) hn⟩
/-- Later ones are none of its own. -/
theorem Mk.more {h : AHeap} {p : Nat} {L : List (List UInt8)} {B C : Nat → Prop} (m : Mk h p L B) {h' : AHeap} (fr : Fr none' h h') (hC : ∀ id, C id → B id ∨ (h.next ≤ id ∧ id < h'.next)) : Mk h' p L C := by
  obtain ⟨⟨S, m, hB⟩, hb⟩ := m
  have hn := fr.next
  refine ⟨⟨S, m.fr0 fr, fun id q1 q2 => ?_⟩, fun id q => ?_⟩
  · rcases hC id q1 with q | q
    · exact hB id q q2
    · have := m.lt q2; omega
  · rcases hC id q with q | q
    · exact Nat.lt_of_lt_of_le (hb id q) hn
    · exact q.2

end Go.Proofs.YtgdcbjpookldoaaDoor

namespace Go.Proofs.YtgdcbjpookldoaaDoor
open Go.AM
set_option maxRecDepth 8000
theorem b60_RT1 : type_of% (And.intro (@AM.bdV_some) (And.intro (@bd_100) (And.intro (@AM.bin_add) (And.intro (@AM.bin_lss) (And.intro (@AM.bin_neq) (And.intro (@AM.boxK_agg) (And.intro (@AM.boxK_bool) (And.intro (@AM.boxK_func) (And.intro (@AM.boxK_int) (And.intro (@AM.boxK_map) (And.intro (@AM.boxK_pointer) (And.intro (@AM.boxK_slice) (And.intro (@AM.boxK_string) (And.intro (@AM.fa_ptr) (And.intro (@fd_100_1) (And.intro (@AM.fillL_cons) (And.intro (@AM.fillL_nil) (And.intro (@AM.fillS_agg) (And.intro (@AM.fillS_bool) (And.intro (@AM.fillS_func) (And.intro (@AM.fillS_int) (And.intro (@AM.fillS_map) (And.intro (@AM.fillS_pointer) (And.intro (@AM.fillS_slice) (And.intro (@AM.fillS_string) (And.intro (@AM.iaO_ok) (And.intro (AM.ia_slice el_22) (And.intro (@AM.ldO_agg) (And.intro (@AM.ldO_one) (And.intro (@AM.ld_ptr) (And.intro (AM.len_slice ul_22) (And.intro (@lk_3) (And.intro (@lk_98) (And.intro (@AM.op_binOp) (And.intro (@AM.op_box) (And.intro (@AM.op_build) (And.intro (@AM.op_fieldAddr) (And.intro (@AM.op_indexAddr) (And.intro (@AM.op_len) (And.intro (@AM.op_load) (And.intro (@AM.op_makeMap0) (And.intro (@AM.op_mapUpdate) (@AM.op_nilCheck))))))))))))))))))))))))))))))))))))))))))) := And.intro (@AM.bdV_some) (And.intro (@bd_100) (And.intro (@AM.bin_add) (And.intro (@AM.bin_lss) (And.intro (@AM.bin_neq) (And.intro (@AM.boxK_agg) (And.intro (@AM.boxK_bool) (And.intro (@AM.boxK_func) (And.intro (@AM.boxK_int) (And.intro (@AM.boxK_map) (And.intro (@AM.boxK_pointer) (And.intro (@AM.boxK_slice) (And.intro (@AM.boxK_string) (And.intro (@AM.fa_ptr) (And.intro (@fd_100_1) (And.intro (@AM.fillL_cons) (And.intro (@AM.fillL_nil) (And.intro (@AM.fillS_agg) (And.intro (@AM.fillS_bool) (And.intro (@AM.fillS_func) (And.intro (@AM.fillS_int) (And.intro (@AM.fillS_map) (And.intro (@AM.fillS_pointer) (And.intro (@AM.fillS_slice) (And.intro (@AM.fillS_string) (And.intro (@AM.iaO_ok) (And.intro (AM.ia_slice el_22) (And.intro (@AM.ldO_agg) (And.intro (@AM.ldO_one) (And.intro (@AM.ld_ptr) (And.intro (AM.len_slice ul_22) (And.intro (@lk_3) (And.intro (@lk_98) (And.intro (@AM.op_binOp) (And.intro (@AM.op_box) (And.intro (@AM.op_build) (And.intro (@AM.op_fieldAddr) (And.intro (@AM.op_indexAddr) (And.intro (@AM.op_len) (And.intro (@AM.op_load) (And.intro (@AM.op_makeMap0) (And.intro (@AM.op_mapUpdate) (@AM.op_nilCheck))))))))))))))))))))))))))))))))))))))))))


/-! ### A search in memory -/
def outB (B : List Int) (from' x : Int) : Bool := decide (x ∈ B) && !decide (x = from')
def outMap (B : List Int) (from' : Int) (ml : List (Int × Value)) : Prop := ∀ x, mgetL ml x = if outB B from' x = true then some (.int .i64 1) else none
theorem outB_nil (f x : Int) : outB [] f x = false := by unfold outB; simp
theorem outB_take {B : List Int} {f x : Int} {i : Nat} (hi : i < B.length) : outB (B.take (i + 1)) f x = (outB (B.take i) f x || (decide (x = B.getD i 0) && !decide (x = f))) := by
  unfold outB
  rw [List.take_succ_eq_append_getElem hi]
  have e : B.getD i 0 = B[i] := by simp [List.getD, hi]
  rw [e]
  generalize B.take i = T
  generalize B[i] = b
  by_cases h1 : x ∈ T <;> by_cases h2 : x = b <;> by_cases h3 : x = f <;> simp [h1, h2, h3]
set_option maxHeartbeats 2000000 in
theorem without_w {h : AHeap} {p n : Nat} {s : Value} {B : List Int} (hs : Rd h 3 1 s n (B.map (.int .i64))) (hn : n ≤ 4000000) (hl : h.low ≤ h.next) (from' : Int) {Q : VQ}
    (hq : ∀ h' ml, h'.get (h.next + 2) = some (.cells [pv p, .map (some h.next), .map (some (h.next + 1))] 100 false) → h'.get h.next = some (.map (encM ml)) → outMap B from' ml → h'.get (h.next + 1) = some (.map []) → Fr none' h h' → h'.next = h.next + 3 → Q (pv (h.next + 2)) h') :
    W 60 [pv p, s, .int .i64 from'] h Q := by
  obtain ⟨sa, sc, rfl⟩ := hs.form
  have hln : B.length = n := by simpa using hs.length
  refine AM.enter hp (fn := Tryd.f60) (rs := [.tmp 6]) (nt := 31) (by kernel_rfl) Tryd.func60 rfl rfl rfl (by kernel_rfl) ?_
  (repeat' (first | (simp (maxSteps := 1000000) (disch := first | omega | (simp only [AM.DB, List.length_set, List.length_map]; first | done | omega)) only [AM.RB, Nat.reduceAdd, Nat.reduceMul, Nat.reduceEqDiff, reduceCtorEq, b60_RT1]) | refine AM.build_w ?_))
  generalize hE_ : AHeap.alloc (AHeap.alloc (AHeap.alloc h _) _) _ = h3
  have g1 : h3.get h.next = some (.map []) := by rw [← hE_, AM.get_alloc_ne (by simp; omega), AM.get_alloc_ne (by simp), AM.get_alloc_self rfl]
  have g2 : h3.get (h.next + 1) = some (.map []) := by rw [← hE_, AM.get_alloc_ne (by simp), AM.get_alloc_self (by simp)]
  have g3 : h3.get (h.next + 2) = some (.cells [pv p, .map (some h.next), .map (some (h.next + 1))] 100 false) := by rw [← hE_, AM.get_alloc_self (by simp)]
  have fr3 : Fr none' h h3 := by rw [← hE_]; exact (((Fr.refl _ _).alloc _).alloc _).alloc _
  have n3 : h3.next = h.next + 3 := by rw [← hE_]; rfl
  have l3 : h3.low = h.low := by rw [← hE_]; rfl
  clear hE_
  refine AM.loop_w hp 31 (fun i : Nat => [(2, .int .i64 from'), (7, pv (h.next + 2)), (15, .slice sa n sc), (16, .int .i64 n), (17, .int .i64 i)])
    (fun i h' => i ≤ n ∧ Fr (fun id => id = h.next) h3 h' ∧ h'.next = h3.next ∧ ∃ ml, h'.get h.next = some (.map (encM ml)) ∧ outMap (B.take i) from' ml) (fun i => n - i) (by kernel_rfl) 0 ?_ ?_ ?_
  · simp (maxSteps := 1000000) (disch := first | omega | (simp only [AM.DB, List.length_set, List.length_map]; first | done | omega)) only [AM.RB, Nat.reduceAdd, Nat.reduceMul, Nat.reduceEqDiff, reduceCtorEq, b60_RT1]
    first | rfl | skip
  · exact ⟨Nat.zero_le _, Fr.refl _ _, rfl, [], g1, fun x => by rw [List.take_zero, outB_nil]; rfl⟩
  rintro i h4 ρ ⟨hi, fr4, n4, ml, gm, om⟩
  have l4 := fr4.low
  have gs := fr4.get g3 (fun q => by omega)
  have g24 := fr4.get g2 (fun q => by omega)
  have r4 := (hs.fr0 fr3).fr fr4 (fun id q q2 => by have := hs.lt q; omega)
  have lm : h4.low ≤ h.next := by omega
  (repeat' (first | (simp (maxSteps := 1000000) (disch := first | omega | (simp only [AM.DB, List.length_set, List.length_map]; first | done | omega)) only [AM.RB, Nat.reduceAdd, Nat.reduceMul, Nat.reduceEqDiff, reduceCtorEq, b60_RT1]) | refine AM.build_w ?_))
  refine AM.condV_split (fun hlt => ?_) (fun hlt => ?_)
  · have hin : i < n := by omega
    have ot := fun x => outB_take (f := from') (x := x) (show i < B.length by omega)
    obtain ⟨b, hb⟩ : ∃ b, B.getD i 0 = b := ⟨_, rfl⟩
    simp only [hb] at ot
    by_cases c : b = from'
    · have d : decide (b = from') = true := decide_eq_true c
      (repeat' (first | (simp (maxSteps := 1000000) (disch := first | omega | (simp only [AM.DB, List.length_set, List.length_map]; first | done | omega)) only [AM.RB, Nat.reduceAdd, Nat.reduceMul, Nat.reduceEqDiff, reduceCtorEq, b60_RT1, r4.ia el_22, Rd.ldi r4 lk_3, Int.toNat_natCast, hb, d, AM.wrap_i64]) | refine AM.build_w ?_))
      refine ⟨i + 1, by omega, ?_, by omega, fr4, n4, ml, gm, fun x => ?_⟩
      · simp (maxSteps := 1000000) (disch := first | omega | (simp only [AM.DB, List.length_set, List.length_map]; first | done | omega)) only [AM.RB, Nat.reduceAdd, Nat.reduceMul, Nat.reduceEqDiff, reduceCtorEq, b60_RT1]
        first | rfl | skip
      · rw [om x, ot x]
        by_cases e : x = b
        · have : x = from' := e.trans c
          simp [this]
        · simp [e]
    · have d : decide (b = from') = false := decide_eq_false c
      (repeat' (first | (simp (maxSteps := 1000000) (disch := first | omega | (simp only [AM.DB, List.length_set, List.length_map]; first | done | omega)) only [AM.RB, Nat.reduceAdd, Nat.reduceMul, Nat.reduceEqDiff, reduceCtorEq, b60_RT1, r4.ia el_22, Rd.ldi r4 lk_3, Int.toNat_natCast, hb, d, gs, AM.update_enc mp_98 gm lm]) | refine AM.build_w ?_))
      generalize hE_ : AHeap.put h4 _ _ = h5; obtain ⟨g5, fr5, n5, l5⟩ := AM.put_get hE_ (by omega); clear hE_
      (repeat' (first | (simp (maxSteps := 1000000) (disch := first | omega | (simp only [AM.DB, List.length_set, List.length_map]; first | done | omega)) only [AM.RB, Nat.reduceAdd, Nat.reduceMul, Nat.reduceEqDiff, reduceCtorEq, b60_RT1, AM.wrap_i64]) | refine AM.build_w ?_))
      refine ⟨i + 1, by omega, ?_, by omega, fr4.trans fr5, by omega, _, rfl, fun x => ?_⟩
      · simp (maxSteps := 1000000) (disch := first | omega | (simp only [AM.DB, List.length_set, List.length_map]; first | done | omega)) only [AM.RB, Nat.reduceAdd, Nat.reduceMul, Nat.reduceEqDiff, reduceCtorEq, b60_RT1]
        first | rfl | skip
      · rw [AM.mget_set, om x, ot x]
        by_cases e : x = b
        · have : ¬ x = from' := fun q => c (e ▸ q)
          rw [if_pos e, decide_eq_true e, decide_eq_false this]
          simp
        · simp [e]
  · obtain rfl : i = n := by omega
    rw [← hln, List.take_length] at om
    (repeat' (first | (simp (maxSteps := 1000000) (disch := first | omega | (simp only [AM.DB, List.length_set, List.length_map]; first | done | omega)) only [AM.RB, Nat.reduceAdd, Nat.reduceMul, Nat.reduceEqDiff, reduceCtorEq, b60_RT1]) | refine AM.build_w ?_))
    exact hq h4 ml gs gm om g24 (fr3.fresh fr4 (fun id q => by omega)) (by omega)
end Go.Proofs.YtgdcbjpookldoaaDoor
