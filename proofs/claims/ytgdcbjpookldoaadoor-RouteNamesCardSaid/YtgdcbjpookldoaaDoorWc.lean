/- Walks of this claim's functions, and plain laws. -/
import Derived.Test.YtgdcbjpookldoaaDoorWb
import Derived.Test.YtgdcbjpookldoaaDoorAMBfs
set_option linter.unusedSimpArgs false
set_option linter.unusedVariables false
namespace Go.Proofs.YtgdcbjpookldoaaDoor
open Go.AM
set_option maxRecDepth 8000
theorem b25_G17 : type_of% (And.intro (@List.map_toArray.{0,0}) (And.intro (@AM.fa_ptr) (And.intro (@fd_84_3) (And.intro (@fd_84_4) (And.intro (@AM.iaO_ok) (And.intro (AM.ia_slice el_82) (And.intro (@AM.ldO_agg) (And.intro (@AM.ldO_one) (And.intro (@AM.ld_ptr) (And.intro (@lk_22) (And.intro (@lk_82) (And.intro (@AM.op_call) (And.intro (@AM.op_fieldAddr) (And.intro (@AM.op_indexAddr) (And.intro (@AM.op_load) (And.intro (@AM.op_makeFunc) (And.intro (@AM.op_nilCheck) (And.intro (@AM.op_unOp) (And.intro (@AM.un_neg) (@AM.un_not)))))))))))))))))))) := And.intro (@List.map_toArray.{0,0}) (And.intro (@AM.fa_ptr) (And.intro (@fd_84_3) (And.intro (@fd_84_4) (And.intro (@AM.iaO_ok) (And.intro (AM.ia_slice el_82) (And.intro (@AM.ldO_agg) (And.intro (@AM.ldO_one) (And.intro (@AM.ld_ptr) (And.intro (@lk_22) (And.intro (@lk_82) (And.intro (@AM.op_call) (And.intro (@AM.op_fieldAddr) (And.intro (@AM.op_indexAddr) (And.intro (@AM.op_load) (And.intro (@AM.op_makeFunc) (And.intro (@AM.op_nilCheck) (And.intro (@AM.op_unOp) (And.intro (@AM.un_neg) (@AM.un_not)))))))))))))))))))
theorem b96_G17 : type_of% (And.intro (@List.map_toArray.{0,0}) (And.intro (@AM.fa_ptr) (And.intro (@fd_84_3) (And.intro (@fd_84_5) (And.intro (@AM.iaO_ok) (And.intro (AM.ia_slice el_82) (And.intro (@AM.ldO_agg) (And.intro (@AM.ldO_one) (And.intro (@AM.ld_ptr) (And.intro (@lk_22) (And.intro (@lk_82) (And.intro (@AM.op_call) (And.intro (@AM.op_fieldAddr) (And.intro (@AM.op_indexAddr) (And.intro (@AM.op_load) (And.intro (@AM.op_makeFunc) (And.intro (@AM.op_nilCheck) (And.intro (@AM.op_unOp) (And.intro (@AM.un_neg) (@AM.un_not)))))))))))))))))))) := And.intro (@List.map_toArray.{0,0}) (And.intro (@AM.fa_ptr) (And.intro (@fd_84_3) (And.intro (@fd_84_5) (And.intro (@AM.iaO_ok) (And.intro (AM.ia_slice el_82) (And.intro (@AM.ldO_agg) (And.intro (@AM.ldO_one) (And.intro (@AM.ld_ptr) (And.intro (@lk_22) (And.intro (@lk_82) (And.intro (@AM.op_call) (And.intro (@AM.op_fieldAddr) (And.intro (@AM.op_indexAddr) (And.intro (@AM.op_load) (And.intro (@AM.op_makeFunc) (And.intro (@AM.op_nilCheck) (And.intro (@AM.op_unOp) (And.intro (@AM.un_neg) (@AM.un_not)))))))))))))))))))
theorem b76_G17 : type_of% (And.intro (@AM.bin_add) (And.intro (@AM.bin_eql) (And.intro (@AM.bin_lss) (And.intro (@AM.iaO_ok) (And.intro (AM.ia_slice el_22) (And.intro (@AM.ldO_agg) (And.intro (@AM.ldO_one) (And.intro (@AM.ld_ptr) (And.intro (AM.len_slice ul_22) (And.intro (@lk_3) (And.intro (@AM.op_binOp) (And.intro (@AM.op_indexAddr) (And.intro (@AM.op_len) (@AM.op_load)))))))))))))) := And.intro (@AM.bin_add) (And.intro (@AM.bin_eql) (And.intro (@AM.bin_lss) (And.intro (@AM.iaO_ok) (And.intro (AM.ia_slice el_22) (And.intro (@AM.ldO_agg) (And.intro (@AM.ldO_one) (And.intro (@AM.ld_ptr) (And.intro (AM.len_slice ul_22) (And.intro (@lk_3) (And.intro (@AM.op_binOp) (And.intro (@AM.op_indexAddr) (And.intro (@AM.op_len) (@AM.op_load)))))))))))))
theorem b56_G17 : type_of% (And.intro (@AM.bin_geq) (And.intro (@AM.op_binOp) (@AM.op_call))) := And.intro (@AM.bin_geq) (And.intro (@AM.op_binOp) (@AM.op_call))
theorem b44_G17 : type_of% (@AM.op_call) := @AM.op_call


theorem ints_one (l : List Int) : (l.map (Value.int .i64)).all (·.oneCell') = true := by
  rw [List.all_eq_true]; intro x hx
  obtain ⟨n, _, rfl⟩ := List.mem_map.1 hx; rfl
theorem edgesL_len (L : List (List UInt8)) (f : Fit L) : (edgesL L).length ≤ 4096 := by
  have h1 := edgesTo_len L.flatten L.length (L.getD 0 []).length L.flatten.length
  have h2 : L.flatten.length ≤ 1024 := by rw [f.len]; exact Nat.le_trans (Nat.mul_le_mul f.r32 f.c32) (by decide)
  show (edgesTo L.flatten L.length (L.getD 0 []).length L.flatten.length).length ≤ 4096
  omega
theorem Fit.k1024 {L : List (List UInt8)} (f : Fit L) : L.flatten.length ≤ 1024 := by rw [f.len]; exact Nat.le_trans (Nat.mul_le_mul f.r32 f.c32) (by decide)
theorem next_w {h : AHeap} {p : Nat} {L : List (List UInt8)} {S : Nat → Prop} (m : Mt h p L S) (f : Fit L) (hw : h.get GW = some (.cells waysC 123 false)) (hgl : GW < h.low) (hl : h.low ≤ h.next) (i : Int) {Q : VQ}
    (hq : ∀ v h' S', Mt h' p L S' → (∀ id, S' id → S id ∨ h.next ≤ id) → Ow h' 3 1 v (nextL L i).length ((nextL L i).map (.int .i64)) → Fr (fun id => id = p) h h' → (∀ id, idOf v id → h.next ≤ id ∧ ¬ S' id) → Q v h') : W 25 [pv p, .int .i64 i] h Q := by
  obtain ⟨kv0, tl0', m0⟩ := m.mp
  have hK := f.k1024
  refine AM.enter hp (fn := Tryd.f25) (rs := [.tmp 4]) (nt := 23) (by kernel_rfl) Tryd.func25 rfl rfl rfl (by kernel_rfl) ?_
  (first | (simp (maxSteps := 1000000) (disch := first | omega | (simp only [AM.DB, List.length_set, List.length_map]; first | done | omega)) only [AM.RB, Nat.reduceAdd, Nat.reduceMul, Nat.reduceEqDiff, reduceCtorEq, b25_G17]) | skip)
  refine is_w m0 f.rows i _ ?_
  by_cases hi : 0 ≤ i ∧ i < L.flatten.length
  · (first | (simp (maxSteps := 1000000) (disch := first | omega | (simp only [AM.DB, List.length_set, List.length_map]; first | done | omega)) only [AM.RB, Nat.reduceAdd, Nat.reduceMul, Nat.reduceEqDiff, reduceCtorEq, b25_G17, decide_eq_true hi]) | skip)
    refine once_w m f hw hgl hl fun kv nid bid X h1 S1 m1 b mt1 hS1 fr1 hX => ?_
    have hg1 := m1.1
    obtain ⟨n, rfl⟩ := Int.eq_ofNat_of_zero_le hi.1
    have hn : n < L.flatten.length := by omega
    have hxa : ((List.range L.flatten.length).map X)[n]? = some (X n) := by rw [List.getElem?_map, List.getElem?_range hn]; rfl
    have hgn := b.g1
    have hl1 := fr1.hl hl
    have hEl := bothE_len (edgesL L) L.flatten.length n
    have hEL := edgesL_len L f
    (first | (simp (maxSteps := 1000000) (disch := first | omega | (simp only [AM.DB, List.length_set, List.length_map]; first | done | omega)) only [AM.RB, Nat.reduceAdd, Nat.reduceMul, Nat.reduceEqDiff, reduceCtorEq, b25_G17, hg1, hgn, hxa, Nat.mul_one, Nat.zero_add, Int.toNat_natCast]) | skip)
    have heq : bothE (edgesL L) L.flatten.length n = nextL L n := by unfold bothE nextL; rw [if_pos hn, if_pos ⟨by omega, by omega⟩, Int.toNat_natCast]
    refine clone_w ((b.ow n (by omega)).rd) (ints_one _) (by omega) hl1 fun v h2 o2 fr2 hid2 => ?_
    (first | (simp (maxSteps := 1000000) (disch := first | omega | (simp only [AM.DB, List.length_set, List.length_map]; first | done | omega)) only [AM.RB, Nat.reduceAdd, Nat.reduceMul, Nat.reduceEqDiff, reduceCtorEq, b25_G17]) | skip)
    rw [heq] at o2
    have n1 := fr1.next
    exact hq v h2 S1 (mt1.fr0 fr2) hS1 o2 (fr1.then fr2 fun _ _ q => q.elim) fun id q => ⟨by have := hid2 id q; omega, fun e => by have := hid2 id q; have := mt1.lt e; omega⟩
  · (first | (simp (maxSteps := 1000000) (disch := first | omega | (simp only [AM.DB, List.length_set, List.length_map]; first | done | omega)) only [AM.RB, Nat.reduceAdd, Nat.reduceMul, Nat.reduceEqDiff, reduceCtorEq, b25_G17, decide_eq_false hi]) | skip)
    refine hq _ h S m (fun _ q => .inl q) ?_ (Fr.refl _ _) (fun _ q => q.elim)
    unfold nextL; rw [if_neg hi]; exact Ow.nil _ _ _
theorem back_w {h : AHeap} {p : Nat} {L : List (List UInt8)} {S : Nat → Prop} (m : Mt h p L S) (f : Fit L) (hw : h.get GW = some (.cells waysC 123 false)) (hgl : GW < h.low) (hl : h.low ≤ h.next) (i : Int) {Q : VQ}
    (hq : ∀ v h' S', Mt h' p L S' → (∀ id, S' id → S id ∨ h.next ≤ id) → Ow h' 3 1 v (backL L i).length ((backL L i).map (.int .i64)) → Fr (fun id => id = p) h h' → (∀ id, idOf v id → h.next ≤ id ∧ ¬ S' id) → Q v h') : W 96 [pv p, .int .i64 i] h Q := by
  obtain ⟨kv0, tl0', m0⟩ := m.mp
  have hK := f.k1024
  refine AM.enter hp (fn := Tryd.f96) (rs := [.tmp 4]) (nt := 23) (by kernel_rfl) Tryd.func96 rfl rfl rfl (by kernel_rfl) ?_
  (first | (simp (maxSteps := 1000000) (disch := first | omega | (simp only [AM.DB, List.length_set, List.length_map]; first | done | omega)) only [AM.RB, Nat.reduceAdd, Nat.reduceMul, Nat.reduceEqDiff, reduceCtorEq, b96_G17]) | skip)
  refine is_w m0 f.rows i _ ?_
  by_cases hi : 0 ≤ i ∧ i < L.flatten.length
  · (first | (simp (maxSteps := 1000000) (disch := first | omega | (simp only [AM.DB, List.length_set, List.length_map]; first | done | omega)) only [AM.RB, Nat.reduceAdd, Nat.reduceMul, Nat.reduceEqDiff, reduceCtorEq, b96_G17, decide_eq_true hi]) | skip)
    refine once_w m f hw hgl hl fun kv nid bid X h1 S1 m1 b mt1 hS1 fr1 hX => ?_
    have hg1 := m1.1
    obtain ⟨n, rfl⟩ := Int.eq_ofNat_of_zero_le hi.1
    have hn : n < L.flatten.length := by omega
    have hxa : ((List.range L.flatten.length).map fun j => X (L.flatten.length + j))[n]? = some (X (L.flatten.length + n)) := by rw [List.getElem?_map, List.getElem?_range hn]; rfl
    have hgn := b.g2
    have hl1 := fr1.hl hl
    have hEl := bothE_len (edgesL L) L.flatten.length (L.flatten.length + n)
    have hEL := edgesL_len L f
    (first | (simp (maxSteps := 1000000) (disch := first | omega | (simp only [AM.DB, List.length_set, List.length_map]; first | done | omega)) only [AM.RB, Nat.reduceAdd, Nat.reduceMul, Nat.reduceEqDiff, reduceCtorEq, b96_G17, hg1, hgn, hxa, Nat.mul_one, Nat.zero_add, Int.toNat_natCast]) | skip)
    have heq : bothE (edgesL L) L.flatten.length (L.flatten.length + n) = backL L n := by unfold bothE backL; rw [if_neg (by omega), if_pos ⟨by omega, by omega⟩, Int.toNat_natCast, Nat.add_sub_cancel_left]
    refine clone_w ((b.ow (L.flatten.length + n) (by omega)).rd) (ints_one _) (by omega) hl1 fun v h2 o2 fr2 hid2 => ?_
    (first | (simp (maxSteps := 1000000) (disch := first | omega | (simp only [AM.DB, List.length_set, List.length_map]; first | done | omega)) only [AM.RB, Nat.reduceAdd, Nat.reduceMul, Nat.reduceEqDiff, reduceCtorEq, b96_G17]) | skip)
    rw [heq] at o2
    have n1 := fr1.next
    exact hq v h2 S1 (mt1.fr0 fr2) hS1 o2 (fr1.then fr2 fun _ _ q => q.elim) fun id q => ⟨by have := hid2 id q; omega, fun e => by have := hid2 id q; have := mt1.lt e; omega⟩
  · (first | (simp (maxSteps := 1000000) (disch := first | omega | (simp only [AM.DB, List.length_set, List.length_map]; first | done | omega)) only [AM.RB, Nat.reduceAdd, Nat.reduceMul, Nat.reduceEqDiff, reduceCtorEq, b96_G17, decide_eq_false hi]) | skip)
    refine hq _ h S m (fun _ q => .inl q) ?_ (Fr.refl _ _) (fun _ q => q.elim)
    unfold backL; rw [if_neg hi]; exact Ow.nil _ _ _
theorem index_w {s : Value} {n : Nat} {l : List Int} {h : AHeap} (hs : Rd h 3 1 s n (l.map (.int .i64))) (hn : n ≤ 4000000000) (x : Int) {Q : VQ}
    (hq : ∀ r : Int, (decide (0 ≤ r) = decide (x ∈ l)) → Q (.int .i64 r) h) : W 76 [s, .int .i64 x] h Q := by
  obtain ⟨a, cap, rfl⟩ := hs.form
  have hlen : l.length = n := by have := hs.length; rw [List.length_map] at this; omega
  refine AM.enter hp (fn := Tryd.f76) (rs := [.tmp 4]) (nt := 19) (by kernel_rfl) Tryd.func76 rfl rfl rfl (by kernel_rfl) ?_
  (first | (simp (maxSteps := 1000000) (disch := first | omega | (simp only [AM.DB, List.length_set, List.length_map]; first | done | omega)) only [AM.RB, Nat.reduceAdd, Nat.reduceMul, Nat.reduceEqDiff, reduceCtorEq, b76_G17]) | skip)
  refine AM.loop_w hp 19 (fun i : Nat => [(0, .slice a n cap), (1, .int .i64 x), (7, .int .i64 n), (8, .int .i64 i)]) (fun i h' => h' = h ∧ i ≤ n ∧ ∀ j, j < i → l.getD j 0 ≠ x) (fun i => n - i) (by kernel_rfl) 0 ?_ ?_ ?_
  · simp (maxSteps := 1000000) (disch := first | omega | (simp only [AM.DB, List.length_set, List.length_map]; first | done | omega)) only [AM.RB, Nat.reduceAdd, Nat.reduceMul, Nat.reduceEqDiff, reduceCtorEq, b76_G17]
  · exact ⟨rfl, Nat.zero_le _, fun j hj => by omega⟩
  rintro i h1 ρ ⟨rfl, hi, hj⟩
  simp (maxSteps := 1000000) (disch := first | omega | (simp only [AM.DB, List.length_set, List.length_map]; first | done | omega)) only [AM.RB, Nat.reduceAdd, Nat.reduceMul, Nat.reduceEqDiff, reduceCtorEq, b76_G17]
  refine AM.condV_split (fun hlt => ?_) (fun hlt => ?_)
  · have hil : i < n := by omega
    have hg : l.getD i 0 = l[i]'(by omega) := by simp [List.getD, show i < l.length by omega]
    by_cases e : x = l.getD i 0
    · (first | (simp (maxSteps := 1000000) (disch := first | omega | (simp only [AM.DB, List.length_set, List.length_map]; first | done | omega)) only [AM.RB, Nat.reduceAdd, Nat.reduceMul, Nat.reduceEqDiff, reduceCtorEq, b76_G17, hs.ia el_22, Rd.ldi hs lk_3, Int.toNat_natCast, decide_eq_true e]) | skip)
      refine hq _ ?_
      rw [decide_eq_true (by omega), decide_eq_true]
      rw [e, hg]; exact List.getElem_mem _
    · (first | (simp (maxSteps := 1000000) (disch := first | omega | (simp only [AM.DB, List.length_set, List.length_map]; first | done | omega)) only [AM.RB, Nat.reduceAdd, Nat.reduceMul, Nat.reduceEqDiff, reduceCtorEq, b76_G17, hs.ia el_22, Rd.ldi hs lk_3, Int.toNat_natCast, decide_eq_false e, AM.wrap_i64]) | skip)
      refine ⟨i + 1, by omega, congrArg _ (by omega), by omega, fun j q => ?_⟩
      by_cases ej : j = i
      · subst ej; exact fun q => e q.symm
      · exact hj j (by omega)
  · (first | (simp (maxSteps := 1000000) (disch := first | omega | (simp only [AM.DB, List.length_set, List.length_map]; first | done | omega)) only [AM.RB, Nat.reduceAdd, Nat.reduceMul, Nat.reduceEqDiff, reduceCtorEq, b76_G17]) | skip)
    refine hq _ ?_
    rw [decide_eq_false (by omega), decide_eq_false]
    intro q
    obtain ⟨j, hjl, ej⟩ := List.getElem_of_mem q
    refine hj j (by omega) ?_
    rw [← ej]; simp [List.getD, hjl]
theorem contains_w {s : Value} {n : Nat} {l : List Int} {h : AHeap} (hs : Rd h 3 1 s n (l.map (.int .i64))) (hn : n ≤ 4000000000) (x : Int) {Q : VQ} (hq : Q (.bool (decide (x ∈ l))) h) : W 56 [s, .int .i64 x] h Q := by
  refine AM.enter hp (fn := Tryd.f56) (rs := [.tmp 4]) (nt := 9) (by kernel_rfl) Tryd.func56 rfl rfl rfl (by kernel_rfl) ?_
  (first | (simp (maxSteps := 1000000) (disch := first | omega | (simp only [AM.DB, List.length_set, List.length_map]; first | done | omega)) only [AM.RB, Nat.reduceAdd, Nat.reduceMul, Nat.reduceEqDiff, reduceCtorEq, b56_G17]) | skip)
  refine index_w hs hn x fun r hr => ?_
  rw [← hr] at hq
  (first | (simp (maxSteps := 1000000) (disch := first | omega | (simp only [AM.DB, List.length_set, List.length_map]; first | done | omega)) only [AM.RB, Nat.reduceAdd, Nat.reduceMul, Nat.reduceEqDiff, reduceCtorEq, b56_G17]) | skip)
  exact hq
theorem edge_w {h : AHeap} {p : Nat} {L : List (List UInt8)} {S : Nat → Prop} (m : Mt h p L S) (f : Fit L) (hw : h.get GW = some (.cells waysC 123 false)) (hgl : GW < h.low) (hl : h.low ≤ h.next) (a b : Int) {Q : VQ}
    (hq : ∀ h' S', Mt h' p L S' → (∀ id, S' id → S id ∨ h.next ≤ id) → Fr (fun id => id = p) h h' → Q (.bool (decide (b ∈ nextL L a))) h') : W 44 [pv p, .int .i64 a, .int .i64 b] h Q := by
  have hEL := edgesL_len L f
  have hnl : (nextL L a).length ≤ 4096 := by unfold nextL; split; exact Nat.le_trans (fromE_len _ _) hEL; simp
  refine AM.enter hp (fn := Tryd.f44) (rs := [.tmp 6]) (nt := 12) (by kernel_rfl) Tryd.func44 rfl rfl rfl (by kernel_rfl) ?_
  (first | (simp (maxSteps := 1000000) (disch := first | omega | (simp only [AM.DB, List.length_set, List.length_map]; first | done | omega)) only [AM.RB, Nat.reduceAdd, Nat.reduceMul, Nat.reduceEqDiff, reduceCtorEq, b44_G17]) | skip)
  refine next_w m f hw hgl hl a fun v h1 S1 m1 hS1 o1 fr1 hid1 => ?_
  (first | (simp (maxSteps := 1000000) (disch := first | omega | (simp only [AM.DB, List.length_set, List.length_map]; first | done | omega)) only [AM.RB, Nat.reduceAdd, Nat.reduceMul, Nat.reduceEqDiff, reduceCtorEq, b44_G17]) | skip)
  refine contains_w o1.rd (by omega) b ?_
  (first | (simp (maxSteps := 1000000) (disch := first | omega | (simp only [AM.DB, List.length_set, List.length_map]; first | done | omega)) only [AM.RB, Nat.reduceAdd, Nat.reduceMul, Nat.reduceEqDiff, reduceCtorEq, b44_G17]) | skip)
  exact hq h1 S1 m1 hS1 fr1

end Go.Proofs.YtgdcbjpookldoaaDoor

namespace Go.Proofs.YtgdcbjpookldoaaDoor
open Go.AM

/-! ### The edges, as the document has them -/
def farN (C a b : Nat) : Int := max (((a / C : Nat) : Int) - (b / C : Nat)) (((b / C : Nat) : Int) - (a / C : Nat)) + max (((a % C : Nat) : Int) - (b % C : Nat)) (((b % C : Nat) : Int) - (a % C : Nat))
def wayOf (C a b : Nat) : Int × Int := if (b : Int) = (a : Int) - 1 ∧ b / C = a / C then (60, 62) else if b / C < a / C then (94, 118) else if a / C < b / C then (118, 94) else (62, 60)
/-- Does an edge go from a cell to another one? -/
def edgeN (K : List UInt8) (C a b : Nat) : Bool := !decide (((K.getD a 0).toNat : Int) = 35) && !decide (((K.getD b 0).toNat : Int) = 35) && decide (farN C a b = 1) &&
  (decide (((K.getD a 0).toNat : Int) = 46) || decide (((K.getD a 0).toNat : Int) = (wayOf C a b).1)) && !decide (((K.getD b 0).toNat : Int) = (wayOf C a b).2)
/-- A way leads to a cell. -/
def hits (C a b : Nat) (q : Wy) : Prop := ((b / C : Nat) : Int) = rowTo C a q ∧ ((b % C : Nat) : Int) = colTo C a q
theorem hits_of {R C a b : Nat} {q : Wy} (hC : 0 < C) (hb : b < R * C) : (inB R C a q = true ∧ cellTo C a q = b) ↔ hits C a b q := by
  have hm := Nat.mod_lt b hC
  have hd : b / C < R := by rw [Nat.div_lt_iff_lt_mul hC]; exact hb
  have he : b / C * C + b % C = b := by rw [Nat.mul_comm]; exact Nat.div_add_mod b C
  unfold hits inB cellTo
  simp only [Bool.and_eq_true, decide_eq_true_eq]
  generalize rowTo C a q = r
  generalize colTo C a q = c
  constructor
  · rintro ⟨⟨⟨⟨h1, h2⟩, h3⟩, h4⟩, h5⟩
    obtain ⟨r, rfl⟩ := Int.eq_ofNat_of_zero_le h1
    obtain ⟨c, rfl⟩ := Int.eq_ofNat_of_zero_le h3
    have hb' : b = c + C * r := by
      have h6 : b = r * C + c := by
        have : (b : Int) = ((r * C + c : Nat) : Int) := by rw [← h5, Int.natCast_add, Int.natCast_mul]
        exact Int.ofNat.inj this
      rw [h6, Nat.mul_comm, Nat.add_comm]
    have hc : c < C := by omega
    rw [hb', Nat.add_mul_div_left _ _ hC, Nat.add_mul_mod_self_left, Nat.div_eq_of_lt hc, Nat.mod_eq_of_lt hc, Nat.zero_add]
    exact ⟨rfl, rfl⟩
  · rintro ⟨rfl, rfl⟩
    refine ⟨⟨⟨⟨Int.natCast_nonneg _, Int.ofNat_lt.2 hd⟩, Int.natCast_nonneg _⟩, Int.ofNat_lt.2 hm⟩, ?_⟩
    rw [← Int.natCast_mul, ← Int.natCast_add, he]
theorem far_hits {C a b : Nat} : farN C a b = 1 ↔ ∃ q ∈ wayV, hits C a b q := by
  unfold farN hits rowTo colTo wayV
  generalize a / C = ra
  generalize b / C = rb
  generalize a % C = ca
  generalize b % C = cb
  constructor
  · intro h
    have hh : ((rb : Int) = ra - 1 ∧ (cb : Int) = ca) ∨ ((rb : Int) = ra ∧ (cb : Int) = ca - 1) ∨ ((rb : Int) = ra ∧ (cb : Int) = ca + 1) ∨ ((rb : Int) = ra + 1 ∧ (cb : Int) = ca) := by omega
    rcases hh with ⟨h1, h2⟩ | ⟨h1, h2⟩ | ⟨h1, h2⟩ | ⟨h1, h2⟩
    · exact ⟨(94, 118, -1, 0), by simp, by simp only; omega, by simp only; omega⟩
    · exact ⟨(60, 62, 0, -1), by simp, by simp only; omega, by simp only; omega⟩
    · exact ⟨(62, 60, 0, 1), by simp, by simp only; omega, by simp only; omega⟩
    · exact ⟨(118, 94, 1, 0), by simp, by simp only; omega, by simp only; omega⟩
  · rintro ⟨q, hq, h1, h2⟩
    simp only [List.mem_cons, List.not_mem_nil, or_false] at hq
    rcases hq with rfl | rfl | rfl | rfl <;> simp only at h1 h2 <;> omega
theorem way_of {C a b : Nat} (hC : 0 < C) {q : Wy} (hq : q ∈ wayV) (h : hits C a b q) : wayOf C a b = (q.1, q.2.1) := by
  have ha : a / C * C + a % C = a := by rw [Nat.mul_comm]; exact Nat.div_add_mod a C
  have hb : b / C * C + b % C = b := by rw [Nat.mul_comm]; exact Nat.div_add_mod b C
  obtain ⟨h1, h2⟩ := h
  unfold rowTo at h1
  unfold colTo at h2
  unfold wayOf
  generalize hra : a / C = ra at *
  generalize hrb : b / C = rb at *
  generalize hca : a % C = ca at *
  generalize hcb : b % C = cb at *
  unfold wayV at hq
  simp only [List.mem_cons, List.not_mem_nil, or_false] at hq
  rcases hq with rfl | rfl | rfl | rfl <;> simp only at h1 h2
  · rw [if_neg (by omega), if_pos (by omega)]
  · have e : rb = ra := by omega
    subst e
    rw [if_pos ⟨by omega, rfl⟩]
  · have e : rb = ra := by omega
    subst e
    rw [if_neg (by omega), if_neg (by omega), if_neg (by omega)]
  · rw [if_neg (by omega), if_neg (by omega), if_pos (by omega)]
/-- The program's edges are the document's. -/
theorem edge_iff (K : List UInt8) {R C a b : Nat} (hC : 0 < C) (hb : b < R * C) : edgeN K C a b = true ↔ ∃ q ∈ wayV, inB R C a q = true ∧ goesP K C a q = true ∧ cellTo C a q = b := by
  unfold edgeN
  simp only [Bool.and_eq_true, decide_eq_true_eq, Bool.or_eq_true, Bool.not_eq_true', decide_eq_false_iff_not]
  constructor
  · rintro ⟨⟨⟨⟨h1, h2⟩, h3⟩, h4⟩, h5⟩
    obtain ⟨q, hq, hh⟩ := far_hits.1 h3
    obtain ⟨i1, i2⟩ := (hits_of hC hb).2 hh
    refine ⟨q, hq, i1, ?_, i2⟩
    rw [way_of hC hq hh] at h4 h5
    unfold goesP leavesP
    rw [i2, Int.toNat_natCast]
    simp only [Bool.and_eq_true, decide_eq_true_eq, Bool.or_eq_true, Bool.not_eq_true', decide_eq_false_iff_not]
    exact ⟨⟨h4, h2⟩, h5⟩
  · rintro ⟨q, hq, i1, hg, i2⟩
    have hh := (hits_of hC hb).1 ⟨i1, i2⟩
    rw [way_of hC hq hh]
    unfold goesP leavesP at hg
    rw [i2, Int.toNat_natCast] at hg
    simp only [Bool.and_eq_true, decide_eq_true_eq, Bool.or_eq_true, Bool.not_eq_true', decide_eq_false_iff_not] at hg
    obtain ⟨⟨g1, g2⟩, g3⟩ := hg
    refine ⟨⟨⟨⟨?_, g2⟩, far_hits.2 ⟨q, hq, hh⟩⟩, g1⟩, g3⟩
    unfold wayV at hq
    simp only [List.mem_cons, List.not_mem_nil, or_false] at hq
    rcases hq with rfl | rfl | rfl | rfl <;> simp only at g1 <;> omega
/-! ### Ascending lists -/
def Asc : List Nat → Prop
  | [] => True
  | x :: l => (∀ y ∈ l, x < y) ∧ Asc l
theorem asc_eq : ∀ {l m : List Nat}, Asc l → Asc m → (∀ x, x ∈ l ↔ x ∈ m) → l = m
  | [], [], _, _, _ => rfl
  | [], y :: m, _, _, h => by have := (h y).2 (by simp); cases this
  | x :: l, [], _, _, h => by have := (h x).1 (by simp); cases this
  | x :: l, y :: m, ⟨a1, a2⟩, ⟨b1, b2⟩, h => by
    have e : x = y := by
      have h1 := (h x).1 (by simp)
      have h2 := (h y).2 (by simp)
      rcases List.mem_cons.1 h1 with q | q
      · exact q
      · rcases List.mem_cons.1 h2 with q2 | q2
        · exact q2.symm
        · have := b1 x q; have := a1 y q2; omega
    subst e
    rw [asc_eq a2 b2 fun z => ?_]
    constructor
    · intro hz
      rcases List.mem_cons.1 ((h z).1 (by simp [hz])) with q | q
      · have := a1 z hz; omega
      · exact q
    · intro hz
      rcases List.mem_cons.1 ((h z).2 (by simp [hz])) with q | q
      · have := b1 z hz; omega
      · exact q
theorem asc_append : ∀ {l m : List Nat}, Asc l → Asc m → (∀ x ∈ l, ∀ y ∈ m, x < y) → Asc (l ++ m)
  | [], _, _, hm, _ => hm
  | x :: l, m, ⟨a1, a2⟩, hm, h => ⟨fun y hy => (List.mem_append.1 hy).elim (a1 y) (h x (by simp) y), asc_append a2 hm fun z hz => h z (by simp [hz])⟩
theorem asc_filter {p : Nat → Bool} : ∀ {l : List Nat}, Asc l → Asc (l.filter p)
  | [], _ => trivial
  | x :: l, ⟨a1, a2⟩ => by
    rw [List.filter_cons]
    split
    · exact ⟨fun y hy => a1 y (List.mem_filter.1 hy).1, asc_filter a2⟩
    · exact asc_filter a2
theorem asc_range : ∀ n, Asc (List.range n)
  | 0 => trivial
  | n + 1 => by
    rw [List.range_succ]
    refine asc_append (asc_range n) ⟨fun y hy => by simp at hy, trivial⟩ fun x hx y hy => ?_
    have := List.mem_range.1 hx
    simp at hy; omega

/-- Where one goes from a cell, in order. -/
def outsW (K : List UInt8) (R C a : Nat) : List Nat := ((sidesF R C a wayV).filter (goesP K C a)).map fun q => (cellTo C a q).toNat
theorem outs_mem (K : List UInt8) {R C a b : Nat} (hC : 0 < C) : b ∈ outsW K R C a ↔ b < R * C ∧ edgeN K C a b = true := by
  unfold outsW sidesF
  rw [List.mem_map]
  constructor
  · rintro ⟨q, hq, rfl⟩
    obtain ⟨h1, h2⟩ := List.mem_filter.1 hq
    obtain ⟨h3, h4⟩ := List.mem_filter.1 h1
    obtain ⟨b, hb, hbl⟩ := cellTo_lt hC h4
    rw [hb, Int.toNat_natCast]
    exact ⟨hbl, (edge_iff K hC hbl).2 ⟨q, h3, h4, h2, hb⟩⟩
  · rintro ⟨hb, he⟩
    obtain ⟨q, h1, h2, h3, h4⟩ := (edge_iff K hC hb).1 he
    exact ⟨q, List.mem_filter.2 ⟨List.mem_filter.2 ⟨h1, h2⟩, h3⟩, by rw [h4, Int.toNat_natCast]⟩
theorem outs_asc (K : List UInt8) {R C a : Nat} (hC : 0 < C) : Asc (outsW K R C a) := by
  unfold outsW sidesF
  rw [List.filter_filter]
  have hm := Nat.mod_lt a hC
  -- the four, one behind the other
  have key : ∀ (l : List Wy), (∀ q ∈ l, inB R C a q = true → ∃ b : Nat, cellTo C a q = b) → (l.Pairwise fun q r => inB R C a q = true → inB R C a r = true → cellTo C a q < cellTo C a r) → Asc ((l.filter fun q => goesP K C a q && inB R C a q).map fun q => (cellTo C a q).toNat) := by
    intro l
    induction l with
    | nil => intro _ _; trivial
    | cons q l ih =>
      intro h1 h2
      rw [List.pairwise_cons] at h2
      rw [List.filter_cons]
      split
      · rename_i hc
        rw [Bool.and_eq_true] at hc
        refine ⟨fun y hy => ?_, ih (fun r hr => h1 r (by simp [hr])) h2.2⟩
        obtain ⟨r, hr, rfl⟩ := List.mem_map.1 hy
        obtain ⟨hr1, hr2⟩ := List.mem_filter.1 hr
        rw [Bool.and_eq_true] at hr2
        have := h2.1 r hr1 hc.2 hr2.2
        obtain ⟨b1, e1⟩ := h1 q (by simp) hc.2
        obtain ⟨b2, e2⟩ := h1 r (by simp [hr1]) hr2.2
        simp only
        rw [e1, e2] at this ⊢
        omega
      · exact ih (fun r hr => h1 r (by simp [hr])) h2.2
  refine key wayV (fun q _ h => (cellTo_lt hC h).imp fun _ q => q.1) ?_
  unfold wayV
  simp only [List.pairwise_cons, List.mem_cons, List.not_mem_nil, or_false, forall_eq_or_imp, forall_eq, false_implies, implies_true, List.Pairwise.nil, and_true]
  unfold inB cellTo rowTo colTo
  simp only [Bool.and_eq_true, decide_eq_true_eq]
  generalize a / C = ra
  generalize a % C = ca at *
  have e1 : ((ra : Int) + -1) * C = ra * C - C := by rw [Int.add_mul]; omega
  have e2 : ((ra : Int) + 1) * C = ra * C + C := by rw [Int.add_mul]; omega
  have e3 : ((ra : Int) + 0) * C = ra * C := by rw [Int.add_zero]
  rw [e1, e2, e3]
  generalize (ra : Int) * C = rc
  refine ⟨⟨?_, ?_, ?_⟩, ⟨?_, ?_⟩, ?_⟩ <;> (rintro ⟨⟨⟨_, _⟩, _⟩, _⟩ ⟨⟨⟨_, _⟩, _⟩, _⟩; omega)
theorem outs_eq (K : List UInt8) {R C a : Nat} (hC : 0 < C) : outsW K R C a = (List.range (R * C)).filter (edgeN K C a) :=
  asc_eq (outs_asc K hC) (asc_filter (asc_range _)) fun b => by rw [outs_mem K hC, List.mem_filter, List.mem_range]

theorem from_edges (K : List UInt8) (R C : Nat) : ∀ (n a : Nat), fromE (edgesTo K R C n) a = if a < n then (outsW K R C a).map fun (b : Nat) => (b : Int) else []
  | 0, a => by simp [edgesTo, fromE]
  | n + 1, a => by
    have ih := from_edges K R C n a
    have hs : fromE (edgesTo K R C (n + 1)) a = fromE (edgesTo K R C n) a ++ fromE (edgesW K C n (sidesF R C n wayV)) a := by
      rw [edgesTo]; unfold fromE; rw [List.filter_append, List.map_append]
    rw [hs, ih]
    by_cases e : a = n
    · subst e
      rw [if_neg (by omega), if_pos (by omega), List.nil_append]
      unfold fromE edgesW outsW
      rw [List.filter_map, List.map_map, List.map_map]
      congr 1
      rw [List.filter_eq_self]
      intro q _
      simp
    · have : fromE (edgesW K C n (sidesF R C n wayV)) a = [] := by
        unfold fromE edgesW
        rw [List.filter_map, List.map_map, List.map_eq_nil_iff, List.filter_eq_nil_iff]
        intro q _
        have : n ≠ a := fun q => e q.symm
        simp [this]
      rw [this, List.append_nil]
      by_cases h : a < n
      · rw [if_pos h, if_pos (by omega)]
      · rw [if_neg h, if_neg (by omega)]
theorem into_edges (K : List UInt8) {R C : Nat} (hC : 0 < C) {b : Nat} (hb : b < R * C) : ∀ (n : Nat), intoE (edgesTo K R C n) b = ((List.range n).filter fun a => edgeN K C a b).map fun (a : Nat) => (a : Int)
  | 0 => by simp [edgesTo, intoE]
  | n + 1 => by
    have ih := into_edges K hC hb n
    have hs : intoE (edgesTo K R C (n + 1)) b = intoE (edgesTo K R C n) b ++ intoE (edgesW K C n (sidesF R C n wayV)) b := by
      rw [edgesTo]; unfold intoE; rw [List.filter_append, List.map_append]
    rw [hs, ih, List.range_succ, List.filter_append, List.map_append]
    congr 1
    have h1 : intoE (edgesW K C n (sidesF R C n wayV)) b = ((outsW K R C n).filter fun x => decide (x = b)).map fun _ => (n : Int) := by
      unfold intoE edgesW outsW
      rw [List.filter_map, List.filter_map, List.map_map, List.map_map]
      rfl
    rw [h1, List.filter_cons, List.filter_nil]
    have hasc := outs_asc K (R := R) (a := n) hC
    have hmem := outs_mem K (R := R) (a := n) (b := b) hC
    have hcount : ∀ l : List Nat, Asc l → (l.filter fun x => decide (x = b)) = if b ∈ l then [b] else [] := by
      intro l
      induction l with
      | nil => intro _; simp
      | cons x l ih =>
        rintro ⟨a1, a2⟩
        rw [List.filter_cons, ih a2]
        by_cases e : x = b
        · subst e
          have : x ∉ l := fun q => by have := a1 x q; omega
          simp [this]
        · have : b ≠ x := fun q => e q.symm
          simp [e, this]
    rw [hcount _ hasc]
    cases he : edgeN K C n b with
    | true => rw [if_pos (hmem.2 ⟨hb, he⟩), if_pos rfl]; rfl
    | false =>
      rw [if_neg (fun q => by have := (hmem.1 q).2; rw [he] at this; cases this)]; rfl
theorem nextL_eq {L : List (List UInt8)} (f : Fit L) (i : Int) : nextL L i = if 0 ≤ i ∧ i < L.flatten.length then ((List.range L.flatten.length).filter (edgeN L.flatten (L.getD 0 []).length i.toNat)).map (fun (b : Nat) => (b : Int)) else [] := by
  unfold nextL
  split
  · rename_i h
    rw [from_edges, if_pos (by omega), outs_eq _ f.cols, f.len]
  · rfl
theorem backL_eq {L : List (List UInt8)} (f : Fit L) (i : Int) : backL L i = if 0 ≤ i ∧ i < L.flatten.length then ((List.range L.flatten.length).filter fun a => edgeN L.flatten (L.getD 0 []).length a i.toNat).map (fun (b : Nat) => (b : Int)) else [] := by
  unfold backL
  split
  · rename_i h
    rw [into_edges _ f.cols (by rw [← f.len]; omega)]
  · rfl

end Go.Proofs.YtgdcbjpookldoaaDoor

namespace Go.Proofs.YtgdcbjpookldoaaDoor
open Go.AM
set_option maxRecDepth 8000
theorem b67_G19 : type_of% (And.intro (@AM.aMax_int) (And.intro (@AM.bin_sub) (And.intro (@AM.op_binOp) (@AM.op_max2)))) := And.intro (@AM.aMax_int) (And.intro (@AM.bin_sub) (And.intro (@AM.op_binOp) (@AM.op_max2)))
theorem b24_G19 : type_of% (And.intro (@AM.bin_add) (And.intro (@AM.bin_quo) (And.intro (@AM.bin_rem) (And.intro (@AM.fa_ptr) (And.intro (@fd_84_1) (And.intro (@AM.ldO_agg) (And.intro (@AM.ldO_one) (And.intro (@AM.ld_ptr) (And.intro (@lk_3) (And.intro (@AM.op_binOp) (And.intro (@AM.op_call) (And.intro (@AM.op_fieldAddr) (And.intro (@AM.op_load) (And.intro (@AM.op_nilCheck) (And.intro (@AM.op_unOp) (And.intro (@AM.un_neg) (@AM.un_not))))))))))))))))) := And.intro (@AM.bin_add) (And.intro (@AM.bin_quo) (And.intro (@AM.bin_rem) (And.intro (@AM.fa_ptr) (And.intro (@fd_84_1) (And.intro (@AM.ldO_agg) (And.intro (@AM.ldO_one) (And.intro (@AM.ld_ptr) (And.intro (@lk_3) (And.intro (@AM.op_binOp) (And.intro (@AM.op_call) (And.intro (@AM.op_fieldAddr) (And.intro (@AM.op_load) (And.intro (@AM.op_nilCheck) (And.intro (@AM.op_unOp) (And.intro (@AM.un_neg) (@AM.un_not))))))))))))))))
theorem b19_G19 : type_of% (And.intro (@AM.bin_add) (And.intro (@AM.bin_lss) (And.intro (@AM.bin_neq) (And.intro (@AM.iaO_ok) (And.intro (AM.ia_slice el_22) (And.intro (@AM.ldO_agg) (And.intro (@AM.ldO_one) (And.intro (@AM.ld_ptr) (And.intro (AM.len_slice ul_22) (And.intro (@lk_3) (And.intro (@AM.op_binOp) (And.intro (@AM.op_indexAddr) (And.intro (@AM.op_len) (@AM.op_load)))))))))))))) := And.intro (@AM.bin_add) (And.intro (@AM.bin_lss) (And.intro (@AM.bin_neq) (And.intro (@AM.iaO_ok) (And.intro (AM.ia_slice el_22) (And.intro (@AM.ldO_agg) (And.intro (@AM.ldO_one) (And.intro (@AM.ld_ptr) (And.intro (AM.len_slice ul_22) (And.intro (@lk_3) (And.intro (@AM.op_binOp) (And.intro (@AM.op_indexAddr) (And.intro (@AM.op_len) (@AM.op_load)))))))))))))


def farL (L : List (List UInt8)) (a b : Int) : Int := if (0 ≤ a ∧ a < L.flatten.length) ∧ 0 ≤ b ∧ b < L.flatten.length then farN (L.getD 0 []).length a.toNat b.toNat else -1
theorem apart_w {x y : Int} {h : AHeap} (hx : 0 ≤ x ∧ x ≤ 4000000) (hy : 0 ≤ y ∧ y ≤ 4000000) {Q : VQ} (hq : Q (.int .i64 (max (x - y) (y - x))) h) : W 67 [.int .i64 x, .int .i64 y] h Q := by
  refine AM.enter hp (fn := Tryd.f67) (rs := [.tmp 4]) (nt := 12) (by kernel_rfl) Tryd.func67 rfl rfl rfl (by kernel_rfl) ?_
  (first | (simp (maxSteps := 1000000) (disch := first | omega | (simp only [AM.DB, List.length_set, List.length_map]; first | done | omega)) only [AM.RB, Nat.reduceAdd, Nat.reduceMul, Nat.reduceEqDiff, reduceCtorEq, b67_G19, AM.wrap_i64]) | skip)
  exact hq
theorem tdiv_nat (n C : Nat) : (n : Int).tdiv C = ((n / C : Nat) : Int) := by rw [Int.tdiv_eq_ediv_of_nonneg (by omega)]; rfl
theorem tmod_nat (n C : Nat) : (n : Int).tmod C = ((n % C : Nat) : Int) := by rw [Int.tmod_eq_emod_of_nonneg (by omega)]; rfl
theorem wrap_nat {n : Nat} (h : n ≤ 4000000000) : IntKind.i64.wrap (n : Int) = n := AM.wrap_i64 (by omega) (by omega)
set_option maxHeartbeats 1000000 in
theorem far_w {h : AHeap} {p : Nat} {kv : Value} {tl : List Value} {L : List (List UInt8)} (m : Mp h p kv L.length (L.getD 0 []).length L.flatten tl) (f : Fit L) (a b : Int) {Q : VQ} (hq : Q (.int .i64 (farL L a b)) h) : W 24 [pv p, .int .i64 a, .int .i64 b] h Q := by
  have hg := m.1
  have hpl := AM.get_some_lt hg
  have hK := f.k1024
  have hC := f.cols
  unfold farL at hq
  refine AM.enter hp (fn := Tryd.f24) (rs := [.tmp 6]) (nt := 44) (by kernel_rfl) Tryd.func24 rfl rfl rfl (by kernel_rfl) ?_
  (repeat' (first | (simp (maxSteps := 1000000) (disch := first | omega | (simp only [AM.DB, List.length_set, List.length_map]; first | done | omega)) only [AM.RB, Nat.reduceAdd, Nat.reduceMul, Nat.reduceEqDiff, reduceCtorEq, b24_G19]) | refine AM.drawW_loose (id := 3) hp (by kernel_rfl) (by kernel_rfl) ?_ | refine AM.opW_tied (by kernel_rfl) ?_ | refine AM.opW_untied (by kernel_rfl) ?_))
  refine is_w m f.rows a _ ?_
  by_cases ha : 0 ≤ a ∧ a < L.flatten.length
  · (repeat' (first | (simp (maxSteps := 1000000) (disch := first | omega | (simp only [AM.DB, List.length_set, List.length_map]; first | done | omega)) only [AM.RB, Nat.reduceAdd, Nat.reduceMul, Nat.reduceEqDiff, reduceCtorEq, b24_G19, decide_eq_true ha]) | refine AM.drawW_loose (id := 3) hp (by kernel_rfl) (by kernel_rfl) ?_ | refine AM.opW_tied (by kernel_rfl) ?_ | refine AM.opW_untied (by kernel_rfl) ?_))
    refine is_w m f.rows b _ ?_
    by_cases hb : 0 ≤ b ∧ b < L.flatten.length
    · rw [if_pos ⟨ha, hb⟩] at hq
      obtain ⟨na, rfl⟩ := Int.eq_ofNat_of_zero_le ha.1
      obtain ⟨nb, rfl⟩ := Int.eq_ofNat_of_zero_le hb.1
      have hC' : ((L.getD 0 []).length : Int) ≠ 0 := by omega
      have e1 := tdiv_nat na (L.getD 0 []).length
      have e2 := tdiv_nat nb (L.getD 0 []).length
      have e3 := tmod_nat na (L.getD 0 []).length
      have e4 := tmod_nat nb (L.getD 0 []).length
      have b1 : na / (L.getD 0 []).length ≤ 1024 := Nat.le_trans (Nat.div_le_self _ _) (by omega)
      have b2 : nb / (L.getD 0 []).length ≤ 1024 := Nat.le_trans (Nat.div_le_self _ _) (by omega)
      have b3 : na % (L.getD 0 []).length ≤ 1024 := Nat.le_trans (Nat.mod_le _ _) (by omega)
      have b4 : nb % (L.getD 0 []).length ≤ 1024 := Nat.le_trans (Nat.mod_le _ _) (by omega)
      rw [Int.toNat_natCast, Int.toNat_natCast] at hq
      unfold farN at hq
      generalize na / (L.getD 0 []).length = x1 at *
      generalize nb / (L.getD 0 []).length = x2 at *
      generalize na % (L.getD 0 []).length = x3 at *
      generalize nb % (L.getD 0 []).length = x4 at *
      have w1 := wrap_nat (n := x1) (by omega)
      have w2 := wrap_nat (n := x2) (by omega)
      (repeat' (first | (simp (maxSteps := 1000000) (disch := first | omega | (simp only [AM.DB, List.length_set, List.length_map]; first | done | omega)) only [AM.RB, Nat.reduceAdd, Nat.reduceMul, Nat.reduceEqDiff, reduceCtorEq, b24_G19, decide_eq_true hb, hg, e1, e2, w1, w2]) | refine AM.drawW_loose (id := 3) hp (by kernel_rfl) (by kernel_rfl) ?_ | refine AM.opW_tied (by kernel_rfl) ?_ | refine AM.opW_untied (by kernel_rfl) ?_))
      refine apart_w ⟨by omega, by omega⟩ ⟨by omega, by omega⟩ ?_
      (repeat' (first | (simp (maxSteps := 1000000) (disch := first | omega | (simp only [AM.DB, List.length_set, List.length_map]; first | done | omega)) only [AM.RB, Nat.reduceAdd, Nat.reduceMul, Nat.reduceEqDiff, reduceCtorEq, b24_G19, hg, e3, e4]) | refine AM.drawW_loose (id := 3) hp (by kernel_rfl) (by kernel_rfl) ?_ | refine AM.opW_tied (by kernel_rfl) ?_ | refine AM.opW_untied (by kernel_rfl) ?_))
      refine apart_w ⟨by omega, by omega⟩ ⟨by omega, by omega⟩ ?_
      (repeat' (first | (simp (maxSteps := 1000000) (disch := first | omega | (simp only [AM.DB, List.length_set, List.length_map]; first | done | omega)) only [AM.RB, Nat.reduceAdd, Nat.reduceMul, Nat.reduceEqDiff, reduceCtorEq, b24_G19, AM.wrap_i64]) | refine AM.drawW_loose (id := 3) hp (by kernel_rfl) (by kernel_rfl) ?_ | refine AM.opW_tied (by kernel_rfl) ?_ | refine AM.opW_untied (by kernel_rfl) ?_))
      refine ⟨AM.looseOk_by [(17, [0, 13]), (23, [0, 13])] (by kernel_rfl) ?_, ?_⟩
      · simp (maxSteps := 1000000) (disch := first | omega | (simp only [AM.DB, List.length_set, List.length_map]; first | done | omega)) only [AM.RB, Nat.reduceAdd, Nat.reduceMul, Nat.reduceEqDiff, reduceCtorEq, b24_G19]
        (repeat' apply And.intro) <;> (first | (refine AM.stable_len _ _ _ _ _ _ (fun _ => ?_); (simp (maxSteps := 1000000) (disch := first | omega | (simp only [AM.DB, List.length_set, List.length_map]; first | done | omega)) only [AM.RB, Nat.reduceAdd, Nat.reduceMul, Nat.reduceEqDiff, reduceCtorEq, b24_G19, hg])) | (refine AM.stable_load _ _ _ _ _ _ ?_; (first | (simp (maxSteps := 1000000) (disch := first | omega | (simp only [AM.DB, List.length_set, List.length_map]; first | done | omega)) only [AM.RB, Nat.reduceAdd, Nat.reduceMul, Nat.reduceEqDiff, reduceCtorEq, b24_G19, hg]) | skip); (first | (refine AM.stabL_int (by omega) ?_; (simp (maxSteps := 1000000) (disch := first | omega | (simp only [AM.DB, List.length_set, List.length_map]; first | done | omega)) only [AM.RB, Nat.reduceAdd, Nat.reduceMul, Nat.reduceEqDiff, reduceCtorEq, b24_G19, hg])) | (refine AM.stabL_ptr (by omega) (by omega) ?_; (simp (maxSteps := 1000000) (disch := first | omega | (simp only [AM.DB, List.length_set, List.length_map]; first | done | omega)) only [AM.RB, Nat.reduceAdd, Nat.reduceMul, Nat.reduceEqDiff, reduceCtorEq, b24_G19, hg])) | (refine AM.stabL_string (by omega) ?_; (simp (maxSteps := 1000000) (disch := first | omega | (simp only [AM.DB, List.length_set, List.length_map]; first | done | omega)) only [AM.RB, Nat.reduceAdd, Nat.reduceMul, Nat.reduceEqDiff, reduceCtorEq, b24_G19, hg])) | (refine AM.stabL_bool (by omega) ?_; (simp (maxSteps := 1000000) (disch := first | omega | (simp only [AM.DB, List.length_set, List.length_map]; first | done | omega)) only [AM.RB, Nat.reduceAdd, Nat.reduceMul, Nat.reduceEqDiff, reduceCtorEq, b24_G19, hg])))))
      exact hq
    · rw [if_neg (fun q => hb q.2)] at hq
      (repeat' (first | (simp (maxSteps := 1000000) (disch := first | omega | (simp only [AM.DB, List.length_set, List.length_map]; first | done | omega)) only [AM.RB, Nat.reduceAdd, Nat.reduceMul, Nat.reduceEqDiff, reduceCtorEq, b24_G19, decide_eq_false hb]) | refine AM.drawW_loose (id := 3) hp (by kernel_rfl) (by kernel_rfl) ?_ | refine AM.opW_tied (by kernel_rfl) ?_ | refine AM.opW_untied (by kernel_rfl) ?_))
      exact hq
  · rw [if_neg (fun q => ha q.1)] at hq
    (repeat' (first | (simp (maxSteps := 1000000) (disch := first | omega | (simp only [AM.DB, List.length_set, List.length_map]; first | done | omega)) only [AM.RB, Nat.reduceAdd, Nat.reduceMul, Nat.reduceEqDiff, reduceCtorEq, b24_G19, decide_eq_false ha]) | refine AM.drawW_loose (id := 3) hp (by kernel_rfl) (by kernel_rfl) ?_ | refine AM.opW_tied (by kernel_rfl) ?_ | refine AM.opW_untied (by kernel_rfl) ?_))
    exact hq

theorem same_w {s t : Value} {n k : Nat} {l m : List Int} {h : AHeap} (hs : Rd h 3 1 s n (l.map (.int .i64))) (ht : Rd h 3 1 t k (m.map (.int .i64))) (hn : n ≤ 4000000000) {Q : VQ} (hq : Q (.bool (decide (l = m))) h) : W 19 [s, t] h Q := by
  obtain ⟨a, ac, rfl⟩ := hs.form
  obtain ⟨b, bc, rfl⟩ := ht.form
  have hl : l.length = n := by have := hs.length; rw [List.length_map] at this; omega
  have hm : m.length = k := by have := ht.length; rw [List.length_map] at this; omega
  refine AM.enter hp (fn := Tryd.f19) (rs := [.tmp 4]) (nt := 26) (by kernel_rfl) Tryd.func19 rfl rfl rfl (by kernel_rfl) ?_
  by_cases hnk : (n : Int) = k
  · (repeat' (first | (simp (maxSteps := 1000000) (disch := first | omega | (simp only [AM.DB, List.length_set, List.length_map]; first | done | omega)) only [AM.RB, Nat.reduceAdd, Nat.reduceMul, Nat.reduceEqDiff, reduceCtorEq, b19_G19, decide_eq_true hnk]) | refine AM.drawW_fine hp (by kernel_rfl) (by kernel_rfl) (by kernel_rfl) ?_ | refine AM.opW_tied (by kernel_rfl) ?_ | refine AM.opW_untied (by kernel_rfl) ?_))
    refine AM.loop_w hp 26 (fun i : Nat => [(0, .slice a n ac), (1, .slice b k bc), (5, .int .i64 i)]) (fun i h' => h' = h ∧ i ≤ n ∧ l.take i = m.take i) (fun i => n - i) (by kernel_rfl) 0 ?_ ?_ ?_
    · simp (maxSteps := 1000000) (disch := first | omega | (simp only [AM.DB, List.length_set, List.length_map]; first | done | omega)) only [AM.RB, Nat.reduceAdd, Nat.reduceMul, Nat.reduceEqDiff, reduceCtorEq, b19_G19]
    · exact ⟨rfl, Nat.zero_le _, rfl⟩
    rintro i h1 ρ ⟨rfl, hi, htk⟩
    simp (maxSteps := 1000000) (disch := first | omega | (simp only [AM.DB, List.length_set, List.length_map]; first | done | omega)) only [AM.RB, Nat.reduceAdd, Nat.reduceMul, Nat.reduceEqDiff, reduceCtorEq, b19_G19]
    refine AM.condV_split (fun hlt => ?_) (fun hlt => ?_)
    · have hil : i < l.length := by omega
      have him : i < m.length := by omega
      by_cases e : l.getD i 0 = m.getD i 0
      · (repeat' (first | (simp (maxSteps := 1000000) (disch := first | omega | (simp only [AM.DB, List.length_set, List.length_map]; first | done | omega)) only [AM.RB, Nat.reduceAdd, Nat.reduceMul, Nat.reduceEqDiff, reduceCtorEq, b19_G19, hs.ia el_22, ht.ia el_22, Rd.ldi hs lk_3, Rd.ldi ht lk_3, Int.toNat_natCast, decide_eq_true e, AM.wrap_i64]) | refine AM.drawW_fine hp (by kernel_rfl) (by kernel_rfl) (by kernel_rfl) ?_ | refine AM.opW_tied (by kernel_rfl) ?_ | refine AM.opW_untied (by kernel_rfl) ?_))
        refine ⟨i + 1, by omega, congrArg _ (by omega), by omega, ?_⟩
        rw [List.take_add_one, List.take_add_one, htk]
        simp only [List.getD, List.getElem?_eq_getElem hil, List.getElem?_eq_getElem him, Option.getD_some] at e ⊢
        rw [e]
      · (repeat' (first | (simp (maxSteps := 1000000) (disch := first | omega | (simp only [AM.DB, List.length_set, List.length_map]; first | done | omega)) only [AM.RB, Nat.reduceAdd, Nat.reduceMul, Nat.reduceEqDiff, reduceCtorEq, b19_G19, hs.ia el_22, ht.ia el_22, Rd.ldi hs lk_3, Rd.ldi ht lk_3, Int.toNat_natCast, decide_eq_false e]) | refine AM.drawW_fine hp (by kernel_rfl) (by kernel_rfl) (by kernel_rfl) ?_ | refine AM.opW_tied (by kernel_rfl) ?_ | refine AM.opW_untied (by kernel_rfl) ?_))
        rw [decide_eq_false (fun q => e (by rw [q]))] at hq
        exact hq
    · have e : l = m := by
        have : i = n := by omega
        subst this
        rw [← hl, List.take_length] at htk
        rw [htk, List.take_of_length_le (by omega)]
      rw [decide_eq_true e] at hq
      (repeat' (first | (simp (maxSteps := 1000000) (disch := first | omega | (simp only [AM.DB, List.length_set, List.length_map]; first | done | omega)) only [AM.RB, Nat.reduceAdd, Nat.reduceMul, Nat.reduceEqDiff, reduceCtorEq, b19_G19]) | refine AM.drawW_fine hp (by kernel_rfl) (by kernel_rfl) (by kernel_rfl) ?_ | refine AM.opW_tied (by kernel_rfl) ?_ | refine AM.opW_untied (by kernel_rfl) ?_))
      exact hq
  · (repeat' (first | (simp (maxSteps := 1000000) (disch := first | omega | (simp only [AM.DB, List.length_set, List.length_map]; first | done | omega)) only [AM.RB, Nat.reduceAdd, Nat.reduceMul, Nat.reduceEqDiff, reduceCtorEq, b19_G19, decide_eq_false hnk]) | refine AM.drawW_fine hp (by kernel_rfl) (by kernel_rfl) (by kernel_rfl) ?_ | refine AM.opW_tied (by kernel_rfl) ?_ | refine AM.opW_untied (by kernel_rfl) ?_))
    rw [decide_eq_false (fun q => hnk (by rw [← hl, ← hm, q]))] at hq
    exact hq

end Go.Proofs.YtgdcbjpookldoaaDoor

namespace Go.Proofs.YtgdcbjpookldoaaDoor
open Go.AM
set_option maxRecDepth 8000
def edgeL (L : List (List UInt8)) (a b : Int) : Bool := decide ((0 ≤ a ∧ a < L.flatten.length) ∧ 0 ≤ b ∧ b < L.flatten.length) && edgeN L.flatten (L.getD 0 []).length a.toNat b.toNat
/-! ### Lists of the document's -/
def nxt (L : List (List UInt8)) (a : Int) (n : Nat) : List Int := ((List.range n).filter fun (b : Nat) => edgeL L a b).map fun (b : Nat) => (b : Int)
def bck (L : List (List UInt8)) (b : Int) (n : Nat) : List Int := ((List.range n).filter fun (a : Nat) => edgeL L a b).map fun (a : Nat) => (a : Int)
theorem nxt_len (L : List (List UInt8)) (a : Int) (n : Nat) : (nxt L a n).length ≤ n := by
  unfold nxt; rw [List.length_map]; exact Nat.le_trans (List.length_filter_le _ _) (by simp)
theorem bck_len (L : List (List UInt8)) (a : Int) (n : Nat) : (bck L a n).length ≤ n := by
  unfold bck; rw [List.length_map]; exact Nat.le_trans (List.length_filter_le _ _) (by simp)
theorem nxt_eq {L : List (List UInt8)} (f : Fit L) (a : Int) : nxt L a L.flatten.length = nextL L a := by
  rw [nextL_eq f]
  unfold nxt
  split
  · rename_i h
    congr 1
    apply List.filter_congr
    intro b hb
    have := List.mem_range.1 hb
    unfold edgeL
    rw [decide_eq_true ⟨h, by omega, by omega⟩, Bool.true_and, Int.toNat_natCast]
  · rename_i h
    rw [List.map_eq_nil_iff, List.filter_eq_nil_iff]
    intro b _
    unfold edgeL
    rw [decide_eq_false (fun q => h q.1)]; simp
theorem bck_eq {L : List (List UInt8)} (f : Fit L) (b : Int) : bck L b L.flatten.length = backL L b := by
  rw [backL_eq f]
  unfold bck
  split
  · rename_i h
    congr 1
    apply List.filter_congr
    intro a ha
    have := List.mem_range.1 ha
    unfold edgeL
    rw [decide_eq_true ⟨⟨by omega, by omega⟩, h⟩, Bool.true_and, Int.toNat_natCast]
  · rename_i h
    rw [List.map_eq_nil_iff, List.filter_eq_nil_iff]
    intro a _
    unfold edgeL
    rw [decide_eq_false (fun q => h q.2)]; simp
theorem edge_mem {L : List (List UInt8)} (f : Fit L) (a b : Int) : decide (b ∈ nextL L a) = edgeL L a b := by
  rw [← nxt_eq f]
  unfold nxt
  cases he : edgeL L a b with
  | true =>
    have h := he
    unfold edgeL at h
    rw [Bool.and_eq_true, decide_eq_true_eq] at h
    obtain ⟨⟨_, h1, h2⟩, _⟩ := h
    obtain ⟨n, rfl⟩ := Int.eq_ofNat_of_zero_le h1
    exact decide_eq_true (List.mem_map.2 ⟨n, List.mem_filter.2 ⟨List.mem_range.2 (by omega), he⟩, rfl⟩)
  | false =>
    refine decide_eq_false fun q => ?_
    obtain ⟨n, hn, rfl⟩ := List.mem_map.1 q
    rw [(List.mem_filter.1 hn).2] at he; cases he

end Go.Proofs.YtgdcbjpookldoaaDoor

namespace Go.Proofs.YtgdcbjpookldoaaDoor
open Go.AM

theorem Mt.start {h : AHeap} {p : Nat} {kv : Value} {L : List (List UInt8)} (m : Mp h p kv L.length (L.getD 0 []).length L.flatten tl0) : Mt h p L (fun id => id = p ∨ idOf kv id) :=
  ⟨kv, fun id q => .inr q, .inl rfl, fun id q => q.elim (fun e => by rw [e]; exact AM.get_some_lt m.1) (fun q => m.2.1.lt q), .inl m⟩
theorem nextL_len {L : List (List UInt8)} (f : Fit L) (i : Int) : (nextL L i).length ≤ 1024 := by rw [← nxt_eq f]; exact Nat.le_trans (nxt_len _ _ _) f.k1024
theorem backL_len {L : List (List UInt8)} (f : Fit L) (i : Int) : (backL L i).length ≤ 1024 := by rw [← bck_eq f]; exact Nat.le_trans (bck_len _ _ _) f.k1024
/-- What the laws keep of a map between calls. -/
structure Keep (h0 h : AHeap) (p : Nat) (L : List (List UInt8)) (S : Nat → Prop) : Prop where
  mt : Mt h p L S
  low : h.low = h0.low
  next : h0.next ≤ h.next
  ways : h.get GW = some (.cells waysC 123 false)

end Go.Proofs.YtgdcbjpookldoaaDoor

namespace Go.Proofs.YtgdcbjpookldoaaDoor
open Go.AM

/-! ### Laws of edges -/
/-- What an edge tells. -/
theorem edgeL_facts {L : List (List UInt8)} {a b : Int} (h : edgeL L a b = true) : ((0 ≤ a ∧ a < L.flatten.length) ∧ 0 ≤ b ∧ b < L.flatten.length) ∧ farL L a b = 1 ∧ freeP L.flatten a = true ∧ freeP L.flatten b = true := by
  unfold edgeL edgeN at h
  simp only [Bool.and_eq_true, decide_eq_true_eq, Bool.or_eq_true, Bool.not_eq_true', decide_eq_false_iff_not] at h
  obtain ⟨hin, ⟨⟨⟨h1, h2⟩, h3⟩, _⟩, _⟩ := h
  refine ⟨hin, by unfold farL; rw [if_pos hin]; exact h3, ?_, ?_⟩
  · unfold freeP kindP
    rw [decide_eq_true hin.1, if_pos hin.1.1, Bool.true_and]
    have : decide (L.flatten.getD a.toNat 0 = 35) = false := decide_eq_false fun e => h1 (by rw [e]; rfl)
    rw [this]; rfl
  · unfold freeP kindP
    rw [decide_eq_true hin.2, if_pos hin.2.1, Bool.true_and]
    have : decide (L.flatten.getD b.toNat 0 = 35) = false := decide_eq_false fun e => h2 (by rw [e]; rfl)
    rw [this]; rfl
theorem backL_mem {L : List (List UInt8)} (f : Fit L) {a b : Int} (h : edgeL L a b = true) : a ∈ backL L b := by
  rw [← bck_eq f]
  unfold bck
  obtain ⟨hin, _⟩ := edgeL_facts h
  obtain ⟨n, rfl⟩ := Int.eq_ofNat_of_zero_le hin.1.1
  exact List.mem_map.2 ⟨n, List.mem_filter.2 ⟨List.mem_range.2 (by omega), h⟩, rfl⟩

end Go.Proofs.YtgdcbjpookldoaaDoor

namespace Go.Proofs.YtgdcbjpookldoaaDoor
open Go.AM

/-! ### A text out of rows -/
/-- Rows that are a map's. -/
structure Rows' (L : List (List UInt8)) (C : Nat) : Prop where
  c0 : 0 < C
  c32 : C ≤ 32
  all : ∀ T ∈ L, T.length = C
  cell : ∀ T ∈ L, ∀ c ∈ T, cellB c = true
end Go.Proofs.YtgdcbjpookldoaaDoor

namespace Go.Proofs.YtgdcbjpookldoaaDoor
open Go.AM

/-! ### Walls below, walls above -/
abbrev wallR (C : Nat) : List UInt8 := List.replicate C 35
end Go.Proofs.YtgdcbjpookldoaaDoor

namespace Go.Proofs.YtgdcbjpookldoaaDoor
open Go.AM

abbrev colsL (L : List (List UInt8)) : Nat := (L.getD 0 []).length
theorem Good.any {l : List UInt8} {L : List (List UInt8)} (g : Good l L) : L.any freeL = true := by
  rw [← any_flat]; exact (allP_any _).1 g.some
def below (L : List (List UInt8)) : List (List UInt8) := L ++ [wallR (colsL L)]
def above (L : List (List UInt8)) : List (List UInt8) := wallR (colsL L) :: L
end Go.Proofs.YtgdcbjpookldoaaDoor

namespace Go.Proofs.YtgdcbjpookldoaaDoor
open Go.AM

/-! ### Several maps at once -/
/-- A map in memory that owns none of some others. -/
def Mk (h : AHeap) (p : Nat) (L : List (List UInt8)) (B : Nat → Prop) : Prop := (∃ S, Mt h p L S ∧ ∀ id, B id → ¬ S id) ∧ ∀ id, B id → id < h.next
theorem Mk.mp {h : AHeap} {p : Nat} {L : List (List UInt8)} {B : Nat → Prop} (m : Mk h p L B) : ∃ kv tl, Mp h p kv L.length (L.getD 0 []).length L.flatten tl := by
  obtain ⟨⟨S, m, _⟩, _⟩ := m
  exact m.mp
theorem Mk.lt {h : AHeap} {p : Nat} {L : List (List UInt8)} {B : Nat → Prop} (m : Mk h p L B) : p < h.next := by
  obtain ⟨⟨S, m, _⟩, _⟩ := m
  exact m.lt m.self
theorem Mk.frB {h h' : AHeap} {p : Nat} {L : List (List UInt8)} {B T : Nat → Prop} (m : Mk h p L B) (fr : Fr T h h') (hT : ∀ id, T id → B id) : Mk h' p L B := by
  obtain ⟨⟨S, m, hB⟩, hb⟩ := m
  have hn := fr.next
  exact ⟨⟨S, m.fr fr fun id q1 q2 => hB id (hT id q2) q1, hB⟩, fun id q => Nat.lt_of_lt_of_le (hb id q) hn⟩
theorem Mk.fr0 {h h' : AHeap} {p : Nat} {L : List (List UInt8)} {B : Nat → Prop} (m : Mk h p L B) (fr : Fr none' h h') : Mk h' p L B := m.frB fr fun _ q => q.elim
theorem Mk.grow {h h' : AHeap} {p : Nat} {L : List (List UInt8)} {B S S' : Nat → Prop} (hB : ∀ id, B id → ¬ S id) (hb : ∀ id, B id → id < h.next) (m' : Mt h' p L S') (hS : ∀ id, S' id → S id ∨ h.next ≤ id) (hn : h.next ≤ h'.next) : Mk h' p L B := by
  refine ⟨⟨S', m', fun id q1 q2 => ?_⟩, fun id q => Nat.lt_of_lt_of_le (hb id q) hn⟩
  have := hb id q1
  rcases hS id q2 with q | q
  · exact hB id q1 q
  · omega
theorem nextK_w {h : AHeap} {p : Nat} {L : List (List UInt8)} {B : Nat → Prop} (m : Mk h p L B) (f : Fit L) (hw : h.get GW = some (.cells waysC 123 false)) (hgl : GW < h.low) (hl : h.low ≤ h.next) (i : Int) {Q : VQ}
    (hq : ∀ v h', Mk h' p L B → Ow h' 3 1 v (nextL L i).length ((nextL L i).map (.int .i64)) → Fr (fun id => id = p) h h' → (∀ id, idOf v id → h.next ≤ id) → Q v h') : W 25 [pv p, .int .i64 i] h Q := by
  obtain ⟨⟨S, m, hB⟩, hb⟩ := m
  exact next_w m f hw hgl hl i fun v h' S' m' hS' o fr hid => hq v h' (Mk.grow hB hb m' hS' fr.next) o fr fun id q => (hid id q).1
theorem edgeK_w {h : AHeap} {p : Nat} {L : List (List UInt8)} {B : Nat → Prop} (m : Mk h p L B) (f : Fit L) (hw : h.get GW = some (.cells waysC 123 false)) (hgl : GW < h.low) (hl : h.low ≤ h.next) (a b : Int) {Q : VQ}
    (hq : ∀ h', Mk h' p L B → Fr (fun id => id = p) h h' → Q (.bool (edgeL L a b)) h') : W 44 [pv p, .int .i64 a, .int .i64 b] h Q := by
  obtain ⟨⟨S, m, hB⟩, hb⟩ := m
  exact edge_w m f hw hgl hl a b fun h' S' m' hS' fr => by rw [edge_mem f]; exact hq h' (Mk.grow hB hb m' hS' fr.next) fr
/-- A map that was just read. -/
theorem Mk.start {h h0 : AHeap} {p : Nat} {kv : Value} {L : List (List UInt8)} {B : Nat → Prop} (m : Mp h p kv L.length (L.getD 0 []).length L.flatten tl0) (hp' : h0.next ≤ p) (hid : ∀ id, idOf kv id → h0.next ≤ id) (hn : h0.next ≤ h.next) (hB : ∀ id, B id → id < h0.next) : Mk h p L B :=
  ⟨⟨_, Mt.start m, fun id q1 q2 => by
    have := hB id q1
    rcases q2 with rfl | q2
    · omega
    · have := hid id q2; omega⟩, fun id q => Nat.lt_of_lt_of_le (hB id q) hn⟩
/-- Later ones are none of its own. -/
theorem Mk.more {h : AHeap} {p : Nat} {L : List (List UInt8)} {B C : Nat → Prop} (m : Mk h p L B) {h' : AHeap} (fr : Fr none' h h') (hC : ∀ id, C id → B id ∨ (h.next ≤ id ∧ id < h'.next)) : Mk h' p L C := by
  obtain ⟨⟨S, m, hB⟩, hb⟩ := m
  have hn := fr.next
  refine ⟨⟨S, m.fr0 fr, fun id q1 q2 => ?_⟩, fun id q => ?_⟩
  · rcases hC id q1 with q | q
    · exact hB id q q2
    · have := m.lt q2; omega
  · rcases hC id q with q | q
    · exact Nat.lt_of_lt_of_le (hb id q) hn
    · exact q.2

end Go.Proofs.YtgdcbjpookldoaaDoor

namespace Go.Proofs.YtgdcbjpookldoaaDoor
open Go.AM
set_option maxRecDepth 8000
theorem b60_RT1 : type_of% (And.intro (@AM.bdV_some) (And.intro (@bd_100) (And.intro (@AM.bin_add) (And.intro (@AM.bin_lss) (And.intro (@AM.bin_neq) (And.intro (@AM.boxK_agg) (And.intro (@AM.boxK_bool) (And.intro (@AM.boxK_func) (And.intro (@AM.boxK_int) (And.intro (@AM.boxK_map) (And.intro (@AM.boxK_pointer) (And.intro (@AM.boxK_slice) (And.intro (@AM.boxK_string) (And.intro (@AM.fa_ptr) (And.intro (@fd_100_1) (And.intro (@AM.fillL_cons) (And.intro (@AM.fillL_nil) (And.intro (@AM.fillS_agg) (And.intro (@AM.fillS_bool) (And.intro (@AM.fillS_func) (And.intro (@AM.fillS_int) (And.intro (@AM.fillS_map) (And.intro (@AM.fillS_pointer) (And.intro (@AM.fillS_slice) (And.intro (@AM.fillS_string) (And.intro (@AM.iaO_ok) (And.intro (AM.ia_slice el_22) (And.intro (@AM.ldO_agg) (And.intro (@AM.ldO_one) (And.intro (@AM.ld_ptr) (And.intro (AM.len_slice ul_22) (And.intro (@lk_3) (And.intro (@lk_98) (And.intro (@AM.op_binOp) (And.intro (@AM.op_box) (And.intro (@AM.op_build) (And.intro (@AM.op_fieldAddr) (And.intro (@AM.op_indexAddr) (And.intro (@AM.op_len) (And.intro (@AM.op_load) (And.intro (@AM.op_makeMap0) (And.intro (@AM.op_mapUpdate) (@AM.op_nilCheck))))))))))))))))))))))))))))))))))))))))))) := And.intro (@AM.bdV_some) (And.intro (@bd_100) (And.intro (@AM.bin_add) (And.intro (@AM.bin_lss) (And.intro (@AM.bin_neq) (And.intro (@AM.boxK_agg) (And.intro (@AM.boxK_bool) (And.intro (@AM.boxK_func) (And.intro (@AM.boxK_int) (And.intro (@AM.boxK_map) (And.intro (@AM.boxK_pointer) (And.intro (@AM.boxK_slice) (And.intro (@AM.boxK_string) (And.intro (@AM.fa_ptr) (And.intro (@fd_100_1) (And.intro (@AM.fillL_cons) (And.intro (@AM.fillL_nil) (And.intro (@AM.fillS_agg) (And.intro (@AM.fillS_bool) (And.intro (@AM.fillS_func) (And.intro (@AM.fillS_int) (And.intro (@AM.fillS_map) (And.intro (@AM.fillS_pointer) (And.intro (@AM.fillS_slice) (And.intro (@AM.fillS_string) (And.intro (@AM.iaO_ok) (And.intro (AM.ia_slice el_22) (And.intro (@AM.ldO_agg) (And.intro (@AM.ldO_one) (And.intro (@AM.ld_ptr) (And.intro (AM.len_slice ul_22) (And.intro (@lk_3) (And.intro (@lk_98) (And.intro (@AM.op_binOp) (And.intro (@AM.op_box) (And.intro (@AM.op_build) (And.intro (@AM.op_fieldAddr) (And.intro (@AM.op_indexAddr) (And.intro (@AM.op_len) (And.intro (@AM.op_load) (And.intro (@AM.op_makeMap0) (And.intro (@AM.op_mapUpdate) (@AM.op_nilCheck))))))))))))))))))))))))))))))))))))))))))


/-! ### A search in memory -/
def outB (B : List Int) (from' x : Int) : Bool := decide (x ∈ B) && !decide (x = from')
def outMap (B : List Int) (from' : Int) (ml : List (Int × Value)) : Prop := ∀ x, mgetL ml x = if outB B from' x = true then some (.int .i64 1) else none
theorem outB_nil (f x : Int) : outB [] f x = false := by unfold outB; simp
theorem outB_take {B : List Int} {f x : Int} {i : Nat} (hi : i < B.length) : outB (B.take (i + 1)) f x = (outB (B.take i) f x || (decide (x = B.getD i 0) && !decide (x = f))) := by
  unfold outB
  rw [List.take_succ_eq_append_getElem hi]
  have e : B.getD i 0 = B[i] := by simp [List.getD, hi]
  rw [e]
  generalize B.take i = T
  generalize B[i] = b
  by_cases h1 : x ∈ T <;> by_cases h2 : x = b <;> by_cases h3 : x = f <;> simp [h1, h2, h3]
set_option maxHeartbeats 2000000 in
theorem without_w {h : AHeap} {p n : Nat} {s : Value} {B : List Int} (hs : Rd h 3 1 s n (B.map (.int .i64))) (hn : n ≤ 4000000) (hl : h.low ≤ h.next) (from' : Int) {Q : VQ}
    (hq : ∀ h' ml, h'.get (h.next + 2) = some (.cells [pv p, .map (some h.next), .map (some (h.next + 1))] 100 false) → h'.get h.next = some (.map (encM ml)) → outMap B from' ml → h'.get (h.next + 1) = some (.map []) → Fr none' h h' → h'.next = h.next + 3 → Q (pv (h.next + 2)) h') :
    W 60 [pv p, s, .int .i64 from'] h Q := by
  obtain ⟨sa, sc, rfl⟩ := hs.form
  have hln : B.length = n := by simpa using hs.length
  refine AM.enter hp (fn := Tryd.f60) (rs := [.tmp 6]) (nt := 31) (by kernel_rfl) Tryd.func60 rfl rfl rfl (by kernel_rfl) ?_
  (repeat' (first | (simp (maxSteps := 1000000) (disch := first | omega | (simp only [AM.DB, List.length_set, List.length_map]; first | done | omega)) only [AM.RB, Nat.reduceAdd, Nat.reduceMul, Nat.reduceEqDiff, reduceCtorEq, b60_RT1]) | refine AM.build_w ?_))
  generalize hE_ : AHeap.alloc (AHeap.alloc (AHeap.alloc h _) _) _ = h3
  have g1 : h3.get h.next = some (.map []) := by rw [← hE_, AM.get_alloc_ne (by simp; omega), AM.get_alloc_ne (by simp), AM.get_alloc_self rfl]
  have g2 : h3.get (h.next + 1) = some (.map []) := by rw [← hE_, AM.get_alloc_ne (by simp), AM.get_alloc_self (by simp)]
  have g3 : h3.get (h.next + 2) = some (.cells [pv p, .map (some h.next), .map (some (h.next + 1))] 100 false) := by rw [← hE_, AM.get_alloc_self (by simp)]
  have fr3 : Fr none' h h3 := by rw [← hE_]; exact (((Fr.refl _ _).alloc _).alloc _).alloc _
  have n3 : h3.next = h.next + 3 := by rw [← hE_]; rfl
  have l3 : h3.low = h.low := by rw [← hE_]; rfl
  clear hE_
  refine AM.loop_w hp 31 (fun i : Nat => [(2, .int .i64 from'), (7, pv (h.next + 2)), (15, .slice sa n sc), (16, .int .i64 n), (17, .int .i64 i)])
    (fun i h' => i ≤ n ∧ Fr (fun id => id = h.next) h3 h' ∧ h'.next = h3.next ∧ ∃ ml, h'.get h.next = some (.map (encM ml)) ∧ outMap (B.take i) from' ml) (fun i => n - i) (by kernel_rfl) 0 ?_ ?_ ?_
  · simp (maxSteps := 1000000) (disch := first | omega | (simp only [AM.DB, List.length_set, List.length_map]; first | done | omega)) only [AM.RB, Nat.reduceAdd, Nat.reduceMul, Nat.reduceEqDiff, reduceCtorEq, b60_RT1]
    first | rfl | skip
  · exact ⟨Nat.zero_le _, Fr.refl _ _, rfl, [], g1, fun x => by rw [List.take_zero, outB_nil]; rfl⟩
  rintro i h4 ρ ⟨hi, fr4, n4, ml, gm, om⟩
  have l4 := fr4.low
  have gs := fr4.get g3 (fun q => by omega)
  have g24 := fr4.get g2 (fun q => by omega)
  have r4 := (hs.fr0 fr3).fr fr4 (fun id q q2 => by have := hs.lt q; omega)
  have lm : h4.low ≤ h.next := by omega
  (repeat' (first | (simp (maxSteps := 1000000) (disch := first | omega | (simp only [AM.DB, List.length_set, List.length_map]; first | done | omega)) only [AM.RB, Nat.reduceAdd, Nat.reduceMul, Nat.reduceEqDiff, reduceCtorEq, b60_RT1]) | refine AM.build_w ?_))
  refine AM.condV_split (fun hlt => ?_) (fun hlt => ?_)
  · have hin : i < n := by omega
    have ot := fun x => outB_take (f := from') (x := x) (show i < B.length by omega)
    obtain ⟨b, hb⟩ : ∃ b, B.getD i 0 = b := ⟨_, rfl⟩
    simp only [hb] at ot
    by_cases c : b = from'
    · have d : decide (b = from') = true := decide_eq_true c
      (repeat' (first | (simp (maxSteps := 1000000) (disch := first | omega | (simp only [AM.DB, List.length_set, List.length_map]; first | done | omega)) only [AM.RB, Nat.reduceAdd, Nat.reduceMul, Nat.reduceEqDiff, reduceCtorEq, b60_RT1, r4.ia el_22, Rd.ldi r4 lk_3, Int.toNat_natCast, hb, d, AM.wrap_i64]) | refine AM.build_w ?_))
      refine ⟨i + 1, by omega, ?_, by omega, fr4, n4, ml, gm, fun x => ?_⟩
      · simp (maxSteps := 1000000) (disch := first | omega | (simp only [AM.DB, List.length_set, List.length_map]; first | done | omega)) only [AM.RB, Nat.reduceAdd, Nat.reduceMul, Nat.reduceEqDiff, reduceCtorEq, b60_RT1]
        first | rfl | skip
      · rw [om x, ot x]
        by_cases e : x = b
        · have : x = from' := e.trans c
          simp [this]
        · simp [e]
    · have d : decide (b = from') = false := decide_eq_false c
      (repeat' (first | (simp (maxSteps := 1000000) (disch := first | omega | (simp only [AM.DB, List.length_set, List.length_map]; first | done | omega)) only [AM.RB, Nat.reduceAdd, Nat.reduceMul, Nat.reduceEqDiff, reduceCtorEq, b60_RT1, r4.ia el_22, Rd.ldi r4 lk_3, Int.toNat_natCast, hb, d, gs, AM.update_enc mp_98 gm lm]) | refine AM.build_w ?_))
      generalize hE_ : AHeap.put h4 _ _ = h5; obtain ⟨g5, fr5, n5, l5⟩ := AM.put_get hE_ (by omega); clear hE_
      (repeat' (first | (simp (maxSteps := 1000000) (disch := first | omega | (simp only [AM.DB, List.length_set, List.length_map]; first | done | omega)) only [AM.RB, Nat.reduceAdd, Nat.reduceMul, Nat.reduceEqDiff, reduceCtorEq, b60_RT1, AM.wrap_i64]) | refine AM.build_w ?_))
      refine ⟨i + 1, by omega, ?_, by omega, fr4.trans fr5, by omega, _, rfl, fun x => ?_⟩
      · simp (maxSteps := 1000000) (disch := first | omega | (simp only [AM.DB, List.length_set, List.length_map]; first | done | omega)) only [AM.RB, Nat.reduceAdd, Nat.reduceMul, Nat.reduceEqDiff, reduceCtorEq, b60_RT1]
        first | rfl | skip
      · rw [AM.mget_set, om x, ot x]
        by_cases e : x = b
        · have : ¬ x = from' := fun q => c (e ▸ q)
          rw [if_pos e, decide_eq_true e, decide_eq_false this]
          simp
        · simp [e]
  · obtain rfl : i = n := by omega
    rw [← hln, List.take_length] at om
    (repeat' (first | (simp (maxSteps := 1000000) (disch := first | omega | (simp only [AM.DB, List.length_set, List.length_map]; first | done | omega)) only [AM.RB, Nat.reduceAdd, Nat.reduceMul, Nat.reduceEqDiff, reduceCtorEq, b60_RT1]) | refine AM.build_w ?_))
    exact hq h4 ml gs gm om g24 (fr3.fresh fr4 (fun id q => by omega)) (by omega)
end Go.Proofs.YtgdcbjpookldoaaDoor

namespace Go.Proofs.YtgdcbjpookldoaaDoor
open Go.AM
set_option maxRecDepth 8000
theorem b61_RT2 : type_of% (And.intro (@List.map_toArray.{0,0}) (And.intro (@AM.boxK_agg) (And.intro (@AM.boxK_bool) (And.intro (@AM.boxK_func) (And.intro (@AM.boxK_int) (And.intro (@AM.boxK_map) (And.intro (@AM.boxK_pointer) (And.intro (@AM.boxK_slice) (And.intro (@AM.boxK_string) (And.intro (@AM.op_box) (@AM.op_makeFunc))))))))))) := And.intro (@List.map_toArray.{0,0}) (And.intro (@AM.boxK_agg) (And.intro (@AM.boxK_bool) (And.intro (@AM.boxK_func) (And.intro (@AM.boxK_int) (And.intro (@AM.boxK_map) (And.intro (@AM.boxK_pointer) (And.intro (@AM.boxK_slice) (And.intro (@AM.boxK_string) (And.intro (@AM.op_box) (@AM.op_makeFunc))))))))))
theorem b82_RT2 : type_of% (And.intro (@AM.bin_add) (And.intro (@AM.bin_gtr) (And.intro (@AM.bin_lss) (And.intro (@AM.fa_ptr) (And.intro (@fd_100_1) (And.intro (@AM.iaO_ok) (And.intro (AM.ia_slice el_22) (And.intro (@AM.ldO_agg) (And.intro (@AM.ldO_one) (And.intro (@AM.ld_ptr) (And.intro (AM.len_slice ul_22) (And.intro (@lk_22) (And.intro (@lk_3) (And.intro (@lk_96) (And.intro (@lk_98) (And.intro (@AM.op_binOp) (And.intro (@AM.op_call) (And.intro (@AM.op_fieldAddr) (And.intro (@AM.op_indexAddr) (And.intro (@AM.op_len) (And.intro (@AM.op_load) (And.intro (@AM.op_lookup) (And.intro (@AM.op_nilCheck) (And.intro (@AM.op_unOp) (And.intro (@AM.un_neg) (@AM.un_not)))))))))))))))))))))))))) := And.intro (@AM.bin_add) (And.intro (@AM.bin_gtr) (And.intro (@AM.bin_lss) (And.intro (@AM.fa_ptr) (And.intro (@fd_100_1) (And.intro (@AM.iaO_ok) (And.intro (AM.ia_slice el_22) (And.intro (@AM.ldO_agg) (And.intro (@AM.ldO_one) (And.intro (@AM.ld_ptr) (And.intro (AM.len_slice ul_22) (And.intro (@lk_22) (And.intro (@lk_3) (And.intro (@lk_96) (And.intro (@lk_98) (And.intro (@AM.op_binOp) (And.intro (@AM.op_call) (And.intro (@AM.op_fieldAddr) (And.intro (@AM.op_indexAddr) (And.intro (@AM.op_len) (And.intro (@AM.op_load) (And.intro (@AM.op_lookup) (And.intro (@AM.op_nilCheck) (And.intro (@AM.op_unOp) (And.intro (@AM.un_neg) (@AM.un_not)))))))))))))))))))))))))
theorem b55_RT2 : type_of% (And.intro (@Option.isNone_none.{0}) (And.intro (@Option.isNone_some.{0}) (And.intro (AM.bin_pnil ul_23) (And.intro (@AM.op_binOp) (And.intro (@AM.op_call) (And.intro (@AM.op_unOp) (And.intro (@AM.un_neg) (@AM.un_not)))))))) := And.intro (@Option.isNone_none.{0}) (And.intro (@Option.isNone_some.{0}) (And.intro (AM.bin_pnil ul_23) (And.intro (@AM.op_binOp) (And.intro (@AM.op_call) (And.intro (@AM.op_unOp) (And.intro (@AM.un_neg) (@AM.un_not)))))))


/-- Those that are not left out. -/
def keptL (B : List Int) (f : Int) (l : List Int) : List Int := l.filter fun c => !outB B f c
theorem keptL_succ (B : List Int) (f : Int) {l : List Int} {i : Nat} (hi : i < l.length) : keptL B f (l.take (i + 1)) = keptL B f (l.take i) ++ if outB B f (l.getD i 0) = true then [] else [l.getD i 0] := by
  unfold keptL
  have e : l.getD i 0 = l[i] := by simp [List.getD, hi]
  rw [List.take_succ_eq_append_getElem hi, List.filter_append, e]
  cases h : outB B f l[i] <;> simp [h]
theorem keptL_at {B : List Int} {f : Int} {l : List Int} {i : Nat} (hi : i < l.length) (h : outB B f (l.getD i 0) = false) : (keptL B f l)[(keptL B f (l.take i)).length]? = some (l.getD i 0) := by
  have e : keptL B f l = keptL B f (l.take i) ++ keptL B f (l.drop i) := by unfold keptL; rw [← List.filter_append, List.take_append_drop]
  rw [e, List.getElem?_append_right (Nat.le_refl _), Nat.sub_self]
  have d : l.drop i = l.getD i 0 :: l.drop (i + 1) := by
    rw [List.drop_eq_getElem_cons hi]
    simp [List.getD, hi]
  rw [d]
  unfold keptL
  rw [List.filter_cons_of_pos (by rw [h]; rfl)]
  rfl
theorem sfree_w {h : AHeap} {sp n c : Nat} {a : Option Addr} {Q : VQ} (hq : ∀ h', h'.get h.next = some (.cells [pv sp] 96 false) → h'.get (h.next + 1) = some (.cells [.slice a n c] 22 false) → Fr none' h h' → h'.next = h.next + 2 → h'.low = h.low → Q (.func (.func 82) #[] #[pv (h.next + 1), pv h.next]) h') : W 61 [pv sp, .slice a n c] h Q := by
  refine AM.enter hp (fn := Tryd.f61) (rs := [.tmp 4]) (nt := 6) (by kernel_rfl) Tryd.func61 rfl rfl rfl (by kernel_rfl) ?_
  (first | (simp (maxSteps := 1000000) (disch := first | omega | (simp only [AM.DB, List.length_set, List.length_map]; first | done | omega)) only [AM.RB, Nat.reduceAdd, Nat.reduceMul, Nat.reduceEqDiff, reduceCtorEq, b61_RT2]) | skip)
  generalize hE_ : AHeap.alloc (AHeap.alloc h _) _ = h2
  refine hq h2 ?_ ?_ ?_ (by rw [← hE_]; rfl) (by rw [← hE_]; rfl)
  · rw [← hE_, AM.get_alloc_ne (by simp), AM.get_alloc_self rfl]
  · rw [← hE_, AM.get_alloc_self (by simp)]
  · rw [← hE_]; exact ((Fr.refl _ _).alloc _).alloc _
set_option maxHeartbeats 4000000 in
theorem free1_w {h : AHeap} {w1 w2 sp o1 n : Nat} {pm dv : Value} {la : Option Addr} {lc : Nat} {l B : List Int} {f : Int} {ml : List (Int × Value)} {e1 e2 e3 : TypeId} {b1 b2 b3 : Bool} (g1 : h.get w1 = some (.cells [.slice la n lc] e1 b1)) (g2 : h.get w2 = some (.cells [pv sp] e2 b2))
    (gs : h.get sp = some (.cells [pm, .map (some o1), dv] e3 b3)) (gm : h.get o1 = some (.map (encM ml))) (om : outMap B f ml) (hr : Rd h 3 1 (.slice la n lc) n (l.map (.int .i64))) (hn : n ≤ 4000000) :
    IterOk Tryd.prog prims (.func (.func 82) #[] #[pv w1, pv w2]) (fun id => id = w1 ∨ id = w2 ∨ id = sp ∨ id = o1 ∨ idOf (.slice la n lc) id) ((keptL B f l).map fun c => [.int .i64 c]) h := by
  intro y J E h0 hnx hR hlow hJ hE hy hJ0
  have hll : l.length = n := by simpa using hr.length
  have gw1 : h0.get w1 = some (.cells [.slice la n lc] e1 b1) := by rw [hR w1 (AM.get_some_lt g1) (.inl rfl)]; exact g1
  have gw2 : h0.get w2 = some (.cells [pv sp] e2 b2) := by rw [hR w2 (AM.get_some_lt g2) (.inr (.inl rfl))]; exact g2
  have gs0 : h0.get sp = some (.cells [pm, .map (some o1), dv] e3 b3) := by rw [hR sp (AM.get_some_lt gs) (.inr (.inr (.inl rfl)))]; exact gs
  have gm0 : h0.get o1 = some (.map (encM ml)) := by rw [hR o1 (AM.get_some_lt gm) (.inr (.inr (.inr (.inl rfl))))]; exact gm
  have hr0 : Rd h0 3 1 (.slice la n lc) n (l.map (.int .i64)) := hr.same fun id hi => hR id (hr.lt hi) (.inr (.inr (.inr (.inr hi))))
  have hRlt : ∀ id, (id = w1 ∨ id = w2 ∨ id = sp ∨ id = o1 ∨ idOf (.slice la n lc) id) → id < h0.next := by
    rintro id (rfl | rfl | rfl | rfl | hi)
    · exact AM.get_some_lt gw1
    · exact AM.get_some_lt gw2
    · exact AM.get_some_lt gs0
    · exact AM.get_some_lt gm0
    · exact hr0.lt hi
  refine AM.enter hp (fn := Tryd.f82) (rs := []) (nt := 24) (by kernel_rfl) Tryd.func82 rfl rfl rfl (by kernel_rfl) ?_
  (first | (simp (maxSteps := 1000000) (disch := first | omega | (simp only [AM.DB, List.length_set, List.length_map]; first | done | omega)) only [AM.RB, Nat.reduceAdd, Nat.reduceMul, Nat.reduceEqDiff, reduceCtorEq, b82_RT2, gw1]) | skip)
  refine AM.loop_w hp 24 (fun i : Nat => [(0, y), (1, pv w1), (2, pv w2), (6, .slice la n lc), (7, .int .i64 n), (8, .int .i64 i)])
    (fun i h' => i ≤ n ∧ (∀ id, (id = w1 ∨ id = w2 ∨ id = sp ∨ id = o1 ∨ idOf (.slice la n lc) id) → h'.get id = h0.get id) ∧ h0.next ≤ h'.next ∧ h'.low = h0.low ∧ ∃ A, (∀ id, A id → h0.next ≤ id ∧ id < h'.next) ∧ J (keptL B f (l.take i)).length A h') (fun i => n - i) (by kernel_rfl) 0 ?_ ?_ ?_
  · simp (maxSteps := 1000000) (disch := first | omega | (simp only [AM.DB, List.length_set, List.length_map]; first | done | omega)) only [AM.RB, Nat.reduceAdd, Nat.reduceMul, Nat.reduceEqDiff, reduceCtorEq, b82_RT2]
    first | rfl | skip
  · exact ⟨Nat.zero_le _, fun _ _ => rfl, Nat.le_refl _, rfl, none', fun id q => q.elim, hJ0⟩
  rintro i h1 ρ ⟨hi, hk, nx1, lw1, A, hA, hJ1⟩
  have r1 := hr0.same fun id q => hk id (.inr (.inr (.inr (.inr q))))
  have gw21 : h1.get w2 = some (.cells [pv sp] e2 b2) := by rw [hk w2 (.inr (.inl rfl))]; exact gw2
  have gs1 : h1.get sp = some (.cells [pm, .map (some o1), dv] e3 b3) := by rw [hk sp (.inr (.inr (.inl rfl)))]; exact gs0
  have gm1 : h1.get o1 = some (.map (encM ml)) := by rw [hk o1 (.inr (.inr (.inr (.inl rfl))))]; exact gm0
  simp (maxSteps := 1000000) (disch := first | omega | (simp only [AM.DB, List.length_set, List.length_map]; first | done | omega)) only [AM.RB, Nat.reduceAdd, Nat.reduceMul, Nat.reduceEqDiff, reduceCtorEq, b82_RT2]
  refine AM.condV_split (fun hlt => ?_) (fun hlt => ?_)
  · have hil : i < l.length := by omega
    have fs := keptL_succ B f hil
    have fa := keptL_at (B := B) (f := f) hil
    obtain ⟨x, hx⟩ : ∃ x, l.getD i 0 = x := ⟨_, rfl⟩
    rw [hx] at fs fa
    have ox := om x
    cases ho : outB B f x with
    | true =>
      rw [ho, if_pos rfl] at ox
      rw [ho, if_pos rfl, List.append_nil] at fs
      have d1 : decide ((0 : Int) < 1) = true := rfl
      (first | (simp (maxSteps := 1000000) (disch := first | omega | (simp only [AM.DB, List.length_set, List.length_map]; first | done | omega)) only [AM.RB, Nat.reduceAdd, Nat.reduceMul, Nat.reduceEqDiff, reduceCtorEq, b82_RT2, r1.ia el_22, Rd.ldi r1 lk_3, Int.toNat_natCast, hx, gw21, gs1, AM.lookup_enc mp_98 gm1, ox, d1, AM.wrap_i64]) | skip)
      refine ⟨i + 1, by omega, ?_, by omega, hk, nx1, lw1, A, hA, by rw [fs]; exact hJ1⟩
      simp (maxSteps := 1000000) (disch := first | omega | (simp only [AM.DB, List.length_set, List.length_map]; first | done | omega)) only [AM.RB, Nat.reduceAdd, Nat.reduceMul, Nat.reduceEqDiff, reduceCtorEq, b82_RT2]
      first | rfl | skip
    | false =>
      rw [ho] at ox
      simp only [ho, Bool.false_eq_true, if_false] at ox fs
      have d1 : decide ((0 : Int) < 0) = false := rfl
      have at' : ((keptL B f l).map fun c => [Value.int .i64 c])[(keptL B f (l.take i)).length]? = some [.int .i64 x] := by rw [List.getElem?_map, fa ho]; rfl
      (first | (simp (maxSteps := 1000000) (disch := first | omega | (simp only [AM.DB, List.length_set, List.length_map]; first | done | omega)) only [AM.RB, Nat.reduceAdd, Nat.reduceMul, Nat.reduceEqDiff, reduceCtorEq, b82_RT2, r1.ia el_22, Rd.ldi r1 lk_3, Int.toNat_natCast, hx, gw21, gs1, AM.lookup_enc mp_98 gm1, ox, d1]) | skip)
      refine AM.CallW.mono (hy _ _ A h1 at' hJ1 hA nx1 lw1 hk) ?_
      rintro v h2 ⟨b, rfl, n2, l2, s2, q2⟩
      cases b with
      | true =>
        (first | (simp (maxSteps := 1000000) (disch := first | omega | (simp only [AM.DB, List.length_set, List.length_map]; first | done | omega)) only [AM.RB, Nat.reduceAdd, Nat.reduceMul, Nat.reduceEqDiff, reduceCtorEq, b82_RT2, AM.wrap_i64]) | skip)
        refine ⟨i + 1, by omega, ?_, by omega, fun id q => (s2 id (by have := hRlt id q; omega) (.inr q)).trans (hk id q), by omega, by omega, A, fun id q => ⟨(hA id q).1, by have := (hA id q).2; omega⟩, ?_⟩
        · simp (maxSteps := 1000000) (disch := first | omega | (simp only [AM.DB, List.length_set, List.length_map]; first | done | omega)) only [AM.RB, Nat.reduceAdd, Nat.reduceMul, Nat.reduceEqDiff, reduceCtorEq, b82_RT2]
          first | rfl | skip
        · rw [fs, List.length_append]; exact q2
      | false =>
        (first | (simp (maxSteps := 1000000) (disch := first | omega | (simp only [AM.DB, List.length_set, List.length_map]; first | done | omega)) only [AM.RB, Nat.reduceAdd, Nat.reduceMul, Nat.reduceEqDiff, reduceCtorEq, b82_RT2]) | skip)
        exact ⟨A, fun id q => ⟨(hA id q).1, by have := (hA id q).2; omega⟩, by omega, by omega, .inr q2⟩
  · obtain rfl : i = n := by omega
    rw [← hll, List.take_length] at hJ1
    (first | (simp (maxSteps := 1000000) (disch := first | omega | (simp only [AM.DB, List.length_set, List.length_map]; first | done | omega)) only [AM.RB, Nat.reduceAdd, Nat.reduceMul, Nat.reduceEqDiff, reduceCtorEq, b82_RT2]) | skip)
    exact ⟨A, hA, nx1, lw1, .inl (by rw [List.length_map]; exact hJ1)⟩
theorem may_w {h : AHeap} {p : Nat} {L : List (List UInt8)} {B : Nat → Prop} (m : Mk h p L B) (f : Fit L) (a b : Int) {Q : VQ} (hq : Q (.int .i64 (if freeP L.flatten a = true ∧ freeP L.flatten b = true then 0 else 2)) h) : W 55 [pv p, .int .i64 a, .int .i64 b] h Q := by
  obtain ⟨kv, tl, mm⟩ := m.mp
  refine AM.enter hp (fn := Tryd.f55) (rs := [.tmp 6]) (nt := 21) (by kernel_rfl) Tryd.func55 rfl rfl rfl (by kernel_rfl) ?_
  (first | (simp (maxSteps := 1000000) (disch := first | omega | (simp only [AM.DB, List.length_set, List.length_map]; first | done | omega)) only [AM.RB, Nat.reduceAdd, Nat.reduceMul, Nat.reduceEqDiff, reduceCtorEq, b55_RT2]) | skip)
  refine free_w mm f.rows a _ ?_
  cases ha : freeP L.flatten a with
  | false =>
    (first | (simp (maxSteps := 1000000) (disch := first | omega | (simp only [AM.DB, List.length_set, List.length_map]; first | done | omega)) only [AM.RB, Nat.reduceAdd, Nat.reduceMul, Nat.reduceEqDiff, reduceCtorEq, b55_RT2]) | skip)
    rw [ha] at hq
    simpa using hq
  | true =>
    (first | (simp (maxSteps := 1000000) (disch := first | omega | (simp only [AM.DB, List.length_set, List.length_map]; first | done | omega)) only [AM.RB, Nat.reduceAdd, Nat.reduceMul, Nat.reduceEqDiff, reduceCtorEq, b55_RT2]) | skip)
    refine free_w mm f.rows b _ ?_
    cases hb : freeP L.flatten b with
    | false =>
      (first | (simp (maxSteps := 1000000) (disch := first | omega | (simp only [AM.DB, List.length_set, List.length_map]; first | done | omega)) only [AM.RB, Nat.reduceAdd, Nat.reduceMul, Nat.reduceEqDiff, reduceCtorEq, b55_RT2]) | skip)
      rw [ha, hb] at hq
      simpa using hq
    | true =>
      (first | (simp (maxSteps := 1000000) (disch := first | omega | (simp only [AM.DB, List.length_set, List.length_map]; first | done | omega)) only [AM.RB, Nat.reduceAdd, Nat.reduceMul, Nat.reduceEqDiff, reduceCtorEq, b55_RT2]) | skip)
      rw [ha, hb] at hq
      simpa using hq
end Go.Proofs.YtgdcbjpookldoaaDoor

namespace Go.Proofs.YtgdcbjpookldoaaDoor
open Go.AM

/-! ### What is around, as the program looks for it -/
def stepA (st : List Int × List Int) (b : Int) : List Int × List Int := if b ∈ st.1 then st else (st.1 ++ [b], st.2 ++ [b])
def visA (l : List Int) (st : List Int × List Int) : List Int × List Int := l.foldl stepA st
theorem visA_succ {l : List Int} {i : Nat} (hi : i < l.length) (st : List Int × List Int) : visA (l.take (i + 1)) st = stepA (visA (l.take i) st) (l.getD i 0) := by
  unfold visA
  have e : l.getD i 0 = l[i] := by simp [List.getD, hi]
  rw [List.take_succ_eq_append_getElem hi, List.foldl_append, e]; rfl
def rndA (N : Int → List Int) (at' : List Int) (st : List Int × List Int) : List Int × List Int := at'.foldl (fun st a => visA (N a) st) st
theorem rndA_succ (N : Int → List Int) {l : List Int} {i : Nat} (hi : i < l.length) (st : List Int × List Int) : rndA N (l.take (i + 1)) st = visA (N (l.getD i 0)) (rndA N (l.take i) st) := by
  unfold rndA
  have e : l.getD i 0 = l[i] := by simp [List.getD, hi]
  rw [List.take_succ_eq_append_getElem hi, List.foldl_append, e]; rfl
/-- Keys, and those who came last, behind so many rounds. -/
def lvlA (N : Int → List Int) (r : Int) : Nat → List Int × List Int
  | 0 => ([r], [r])
  | k + 1 => rndA N (lvlA N r k).2 ((lvlA N r k).1, [])

/-- Everything reached by exactly fewer steps is a key; who came last stands at that distance. -/
theorem visA_mem {l : List Int} : ∀ {st : List Int × List Int} {x : Int}, (x ∈ (visA l st).1 ↔ x ∈ st.1 ∨ x ∈ l) ∧ (x ∈ (visA l st).2 ↔ x ∈ st.2 ∨ (x ∈ l ∧ x ∉ st.1)) := by
  induction l with
  | nil => intro st x; simp [visA]
  | cons b l ih =>
    intro st x
    have e : visA (b :: l) st = visA l (stepA st b) := rfl
    rw [e]
    obtain ⟨h1, h2⟩ := ih (st := stepA st b) (x := x)
    rw [h1, h2]
    unfold stepA
    by_cases hb : b ∈ st.1
    · rw [if_pos hb]
      constructor
      · constructor
        · rintro (h | h)
          · exact .inl h
          · exact .inr (List.mem_cons_of_mem _ h)
        · rintro (h | h)
          · exact .inl h
          · rcases List.mem_cons.1 h with rfl | h
            · exact .inl hb
            · exact .inr h
      · constructor
        · rintro (h | ⟨h, g⟩)
          · exact .inl h
          · exact .inr ⟨List.mem_cons_of_mem _ h, g⟩
        · rintro (h | ⟨h, g⟩)
          · exact .inl h
          · rcases List.mem_cons.1 h with rfl | h
            · exact absurd hb g
            · exact .inr ⟨h, g⟩
    · rw [if_neg hb]
      simp only [List.mem_append, List.mem_cons, List.not_mem_nil, or_false, not_or]
      constructor
      · constructor
        · rintro ((h | h) | h)
          · exact .inl h
          · exact .inr (.inl h)
          · exact .inr (.inr h)
        · rintro (h | h | h)
          · exact .inl (.inl h)
          · exact .inl (.inr h)
          · exact .inr h
      · constructor
        · rintro ((h | rfl) | ⟨h, g, g2⟩)
          · exact .inl h
          · exact .inr ⟨.inl rfl, hb⟩
          · exact .inr ⟨.inr h, g⟩
        · rintro (h | ⟨rfl | h, g⟩)
          · exact .inl (.inl h)
          · exact .inl (.inr rfl)
          · by_cases q : x = b
            · exact .inl (.inr q)
            · exact .inr ⟨h, g, q⟩
theorem rndA_mem (N : Int → List Int) {at' : List Int} : ∀ {st : List Int × List Int} {x : Int}, (x ∈ (rndA N at' st).1 ↔ x ∈ st.1 ∨ ∃ a ∈ at', x ∈ N a) ∧ (x ∈ (rndA N at' st).2 ↔ x ∈ st.2 ∨ ((∃ a ∈ at', x ∈ N a) ∧ x ∉ st.1)) := by
  induction at' with
  | nil => intro st x; simp [rndA]
  | cons a l ih =>
    intro st x
    have e : rndA N (a :: l) st = rndA N l (visA (N a) st) := rfl
    rw [e]
    obtain ⟨h1, h2⟩ := ih (st := visA (N a) st) (x := x)
    obtain ⟨v1, v2⟩ := visA_mem (l := N a) (st := st) (x := x)
    rw [h1, h2, v1, v2]
    constructor
    · constructor
      · rintro ((h | h) | ⟨b, hb, h⟩)
        · exact .inl h
        · exact .inr ⟨a, List.mem_cons_self .., h⟩
        · exact .inr ⟨b, List.mem_cons_of_mem _ hb, h⟩
      · rintro (h | ⟨b, hb, h⟩)
        · exact .inl (.inl h)
        · rcases List.mem_cons.1 hb with rfl | hb
          · exact .inl (.inr h)
          · exact .inr ⟨b, hb, h⟩
    · constructor
      · rintro ((h | ⟨h, g⟩) | ⟨⟨b, hb, h⟩, g⟩)
        · exact .inl h
        · exact .inr ⟨⟨a, List.mem_cons_self .., h⟩, g⟩
        · exact .inr ⟨⟨b, List.mem_cons_of_mem _ hb, h⟩, fun q => g (.inl q)⟩
      · rintro (h | ⟨⟨b, hb, h⟩, g⟩)
        · exact .inl (.inl h)
        · rcases List.mem_cons.1 hb with rfl | hb
          · exact .inl (.inr ⟨h, g⟩)
          · by_cases q : x ∈ N a
            · exact .inl (.inr ⟨q, g⟩)
            · exact .inr ⟨⟨b, hb, h⟩, fun t => t.elim g q⟩
/-- Behind k rounds: keys are those within k steps; the last ones those at k steps exactly. -/
theorem lvlA_spec (N : Int → List Int) (r : Int) : ∀ k x, (x ∈ (lvlA N r k).1 ↔ ∃ j, j ≤ k ∧ Wk N r j x) ∧ (x ∈ (lvlA N r k).2 ↔ isD N r x k)
  | 0, x => by
    have w0 : ∀ y, Wk N r 0 y ↔ y = r := fun y => by
      constructor
      · intro h
        generalize e : (0 : Nat) = z at h
        cases h with
        | zero => rfl
        | step => omega
      · rintro rfl; exact .zero
    constructor
    · rw [lvlA]; simp only [List.mem_singleton]
      exact ⟨fun h => ⟨0, Nat.le_refl _, (w0 x).2 h⟩, fun ⟨j, hj, w⟩ => (w0 x).1 (by rw [show j = 0 by omega] at w; exact w)⟩
    · rw [lvlA]; simp only [List.mem_singleton]
      exact ⟨fun h => ⟨(w0 x).2 h, fun e he => by omega⟩, fun h => (w0 x).1 h.1⟩
  | k + 1, x => by
    obtain ⟨m1, m2⟩ := rndA_mem N (at' := (lvlA N r k).2) (st := ((lvlA N r k).1, [])) (x := x)
    have ih1 := fun y => (lvlA_spec N r k y).1
    have ih2 := fun y => (lvlA_spec N r k y).2
    rw [lvlA, m1, m2]
    simp only [List.not_mem_nil, false_or]
    have st : (∃ a, a ∈ (lvlA N r k).2 ∧ x ∈ N a) → Wk N r (k + 1) x := fun ⟨a, ha, hx⟩ => .step ((ih2 a).1 ha).1 hx
    have ts : isD N r x (k + 1) → ∃ a, a ∈ (lvlA N r k).2 ∧ x ∈ N a := fun q => by
      obtain ⟨c, wc, hc⟩ := q.1.last
      exact ⟨c, (ih2 c).2 ⟨wc, fun e he w => q.2 (e + 1) (by omega) (.step w hc)⟩, hc⟩
    constructor
    · constructor
      · rintro (h | h)
        · obtain ⟨j, hj, w⟩ := (ih1 x).1 h
          exact ⟨j, by omega, w⟩
        · exact ⟨k + 1, Nat.le_refl _, st h⟩
      · rintro ⟨j, hj, w⟩
        by_cases q : ∃ i, i ≤ k ∧ Wk N r i x
        · exact .inl ((ih1 x).2 q)
        · obtain rfl : j = k + 1 := by
            by_cases t : j ≤ k
            · exact absurd ⟨j, t, w⟩ q
            · omega
          exact .inr (ts ⟨w, fun e he w' => q ⟨e, by omega, w'⟩⟩)
    · constructor
      · rintro ⟨h, g⟩
        exact ⟨st h, fun e he w => g ((ih1 x).2 ⟨e, by omega, w⟩)⟩
      · intro q
        exact ⟨ts q, fun h => by obtain ⟨j, hj, w⟩ := (ih1 x).1 h; exact q.2 j (by omega) w⟩
/-- When no one came last all is told. -/
theorem lvlA_end {N : Int → List Int} {r : Int} {k : Nat} (h : (lvlA N r k).2 = []) : ∀ m, k ≤ m → ∀ x, (x ∈ (lvlA N r k).1 ↔ ∃ j, j ≤ m ∧ Wk N r j x) := by
  intro m hm x
  rw [(lvlA_spec N r k x).1]
  constructor
  · rintro ⟨j, hj, w⟩; exact ⟨j, by omega, w⟩
  · rintro ⟨j, hj, w⟩
    obtain ⟨d, hd, q⟩ := w.least
    by_cases t : d ≤ k
    · exact ⟨d, t, q.1⟩
    · exfalso
      have key : ∀ e y, isD N r y (k + e) → False := by
        intro e
        induction e with
        | zero =>
          intro y q
          have := (lvlA_spec N r k y).2.2 q
          rw [h] at this; cases this
        | succ e ih =>
          intro y q
          obtain ⟨c, wc, hc⟩ := (show Wk N r (k + e + 1) y from q.1).last
          exact ih c ⟨wc, fun e' he w => q.2 (e' + 1) (by omega) (.step w hc)⟩
      exact key (d - k) x (by rw [show k + (d - k) = d by omega]; exact q)
end Go.Proofs.YtgdcbjpookldoaaDoor

namespace Go.Proofs.YtgdcbjpookldoaaDoor
open Go.AM
set_option maxRecDepth 8000
/-! ### The document's: who is left out, what is around -/
/-- What the program's neighbours are: those that are not left out. -/
abbrev nbA (L : List (List UInt8)) (B : List Int) (f : Int) (a : Int) : List Int := keptL B f (nextL L a)
abbrev nbB (L : List (List UInt8)) (B : List Int) (f : Int) (a : Int) : List Int := keptL B f (backL L a)
theorem nextL_in {L : List (List UInt8)} (f : Fit L) {b c : Int} (h : c ∈ nextL L b) : 0 ≤ c ∧ c < L.flatten.length := by
  have hc1 : decide (c ∈ nextL L b) = true := decide_eq_true h
  rw [edge_mem f] at hc1
  exact freeP_in (edgeL_facts hc1).2.2.2
end Go.Proofs.YtgdcbjpookldoaaDoor

namespace Go.Proofs.YtgdcbjpookldoaaDoor
open Go.AM
set_option maxRecDepth 8000
end Go.Proofs.YtgdcbjpookldoaaDoor

namespace Go.Proofs.YtgdcbjpookldoaaDoor
open Go.AM
set_option maxRecDepth 8000
def fillL (n i : Nat) : List Int := (List.range n).map fun j => if j < i then -1 else 0
theorem backL_iff {L : List (List UInt8)} (f : Fit L) {a b : Int} : a ∈ backL L b ↔ edgeL L a b = true := by
  constructor
  · intro h
    rw [← bck_eq f] at h
    unfold bck at h
    obtain ⟨n, hn, rfl⟩ := List.mem_map.1 h
    exact (List.mem_filter.1 hn).2
  · exact backL_mem f
theorem nextL_iff {L : List (List UInt8)} (f : Fit L) {a b : Int} : b ∈ nextL L a ↔ edgeL L a b = true := by
  rw [← edge_mem f, decide_eq_true_iff]
theorem backL_in {L : List (List UInt8)} (f : Fit L) {b c : Int} (h : c ∈ backL L b) : 0 ≤ c ∧ c < L.flatten.length :=
  (edgeL_facts ((backL_iff f).1 h)).1.1
theorem nbB_in {L : List (List UInt8)} (f : Fit L) (B : List Int) (fr : Int) : ∀ b : Int, 0 ≤ b ∧ b < L.flatten.length → ∀ c ∈ nbB L B fr b, 0 ≤ c ∧ c < L.flatten.length :=
  fun _ _ _ hc => backL_in f (List.mem_filter.1 hc).1

/-- The distances to an end of all cells; -1: none. -/
def dtoL (L : List (List UInt8)) (B : List Int) (fr to : Int) : List Int := if outB B fr to = true then List.replicate L.flatten.length (-1) else distL L.flatten.length (bfs (nbB L B fr) L.flatten.length to)
theorem dto_is {L : List (List UInt8)} (f : Fit L) {B : List Int} {fr to : Int} (ht : 0 ≤ to ∧ to < L.flatten.length) (ho : outB B fr to = false) : IsDist (nbB L B fr) L.flatten.length to (dtoL L B fr to) := by
  unfold dtoL
  rw [if_neg (by rw [ho]; simp)]
  exact (bfs_spec (nbB_in f B fr) ht.1 ht.2).1
theorem dto_out {L : List (List UInt8)} {B : List Int} {fr to : Int} (ho : outB B fr to = true) : dtoL L B fr to = List.replicate L.flatten.length (-1) := if_pos ho
end Go.Proofs.YtgdcbjpookldoaaDoor

namespace Go.Proofs.YtgdcbjpookldoaaDoor
open Go.AM
set_option maxRecDepth 8000
/-! ### The document's Looks -/
def lookP (L : List (List UInt8)) (dl : List Int) (fr : Int) (i : Nat) : Bool := decide (0 ≤ dl.getD i 0) && (decide (dl.getD fr.toNat 0 < 0) || decide (dl.getD i 0 + farL L fr i ≤ dl.getD fr.toNat 0))
def looksN (L : List (List UInt8)) (dl : List Int) (fr : Int) (k : Nat) : Nat := ((List.range k).filter (lookP L dl fr)).length
theorem far_bd {L : List (List UInt8)} (f : Fit L) (a b : Int) : -1 ≤ farL L a b ∧ farL L a b ≤ 4000 := by
  unfold farL
  split
  · rename_i h
    have hK := f.k1024
    have h1 := Nat.div_le_self a.toNat (L.getD 0 []).length
    have h2 := Nat.div_le_self b.toNat (L.getD 0 []).length
    have h3 := Nat.mod_le a.toNat (L.getD 0 []).length
    have h4 := Nat.mod_le b.toNat (L.getD 0 []).length
    unfold farN
    generalize a.toNat / (L.getD 0 []).length = x1 at *
    generalize b.toNat / (L.getD 0 []).length = x2 at *
    generalize a.toNat % (L.getD 0 []).length = x3 at *
    generalize b.toNat % (L.getD 0 []).length = x4 at *
    omega
  · omega
theorem dto_bd {L : List (List UInt8)} (f : Fit L) (B : List Int) {fr to : Int} (ht : 0 ≤ to ∧ to < L.flatten.length) {i : Nat} (hi : i < L.flatten.length) : -1 ≤ (dtoL L B fr to).getD i 0 ∧ (dtoL L B fr to).getD i 0 < 1024 := by
  have hK := f.k1024
  cases ho : outB B fr to with
  | true =>
    rw [dto_out ho]
    generalize L.flatten.length = N at *
    have : (List.replicate N (-1 : Int)).getD i 0 = -1 := by simp [List.getD, hi]
    omega
  | false =>
    have := (dto_is f ht ho).bound ht (nbB_in f B fr) (b := (i : Int)) ⟨by omega, by omega⟩
    rw [Int.toNat_natCast] at this
    omega

end Go.Proofs.YtgdcbjpookldoaaDoor

namespace Go.Proofs.YtgdcbjpookldoaaDoor
open Go.AM

/-! ### What a search finds, plain -/
theorem farN_tri (C a b c : Nat) : farN C a c ≤ farN C a b + farN C b c := by
  unfold farN
  generalize a / C = x1
  generalize b / C = x2
  generalize c / C = x3
  generalize a % C = y1
  generalize b % C = y2
  generalize c % C = y3
  omega
theorem farN_sym (C a b : Nat) : farN C a b = farN C b a := by
  unfold farN
  generalize a / C = x1
  generalize b / C = x2
  generalize a % C = y1
  generalize b % C = y2
  omega
theorem farN_self (C a : Nat) : farN C a a = 0 := by unfold farN; omega
theorem far_step {L : List (List UInt8)} {fr x y : Int} (e : edgeL L y x = true) : farL L fr x ≤ farL L fr y + 1 ∧ farL L fr y ≤ farL L fr x + 1 := by
  obtain ⟨⟨hy, hx⟩, h1, _⟩ := edgeL_facts e
  unfold farL at h1 ⊢
  rw [if_pos ⟨hy, hx⟩] at h1
  by_cases h : 0 ≤ fr ∧ fr < L.flatten.length
  · rw [if_pos ⟨h, hx⟩, if_pos ⟨h, hy⟩]
    have t1 := farN_tri (L.getD 0 []).length fr.toNat y.toNat x.toNat
    have t2 := farN_tri (L.getD 0 []).length fr.toNat x.toNat y.toNat
    have t3 := farN_sym (L.getD 0 []).length x.toNat y.toNat
    omega
  · rw [if_neg (fun q => h q.1), if_neg (fun q => h q.1)]; omega
theorem far_self {L : List (List UInt8)} {a : Int} (h : 0 ≤ a ∧ a < L.flatten.length) : farL L a a = 0 := by
  unfold farL
  rw [if_pos ⟨h, h⟩, farN_self]
theorem far_nb {L : List (List UInt8)} (f : Fit L) {B : List Int} {fr x y : Int} (h : y ∈ nbB L B fr x) : farL L fr x ≤ farL L fr y + 1 ∧ farL L fr y ≤ farL L fr x + 1 :=
  far_step ((backL_iff f).1 (List.mem_filter.1 h).1)
/-- Who is closed, with which distance, when a search has ended. -/
def CdL (L : List (List UInt8)) (B : List Int) (fr to : Int) (x : Int) : Option Int := if (0 ≤ x ∧ x < L.flatten.length) ∧ lookP L (dtoL L B fr to) fr x.toNat = true then some ((dtoL L B fr to).getD x.toNat 0) else none
theorem looked_dto {L : List (List UInt8)} (f : Fit L) {B : List Int} {fr to : Int} (hf : 0 ≤ fr ∧ fr < L.flatten.length) (ht : 0 ≤ to ∧ to < L.flatten.length) (ho : outB B fr to = false) {C : Int → Option Int} {far : Int} (x : Looked (nbB L B fr) to fr (farL L fr) C far) :
    far = (dtoL L B fr to).getD fr.toNat 0 ∧ C = CdL L B fr to := by
  have D := dto_is f ht ho (fr := fr)
  have e1 : far = (dtoL L B fr to).getD fr.toNat 0 := by
    by_cases hn : far < 0
    · obtain ⟨a, b⟩ := x.neg hn
      by_cases q : 0 ≤ (dtoL L B fr to).getD fr.toNat 0
      · exact absurd (D.yes fr hf.1 hf.2 q).1 (b _)
      · rw [(D.no fr hf.1 hf.2 (by omega)).1]; exact a
    · have d := x.pos (by omega)
      by_cases q : 0 ≤ (dtoL L B fr to).getD fr.toNat 0
      · have := d.uniq (D.yes fr hf.1 hf.2 q); omega
      · exact absurd d.1 ((D.no fr hf.1 hf.2 (by omega)).2 _)
  refine ⟨e1, funext fun y => ?_⟩
  unfold CdL lookP
  cases hC : C y with
  | some d =>
    obtain ⟨d0, dd, dl⟩ := x.mem y d hC
    have hy : 0 ≤ y ∧ y < (L.flatten.length : Int) := Wk.ok (ok := fun z => 0 ≤ z ∧ z < (L.flatten.length : Int)) ht (nbB_in f B fr) dd.1
    have q : 0 ≤ (dtoL L B fr to).getD y.toNat 0 := by
      by_cases q : 0 ≤ (dtoL L B fr to).getD y.toNat 0
      · exact q
      · exact absurd dd.1 ((D.no y hy.1 hy.2 (by omega)).2 _)
    have e2 := dd.uniq (D.yes y hy.1 hy.2 q)
    have e3 : d = (dtoL L B fr to).getD y.toNat 0 := by omega
    have e4 : ((y.toNat : Nat) : Int) = y := by omega
    rw [if_pos, e3]
    refine ⟨hy, ?_⟩
    rw [Bool.and_eq_true, Bool.or_eq_true, decide_eq_true_iff, decide_eq_true_iff, decide_eq_true_iff, e4, ← e1, ← e3]
    refine ⟨d0, ?_⟩
    by_cases t : far < 0
    · exact .inl t
    · exact .inr (dl (by omega))
  | none =>
    rw [if_neg]
    rintro ⟨hy, q⟩
    have e4 : ((y.toNat : Nat) : Int) = y := by omega
    rw [Bool.and_eq_true, Bool.or_eq_true, decide_eq_true_iff, decide_eq_true_iff, decide_eq_true_iff, e4, ← e1] at q
    have dd := D.yes y hy.1 hy.2 q.1
    have := x.all y _ dd (fun h => by omega)
    rw [hC] at this; cases this
theorem out_dto {L : List (List UInt8)} {B : List Int} {fr to : Int} (hf : 0 ≤ fr ∧ fr < L.flatten.length) (ho : outB B fr to = true) : (dtoL L B fr to).getD fr.toNat 0 = -1 ∧ CdL L B fr to = fun _ => none := by
  have e := dto_out (L := L) ho
  have g : ∀ i, i < L.flatten.length → (dtoL L B fr to).getD i 0 = -1 := fun i hi => by
    rw [e]
    generalize L.flatten.length = N at *
    simp [List.getD, hi]
  refine ⟨g _ (by omega), funext fun y => ?_⟩
  unfold CdL lookP
  rw [if_neg]
  rintro ⟨hy, q⟩
  rw [g _ (by omega)] at q
  simp at q
theorem cl_len {L : List (List UInt8)} {B : List Int} {fr to : Int} {Cl : List Int} (hn : Cl.Nodup) (h : ∀ x, x ∈ Cl ↔ CdL L B fr to x ≠ none) : Cl.length = looksN L (dtoL L B fr to) fr L.flatten.length := by
  have p : Cl.Perm (((List.range L.flatten.length).filter (lookP L (dtoL L B fr to) fr)).map Int.ofNat) := by
    refine (List.perm_ext_iff_of_nodup hn ?_).2 fun x => ?_
    · refine List.Pairwise.map _ (fun a b (hab : a ≠ b) => ?_) (List.filter_sublist.nodup List.nodup_range)
      intro q
      exact hab (Int.ofNat.inj q)
    · rw [h x]
      unfold CdL
      constructor
      · intro q
        split at q
        · rename_i c
          exact List.mem_map.2 ⟨x.toNat, List.mem_filter.2 ⟨List.mem_range.2 (by omega), c.2⟩, by show ((x.toNat : Nat) : Int) = x; omega⟩
        · exact absurd rfl q
      · intro q
        obtain ⟨n, hn, rfl⟩ := List.mem_map.1 q
        obtain ⟨h1, h2⟩ := List.mem_filter.1 hn
        have := List.mem_range.1 h1
        rw [if_pos ⟨⟨Int.natCast_nonneg n, by show (n : Int) < _; omega⟩, by simpa using h2⟩]
        simp
  rw [p.length_eq, List.length_map]; rfl
theorem mset_len {l : List (Int × Value)} {x : Int} {v : Value} (h : mgetL l x = none) : (msetL l x v).length = l.length + 1 := by
  induction l with
  | nil => rfl
  | cons p l ih =>
    obtain ⟨k, w⟩ := p
    unfold mgetL at h
    unfold msetL
    by_cases e : x = k
    · rw [if_pos e] at h; cases h
    · rw [if_neg e] at h ⊢
      rw [List.length_cons, List.length_cons, ih h]
theorem map_upd {kl : List (Int × Value)} {K : Int → Option Int} (h : ∀ x, mgetL kl x = (K x).map (.int .i64)) (y v : Int) : ∀ x, mgetL (msetL kl y (.int .i64 v)) x = (AM.upd K y v x).map (.int .i64) := by
  intro x
  rw [AM.mget_set, h x]
  unfold AM.upd
  split <;> rfl
end Go.Proofs.YtgdcbjpookldoaaDoor
