/- Walks of this claim's functions, and plain laws. -/
import Derived.Test.YtbaohngkapmhlaaDoorWc
set_option linter.unusedSimpArgs false
set_option linter.unusedVariables false
namespace Go.Proofs.YtbaohngkapmhlaaDoor
open Go.AM
set_option maxRecDepth 8000
theorem b56_G17 : type_of% (And.intro (@List.map_toArray.{0,0}) (And.intro (@AM.fa_ptr) (And.intro (@fd_109_3) (And.intro (@fd_109_4) (And.intro (@AM.iaO_ok) (And.intro (AM.ia_slice el_107) (And.intro (@AM.ldO_agg) (And.intro (@AM.ldO_one) (And.intro (@AM.ld_ptr) (And.intro (@lk_107) (And.intro (@lk_22) (And.intro (@AM.op_call) (And.intro (@AM.op_fieldAddr) (And.intro (@AM.op_indexAddr) (And.intro (@AM.op_load) (And.intro (@AM.op_makeFunc) (And.intro (@AM.op_nilCheck) (And.intro (@AM.op_unOp) (And.intro (@AM.un_neg) (@AM.un_not)))))))))))))))))))) := And.intro (@List.map_toArray.{0,0}) (And.intro (@AM.fa_ptr) (And.intro (@fd_109_3) (And.intro (@fd_109_4) (And.intro (@AM.iaO_ok) (And.intro (AM.ia_slice el_107) (And.intro (@AM.ldO_agg) (And.intro (@AM.ldO_one) (And.intro (@AM.ld_ptr) (And.intro (@lk_107) (And.intro (@lk_22) (And.intro (@AM.op_call) (And.intro (@AM.op_fieldAddr) (And.intro (@AM.op_indexAddr) (And.intro (@AM.op_load) (And.intro (@AM.op_makeFunc) (And.intro (@AM.op_nilCheck) (And.intro (@AM.op_unOp) (And.intro (@AM.un_neg) (@AM.un_not)))))))))))))))))))
theorem b94_G17 : type_of% (And.intro (@AM.bin_add) (And.intro (@AM.bin_eql) (And.intro (@AM.bin_lss) (And.intro (@AM.iaO_ok) (And.intro (AM.ia_slice el_22) (And.intro (@AM.ldO_agg) (And.intro (@AM.ldO_one) (And.intro (@AM.ld_ptr) (And.intro (AM.len_slice ul_22) (And.intro (@lk_3) (And.intro (@AM.op_binOp) (And.intro (@AM.op_indexAddr) (And.intro (@AM.op_len) (@AM.op_load)))))))))))))) := And.intro (@AM.bin_add) (And.intro (@AM.bin_eql) (And.intro (@AM.bin_lss) (And.intro (@AM.iaO_ok) (And.intro (AM.ia_slice el_22) (And.intro (@AM.ldO_agg) (And.intro (@AM.ldO_one) (And.intro (@AM.ld_ptr) (And.intro (AM.len_slice ul_22) (And.intro (@lk_3) (And.intro (@AM.op_binOp) (And.intro (@AM.op_indexAddr) (And.intro (@AM.op_len) (@AM.op_load)))))))))))))
theorem b61_G17 : type_of% (And.intro (@AM.bin_geq) (And.intro (@AM.op_binOp) (@AM.op_call))) := And.intro (@AM.bin_geq) (And.intro (@AM.op_binOp) (@AM.op_call))
theorem b19_G17 : type_of% (@AM.op_call) := @AM.op_call


theorem ints_one (l : List Int) : (l.map (Value.int .i64)).all (·.oneCell') = true := by
  rw [List.all_eq_true]; intro x hx
  obtain ⟨n, _, rfl⟩ := List.mem_map.1 hx; rfl
theorem edgesL_len (L : List (List UInt8)) (f : Fit L) : (edgesL L).length ≤ 4096 := by
  have h1 := edgesTo_len L.flatten L.length (L.getD 0 []).length L.flatten.length
  have h2 : L.flatten.length ≤ 1024 := by rw [f.len]; exact Nat.le_trans (Nat.mul_le_mul f.r32 f.c32) (by decide)
  show (edgesTo L.flatten L.length (L.getD 0 []).length L.flatten.length).length ≤ 4096
  omega
theorem Fit.k1024 {L : List (List UInt8)} (f : Fit L) : L.flatten.length ≤ 1024 := by rw [f.len]; exact Nat.le_trans (Nat.mul_le_mul f.r32 f.c32) (by decide)
theorem next_w {h : AHeap} {p : Nat} {L : List (List UInt8)} {S : Nat → Prop} (m : Mt h p L S) (f : Fit L) (hw : h.get GW = some (.cells waysC 166 false)) (hgl : GW < h.low) (hl : h.low ≤ h.next) (i : Int) {Q : VQ}
    (hq : ∀ v h' S', Mt h' p L S' → (∀ id, S' id → S id ∨ h.next ≤ id) → Ow h' 3 1 v (nextL L i).length ((nextL L i).map (.int .i64)) → Fr (fun id => id = p) h h' → (∀ id, idOf v id → h.next ≤ id ∧ ¬ S' id) → Q v h') : W 56 [pv p, .int .i64 i] h Q := by
  obtain ⟨kv0, tl0', m0⟩ := m.mp
  have hK := f.k1024
  refine AM.enter hp (fn := Tryd.f56) (rs := [.tmp 4]) (nt := 23) (by kernel_rfl) Tryd.func56 rfl rfl rfl (by kernel_rfl) ?_
  (first | (simp (maxSteps := 1000000) (disch := first | omega | (simp only [AM.DB, List.length_set, List.length_map]; first | done | omega)) only [AM.RB, Nat.reduceAdd, Nat.reduceMul, Nat.reduceEqDiff, reduceCtorEq, b56_G17]) | skip)
  refine is_w m0 f.rows i _ ?_
  by_cases hi : 0 ≤ i ∧ i < L.flatten.length
  · (first | (simp (maxSteps := 1000000) (disch := first | omega | (simp only [AM.DB, List.length_set, List.length_map]; first | done | omega)) only [AM.RB, Nat.reduceAdd, Nat.reduceMul, Nat.reduceEqDiff, reduceCtorEq, b56_G17, decide_eq_true hi]) | skip)
    refine once_w m f hw hgl hl fun kv nid bid X h1 S1 m1 b mt1 hS1 fr1 hX => ?_
    have hg1 := m1.1
    obtain ⟨n, rfl⟩ := Int.eq_ofNat_of_zero_le hi.1
    have hn : n < L.flatten.length := by omega
    have hxa : ((List.range L.flatten.length).map X)[n]? = some (X n) := by rw [List.getElem?_map, List.getElem?_range hn]; rfl
    have hgn := b.g1
    have hl1 := fr1.hl hl
    have hEl := bothE_len (edgesL L) L.flatten.length n
    have hEL := edgesL_len L f
    (first | (simp (maxSteps := 1000000) (disch := first | omega | (simp only [AM.DB, List.length_set, List.length_map]; first | done | omega)) only [AM.RB, Nat.reduceAdd, Nat.reduceMul, Nat.reduceEqDiff, reduceCtorEq, b56_G17, hg1, hgn, hxa, Nat.mul_one, Nat.zero_add, Int.toNat_natCast]) | skip)
    have heq : bothE (edgesL L) L.flatten.length n = nextL L n := by unfold bothE nextL; rw [if_pos hn, if_pos ⟨by omega, by omega⟩, Int.toNat_natCast]
    refine clone_w ((b.ow n (by omega)).rd) (ints_one _) (by omega) hl1 fun v h2 o2 fr2 hid2 => ?_
    (first | (simp (maxSteps := 1000000) (disch := first | omega | (simp only [AM.DB, List.length_set, List.length_map]; first | done | omega)) only [AM.RB, Nat.reduceAdd, Nat.reduceMul, Nat.reduceEqDiff, reduceCtorEq, b56_G17]) | skip)
    rw [heq] at o2
    have n1 := fr1.next
    exact hq v h2 S1 (mt1.fr0 fr2) hS1 o2 (fr1.then fr2 fun _ _ q => q.elim) fun id q => ⟨by have := hid2 id q; omega, fun e => by have := hid2 id q; have := mt1.lt e; omega⟩
  · (first | (simp (maxSteps := 1000000) (disch := first | omega | (simp only [AM.DB, List.length_set, List.length_map]; first | done | omega)) only [AM.RB, Nat.reduceAdd, Nat.reduceMul, Nat.reduceEqDiff, reduceCtorEq, b56_G17, decide_eq_false hi]) | skip)
    refine hq _ h S m (fun _ q => .inl q) ?_ (Fr.refl _ _) (fun _ q => q.elim)
    unfold nextL; rw [if_neg hi]; exact Ow.nil _ _ _
theorem index_w {s : Value} {n : Nat} {l : List Int} {h : AHeap} (hs : Rd h 3 1 s n (l.map (.int .i64))) (hn : n ≤ 4000000000) (x : Int) {Q : VQ}
    (hq : ∀ r : Int, (decide (0 ≤ r) = decide (x ∈ l)) → Q (.int .i64 r) h) : W 94 [s, .int .i64 x] h Q := by
  obtain ⟨a, cap, rfl⟩ := hs.form
  have hlen : l.length = n := by have := hs.length; rw [List.length_map] at this; omega
  refine AM.enter hp (fn := Tryd.f94) (rs := [.tmp 4]) (nt := 19) (by kernel_rfl) Tryd.func94 rfl rfl rfl (by kernel_rfl) ?_
  (first | (simp (maxSteps := 1000000) (disch := first | omega | (simp only [AM.DB, List.length_set, List.length_map]; first | done | omega)) only [AM.RB, Nat.reduceAdd, Nat.reduceMul, Nat.reduceEqDiff, reduceCtorEq, b94_G17]) | skip)
  refine AM.loop_w hp 19 (fun i : Nat => [(0, .slice a n cap), (1, .int .i64 x), (7, .int .i64 n), (8, .int .i64 i)]) (fun i h' => h' = h ∧ i ≤ n ∧ ∀ j, j < i → l.getD j 0 ≠ x) (fun i => n - i) (by kernel_rfl) 0 ?_ ?_ ?_
  · simp (maxSteps := 1000000) (disch := first | omega | (simp only [AM.DB, List.length_set, List.length_map]; first | done | omega)) only [AM.RB, Nat.reduceAdd, Nat.reduceMul, Nat.reduceEqDiff, reduceCtorEq, b94_G17]
  · exact ⟨rfl, Nat.zero_le _, fun j hj => by omega⟩
  rintro i h1 ρ ⟨rfl, hi, hj⟩
  simp (maxSteps := 1000000) (disch := first | omega | (simp only [AM.DB, List.length_set, List.length_map]; first | done | omega)) only [AM.RB, Nat.reduceAdd, Nat.reduceMul, Nat.reduceEqDiff, reduceCtorEq, b94_G17]
  refine AM.condV_split (fun hlt => ?_) (fun hlt => ?_)
  · have hil : i < n := by omega
    have hg : l.getD i 0 = l[i]'(by omega) := by simp [List.getD, show i < l.length by omega]
    by_cases e : x = l.getD i 0
    · (first | (simp (maxSteps := 1000000) (disch := first | omega | (simp only [AM.DB, List.length_set, List.length_map]; first | done | omega)) only [AM.RB, Nat.reduceAdd, Nat.reduceMul, Nat.reduceEqDiff, reduceCtorEq, b94_G17, hs.ia el_22, Rd.ldi hs lk_3, Int.toNat_natCast, decide_eq_true e]) | skip)
      refine hq _ ?_
      rw [decide_eq_true (by omega), decide_eq_true]
      rw [e, hg]; exact List.getElem_mem _
    · (first | (simp (maxSteps := 1000000) (disch := first | omega | (simp only [AM.DB, List.length_set, List.length_map]; first | done | omega)) only [AM.RB, Nat.reduceAdd, Nat.reduceMul, Nat.reduceEqDiff, reduceCtorEq, b94_G17, hs.ia el_22, Rd.ldi hs lk_3, Int.toNat_natCast, decide_eq_false e, AM.wrap_i64]) | skip)
      refine ⟨i + 1, by omega, congrArg _ (by omega), by omega, fun j q => ?_⟩
      by_cases ej : j = i
      · subst ej; exact fun q => e q.symm
      · exact hj j (by omega)
  · (first | (simp (maxSteps := 1000000) (disch := first | omega | (simp only [AM.DB, List.length_set, List.length_map]; first | done | omega)) only [AM.RB, Nat.reduceAdd, Nat.reduceMul, Nat.reduceEqDiff, reduceCtorEq, b94_G17]) | skip)
    refine hq _ ?_
    rw [decide_eq_false (by omega), decide_eq_false]
    intro q
    obtain ⟨j, hjl, ej⟩ := List.getElem_of_mem q
    refine hj j (by omega) ?_
    rw [← ej]; simp [List.getD, hjl]
theorem contains_w {s : Value} {n : Nat} {l : List Int} {h : AHeap} (hs : Rd h 3 1 s n (l.map (.int .i64))) (hn : n ≤ 4000000000) (x : Int) {Q : VQ} (hq : Q (.bool (decide (x ∈ l))) h) : W 61 [s, .int .i64 x] h Q := by
  refine AM.enter hp (fn := Tryd.f61) (rs := [.tmp 4]) (nt := 9) (by kernel_rfl) Tryd.func61 rfl rfl rfl (by kernel_rfl) ?_
  (first | (simp (maxSteps := 1000000) (disch := first | omega | (simp only [AM.DB, List.length_set, List.length_map]; first | done | omega)) only [AM.RB, Nat.reduceAdd, Nat.reduceMul, Nat.reduceEqDiff, reduceCtorEq, b61_G17]) | skip)
  refine index_w hs hn x fun r hr => ?_
  rw [← hr] at hq
  (first | (simp (maxSteps := 1000000) (disch := first | omega | (simp only [AM.DB, List.length_set, List.length_map]; first | done | omega)) only [AM.RB, Nat.reduceAdd, Nat.reduceMul, Nat.reduceEqDiff, reduceCtorEq, b61_G17]) | skip)
  exact hq
theorem edge_w {h : AHeap} {p : Nat} {L : List (List UInt8)} {S : Nat → Prop} (m : Mt h p L S) (f : Fit L) (hw : h.get GW = some (.cells waysC 166 false)) (hgl : GW < h.low) (hl : h.low ≤ h.next) (a b : Int) {Q : VQ}
    (hq : ∀ h' S', Mt h' p L S' → (∀ id, S' id → S id ∨ h.next ≤ id) → Fr (fun id => id = p) h h' → Q (.bool (decide (b ∈ nextL L a))) h') : W 19 [pv p, .int .i64 a, .int .i64 b] h Q := by
  have hEL := edgesL_len L f
  have hnl : (nextL L a).length ≤ 4096 := by unfold nextL; split; exact Nat.le_trans (fromE_len _ _) hEL; simp
  refine AM.enter hp (fn := Tryd.f19) (rs := [.tmp 6]) (nt := 12) (by kernel_rfl) Tryd.func19 rfl rfl rfl (by kernel_rfl) ?_
  (first | (simp (maxSteps := 1000000) (disch := first | omega | (simp only [AM.DB, List.length_set, List.length_map]; first | done | omega)) only [AM.RB, Nat.reduceAdd, Nat.reduceMul, Nat.reduceEqDiff, reduceCtorEq, b19_G17]) | skip)
  refine next_w m f hw hgl hl a fun v h1 S1 m1 hS1 o1 fr1 hid1 => ?_
  (first | (simp (maxSteps := 1000000) (disch := first | omega | (simp only [AM.DB, List.length_set, List.length_map]; first | done | omega)) only [AM.RB, Nat.reduceAdd, Nat.reduceMul, Nat.reduceEqDiff, reduceCtorEq, b19_G17]) | skip)
  refine contains_w o1.rd (by omega) b ?_
  (first | (simp (maxSteps := 1000000) (disch := first | omega | (simp only [AM.DB, List.length_set, List.length_map]; first | done | omega)) only [AM.RB, Nat.reduceAdd, Nat.reduceMul, Nat.reduceEqDiff, reduceCtorEq, b19_G17]) | skip)
  exact hq h1 S1 m1 hS1 fr1

end Go.Proofs.YtbaohngkapmhlaaDoor

namespace Go.Proofs.YtbaohngkapmhlaaDoor
open Go.AM

/-! ### The edges, as the document has them -/
def farN (C a b : Nat) : Int := max (((a / C : Nat) : Int) - (b / C : Nat)) (((b / C : Nat) : Int) - (a / C : Nat)) + max (((a % C : Nat) : Int) - (b % C : Nat)) (((b % C : Nat) : Int) - (a % C : Nat))
def wayOf (C a b : Nat) : Int × Int := if (b : Int) = (a : Int) - 1 ∧ b / C = a / C then (60, 62) else if b / C < a / C then (94, 118) else if a / C < b / C then (118, 94) else (62, 60)
/-- Does an edge go from a cell to another one? -/
def edgeN (K : List UInt8) (C a b : Nat) : Bool := !decide (((K.getD a 0).toNat : Int) = 35) && !decide (((K.getD b 0).toNat : Int) = 35) && decide (farN C a b = 1) &&
  (decide (((K.getD a 0).toNat : Int) = 46) || decide (((K.getD a 0).toNat : Int) = (wayOf C a b).1)) && !decide (((K.getD b 0).toNat : Int) = (wayOf C a b).2)
/-- A way leads to a cell. -/
def hits (C a b : Nat) (q : Wy) : Prop := ((b / C : Nat) : Int) = rowTo C a q ∧ ((b % C : Nat) : Int) = colTo C a q
theorem hits_of {R C a b : Nat} {q : Wy} (hC : 0 < C) (hb : b < R * C) : (inB R C a q = true ∧ cellTo C a q = b) ↔ hits C a b q := by
  have hm := Nat.mod_lt b hC
  have hd : b / C < R := by rw [Nat.div_lt_iff_lt_mul hC]; exact hb
  have he : b / C * C + b % C = b := by rw [Nat.mul_comm]; exact Nat.div_add_mod b C
  unfold hits inB cellTo
  simp only [Bool.and_eq_true, decide_eq_true_eq]
  generalize rowTo C a q = r
  generalize colTo C a q = c
  constructor
  · rintro ⟨⟨⟨⟨h1, h2⟩, h3⟩, h4⟩, h5⟩
    obtain ⟨r, rfl⟩ := Int.eq_ofNat_of_zero_le h1
    obtain ⟨c, rfl⟩ := Int.eq_ofNat_of_zero_le h3
    have hb' : b = c + C * r := by
      have h6 : b = r * C + c := by
        have : (b : Int) = ((r * C + c : Nat) : Int) := by rw [← h5, Int.natCast_add, Int.natCast_mul]
        exact Int.ofNat.inj this
      rw [h6, Nat.mul_comm, Nat.add_comm]
    have hc : c < C := by omega
    rw [hb', Nat.add_mul_div_left _ _ hC, Nat.add_mul_mod_self_left, Nat.div_eq_of_lt hc, Nat.mod_eq_of_lt hc, Nat.zero_add]
    exact ⟨rfl, rfl⟩
  · rintro ⟨rfl, rfl⟩
    refine ⟨⟨⟨⟨Int.natCast_nonneg _, Int.ofNat_lt.2 hd⟩, Int.natCast_nonneg _⟩, Int.ofNat_lt.2 hm⟩, ?_⟩
    rw [← Int.natCast_mul, ← Int.natCast_add, he]
theorem far_hits {C a b : Nat} : farN C a b = 1 ↔ ∃ q ∈ wayV, hits C a b q := by
  unfold farN hits rowTo colTo wayV
  generalize a / C = ra
  generalize b / C = rb
  generalize a % C = ca
  generalize b % C = cb
  constructor
  · intro h
    have hh : ((rb : Int) = ra - 1 ∧ (cb : Int) = ca) ∨ ((rb : Int) = ra ∧ (cb : Int) = ca - 1) ∨ ((rb : Int) = ra ∧ (cb : Int) = ca + 1) ∨ ((rb : Int) = ra + 1 ∧ (cb : Int) = ca) := by omega
    rcases hh with ⟨h1, h2⟩ | ⟨h1, h2⟩ | ⟨h1, h2⟩ | ⟨h1, h2⟩
    · exact ⟨(94, 118, -1, 0), by simp, by simp only; omega, by simp only; omega⟩
    · exact ⟨(60, 62, 0, -1), by simp, by simp only; omega, by simp only; omega⟩
    · exact ⟨(62, 60, 0, 1), by simp, by simp only; omega, by simp only; omega⟩
    · exact ⟨(118, 94, 1, 0), by simp, by simp only; omega, by simp only; omega⟩
  · rintro ⟨q, hq, h1, h2⟩
    simp only [List.mem_cons, List.not_mem_nil, or_false] at hq
    rcases hq with rfl | rfl | rfl | rfl <;> simp only at h1 h2 <;> omega
theorem way_of {C a b : Nat} (hC : 0 < C) {q : Wy} (hq : q ∈ wayV) (h : hits C a b q) : wayOf C a b = (q.1, q.2.1) := by
  have ha : a / C * C + a % C = a := by rw [Nat.mul_comm]; exact Nat.div_add_mod a C
  have hb : b / C * C + b % C = b := by rw [Nat.mul_comm]; exact Nat.div_add_mod b C
  obtain ⟨h1, h2⟩ := h
  unfold rowTo at h1
  unfold colTo at h2
  unfold wayOf
  generalize hra : a / C = ra at *
  generalize hrb : b / C = rb at *
  generalize hca : a % C = ca at *
  generalize hcb : b % C = cb at *
  unfold wayV at hq
  simp only [List.mem_cons, List.not_mem_nil, or_false] at hq
  rcases hq with rfl | rfl | rfl | rfl <;> simp only at h1 h2
  · rw [if_neg (by omega), if_pos (by omega)]
  · have e : rb = ra := by omega
    subst e
    rw [if_pos ⟨by omega, rfl⟩]
  · have e : rb = ra := by omega
    subst e
    rw [if_neg (by omega), if_neg (by omega), if_neg (by omega)]
  · rw [if_neg (by omega), if_neg (by omega), if_pos (by omega)]
/-- The program's edges are the document's. -/
theorem edge_iff (K : List UInt8) {R C a b : Nat} (hC : 0 < C) (hb : b < R * C) : edgeN K C a b = true ↔ ∃ q ∈ wayV, inB R C a q = true ∧ goesP K C a q = true ∧ cellTo C a q = b := by
  unfold edgeN
  simp only [Bool.and_eq_true, decide_eq_true_eq, Bool.or_eq_true, Bool.not_eq_true', decide_eq_false_iff_not]
  constructor
  · rintro ⟨⟨⟨⟨h1, h2⟩, h3⟩, h4⟩, h5⟩
    obtain ⟨q, hq, hh⟩ := far_hits.1 h3
    obtain ⟨i1, i2⟩ := (hits_of hC hb).2 hh
    refine ⟨q, hq, i1, ?_, i2⟩
    rw [way_of hC hq hh] at h4 h5
    unfold goesP leavesP
    rw [i2, Int.toNat_natCast]
    simp only [Bool.and_eq_true, decide_eq_true_eq, Bool.or_eq_true, Bool.not_eq_true', decide_eq_false_iff_not]
    exact ⟨⟨h4, h2⟩, h5⟩
  · rintro ⟨q, hq, i1, hg, i2⟩
    have hh := (hits_of hC hb).1 ⟨i1, i2⟩
    rw [way_of hC hq hh]
    unfold goesP leavesP at hg
    rw [i2, Int.toNat_natCast] at hg
    simp only [Bool.and_eq_true, decide_eq_true_eq, Bool.or_eq_true, Bool.not_eq_true', decide_eq_false_iff_not] at hg
    obtain ⟨⟨g1, g2⟩, g3⟩ := hg
    refine ⟨⟨⟨⟨?_, g2⟩, far_hits.2 ⟨q, hq, hh⟩⟩, g1⟩, g3⟩
    unfold wayV at hq
    simp only [List.mem_cons, List.not_mem_nil, or_false] at hq
    rcases hq with rfl | rfl | rfl | rfl <;> simp only at g1 <;> omega
/-! ### Ascending lists -/
def Asc : List Nat → Prop
  | [] => True
  | x :: l => (∀ y ∈ l, x < y) ∧ Asc l
theorem asc_eq : ∀ {l m : List Nat}, Asc l → Asc m → (∀ x, x ∈ l ↔ x ∈ m) → l = m
  | [], [], _, _, _ => rfl
  | [], y :: m, _, _, h => by have := (h y).2 (by simp); cases this
  | x :: l, [], _, _, h => by have := (h x).1 (by simp); cases this
  | x :: l, y :: m, ⟨a1, a2⟩, ⟨b1, b2⟩, h => by
    have e : x = y := by
      have h1 := (h x).1 (by simp)
      have h2 := (h y).2 (by simp)
      rcases List.mem_cons.1 h1 with q | q
      · exact q
      · rcases List.mem_cons.1 h2 with q2 | q2
        · exact q2.symm
        · have := b1 x q; have := a1 y q2; omega
    subst e
    rw [asc_eq a2 b2 fun z => ?_]
    constructor
    · intro hz
      rcases List.mem_cons.1 ((h z).1 (by simp [hz])) with q | q
      · have := a1 z hz; omega
      · exact q
    · intro hz
      rcases List.mem_cons.1 ((h z).2 (by simp [hz])) with q | q
      · have := b1 z hz; omega
      · exact q
theorem asc_append : ∀ {l m : List Nat}, Asc l → Asc m → (∀ x ∈ l, ∀ y ∈ m, x < y) → Asc (l ++ m)
  | [], _, _, hm, _ => hm
  | x :: l, m, ⟨a1, a2⟩, hm, h => ⟨fun y hy => (List.mem_append.1 hy).elim (a1 y) (h x (by simp) y), asc_append a2 hm fun z hz => h z (by simp [hz])⟩
theorem asc_filter {p : Nat → Bool} : ∀ {l : List Nat}, Asc l → Asc (l.filter p)
  | [], _ => trivial
  | x :: l, ⟨a1, a2⟩ => by
    rw [List.filter_cons]
    split
    · exact ⟨fun y hy => a1 y (List.mem_filter.1 hy).1, asc_filter a2⟩
    · exact asc_filter a2
theorem asc_range : ∀ n, Asc (List.range n)
  | 0 => trivial
  | n + 1 => by
    rw [List.range_succ]
    refine asc_append (asc_range n) ⟨fun y hy => by simp at hy, trivial⟩ fun x hx y hy => ?_
    have := List.mem_range.1 hx
    simp at hy; omega

/-- Where one goes from a cell, in order. -/
def outsW (K : List UInt8) (R C a : Nat) : List Nat := ((sidesF R C a wayV).filter (goesP K C a)).map fun q => (cellTo C a q).toNat
theorem outs_mem (K : List UInt8) {R C a b : Nat} (hC : 0 < C) : b ∈ outsW K R C a ↔ b < R * C ∧ edgeN K C a b = true := by
  unfold outsW sidesF
  rw [List.mem_map]
  constructor
  · rintro ⟨q, hq, rfl⟩
    obtain ⟨h1, h2⟩ := List.mem_filter.1 hq
    obtain ⟨h3, h4⟩ := List.mem_filter.1 h1
    obtain ⟨b, hb, hbl⟩ := cellTo_lt hC h4
    rw [hb, Int.toNat_natCast]
    exact ⟨hbl, (edge_iff K hC hbl).2 ⟨q, h3, h4, h2, hb⟩⟩
  · rintro ⟨hb, he⟩
    obtain ⟨q, h1, h2, h3, h4⟩ := (edge_iff K hC hb).1 he
    exact ⟨q, List.mem_filter.2 ⟨List.mem_filter.2 ⟨h1, h2⟩, h3⟩, by rw [h4, Int.toNat_natCast]⟩
theorem outs_asc (K : List UInt8) {R C a : Nat} (hC : 0 < C) : Asc (outsW K R C a) := by
  unfold outsW sidesF
  rw [List.filter_filter]
  have hm := Nat.mod_lt a hC
  -- the four, one behind the other
  have key : ∀ (l : List Wy), (∀ q ∈ l, inB R C a q = true → ∃ b : Nat, cellTo C a q = b) → (l.Pairwise fun q r => inB R C a q = true → inB R C a r = true → cellTo C a q < cellTo C a r) → Asc ((l.filter fun q => goesP K C a q && inB R C a q).map fun q => (cellTo C a q).toNat) := by
    intro l
    induction l with
    | nil => intro _ _; trivial
    | cons q l ih =>
      intro h1 h2
      rw [List.pairwise_cons] at h2
      rw [List.filter_cons]
      split
      · rename_i hc
        rw [Bool.and_eq_true] at hc
        refine ⟨fun y hy => ?_, ih (fun r hr => h1 r (by simp [hr])) h2.2⟩
        obtain ⟨r, hr, rfl⟩ := List.mem_map.1 hy
        obtain ⟨hr1, hr2⟩ := List.mem_filter.1 hr
        rw [Bool.and_eq_true] at hr2
        have := h2.1 r hr1 hc.2 hr2.2
        obtain ⟨b1, e1⟩ := h1 q (by simp) hc.2
        obtain ⟨b2, e2⟩ := h1 r (by simp [hr1]) hr2.2
        simp only
        rw [e1, e2] at this ⊢
        omega
      · exact ih (fun r hr => h1 r (by simp [hr])) h2.2
  refine key wayV (fun q _ h => (cellTo_lt hC h).imp fun _ q => q.1) ?_
  unfold wayV
  simp only [List.pairwise_cons, List.mem_cons, List.not_mem_nil, or_false, forall_eq_or_imp, forall_eq, false_implies, implies_true, List.Pairwise.nil, and_true]
  unfold inB cellTo rowTo colTo
  simp only [Bool.and_eq_true, decide_eq_true_eq]
  generalize a / C = ra
  generalize a % C = ca at *
  have e1 : ((ra : Int) + -1) * C = ra * C - C := by rw [Int.add_mul]; omega
  have e2 : ((ra : Int) + 1) * C = ra * C + C := by rw [Int.add_mul]; omega
  have e3 : ((ra : Int) + 0) * C = ra * C := by rw [Int.add_zero]
  rw [e1, e2, e3]
  generalize (ra : Int) * C = rc
  refine ⟨⟨?_, ?_, ?_⟩, ⟨?_, ?_⟩, ?_⟩ <;> (rintro ⟨⟨⟨_, _⟩, _⟩, _⟩ ⟨⟨⟨_, _⟩, _⟩, _⟩; omega)
theorem outs_eq (K : List UInt8) {R C a : Nat} (hC : 0 < C) : outsW K R C a = (List.range (R * C)).filter (edgeN K C a) :=
  asc_eq (outs_asc K hC) (asc_filter (asc_range _)) fun b => by rw [outs_mem K hC, List.mem_filter, List.mem_range]

theorem from_edges (K : List UInt8) (R C : Nat) : ∀ (n a : Nat), fromE (edgesTo K R C n) a = if a < n then (outsW K R C a).map fun (b : Nat) => (b : Int) else []
  | 0, a => by simp [edgesTo, fromE]
  | n + 1, a => by
    have ih := from_edges K R C n a
    have hs : fromE (edgesTo K R C (n + 1)) a = fromE (edgesTo K R C n) a ++ fromE (edgesW K C n (sidesF R C n wayV)) a := by
      rw [edgesTo]; unfold fromE; rw [List.filter_append, List.map_append]
    rw [hs, ih]
    by_cases e : a = n
    · subst e
      rw [if_neg (by omega), if_pos (by omega), List.nil_append]
      unfold fromE edgesW outsW
      rw [List.filter_map, List.map_map, List.map_map]
      congr 1
      rw [List.filter_eq_self]
      intro q _
      simp
    · have : fromE (edgesW K C n (sidesF R C n wayV)) a = [] := by
        unfold fromE edgesW
        rw [List.filter_map, List.map_map, List.map_eq_nil_iff, List.filter_eq_nil_iff]
        intro q _
        have : n ≠ a := fun q => e q.symm
        simp [this]
      rw [this, List.append_nil]
      by_cases h : a < n
      · rw [if_pos h, if_pos (by omega)]
      · rw [if_neg h, if_neg (by omega)]
theorem nextL_eq {L : List (List UInt8)} (f : Fit L) (i : Int) : nextL L i = if 0 ≤ i ∧ i < L.flatten.length then ((List.range L.flatten.length).filter (edgeN L.flatten (L.getD 0 []).length i.toNat)).map (fun (b : Nat) => (b : Int)) else [] := by
  unfold nextL
  split
  · rename_i h
    rw [from_edges, if_pos (by omega), outs_eq _ f.cols, f.len]
  · rfl
end Go.Proofs.YtbaohngkapmhlaaDoor

namespace Go.Proofs.YtbaohngkapmhlaaDoor
open Go.AM
set_option maxRecDepth 8000
theorem b101_G19 : type_of% (And.intro (@AM.bin_add) (And.intro (@AM.bin_eql) (And.intro (@AM.bin_lss) (And.intro (@AM.bin_quo) (And.intro (@AM.bin_rem) (And.intro (@AM.bin_sub) (And.intro (@AM.op_binOp) (And.intro (@AM.op_call) (And.intro (@AM.op_unOp) (And.intro (@AM.un_neg) (@AM.un_not))))))))))) := And.intro (@AM.bin_add) (And.intro (@AM.bin_eql) (And.intro (@AM.bin_lss) (And.intro (@AM.bin_quo) (And.intro (@AM.bin_rem) (And.intro (@AM.bin_sub) (And.intro (@AM.op_binOp) (And.intro (@AM.op_call) (And.intro (@AM.op_unOp) (And.intro (@AM.un_neg) (@AM.un_not))))))))))


def farL (L : List (List UInt8)) (a b : Int) : Int := if (0 ≤ a ∧ a < L.flatten.length) ∧ 0 ≤ b ∧ b < L.flatten.length then farN (L.getD 0 []).length a.toNat b.toNat else -1
theorem tdiv_nat (n C : Nat) : (n : Int).tdiv C = ((n / C : Nat) : Int) := by rw [Int.tdiv_eq_ediv_of_nonneg (by omega)]; rfl
theorem tmod_nat (n C : Nat) : (n : Int).tmod C = ((n % C : Nat) : Int) := by rw [Int.tmod_eq_emod_of_nonneg (by omega)]; rfl
theorem wrap_nat {n : Nat} (h : n ≤ 4000000000) : IntKind.i64.wrap (n : Int) = n := AM.wrap_i64 (by omega) (by omega)
set_option maxHeartbeats 1000000 in
theorem refFar_w {h : AHeap} {p : Nat} {lv : Value} {L : List (List UInt8)} {l : List UInt8} (r : Rp h p lv L) (G : Good l L) (a b : Int) {Q : VQ} (hq : Q (.int .i64 (farL L a b)) h) : W 101 [pv p, .int .i64 a, .int .i64 b] h Q := by
  have hK := G.fit.k1024
  have hC := G.cols
  have g32 := G.r32
  have gc32 := G.c32
  have hz : ∀ i : Int, decide (((rkind L i).toNat : Int) = 0) = !decide (0 ≤ i ∧ i < L.flatten.length) := fun i => by
    have h1 := G.free i
    unfold freeP at h1
    rw [← G.kind] at h1
    have d1 := u8_lit (rkind L i) 0 (by omega)
    rw [show decide (((rkind L i).toNat : Int) = 0) = decide (rkind L i = 0) from d1]
    by_cases hi : 0 ≤ i ∧ i < L.flatten.length
    · rw [decide_eq_true hi]
      cases h35 : decide (rkind L i = 35)
      · rw [h35, decide_eq_true hi] at h1
        simpa using h1
      · have : rkind L i = 35 := of_decide_eq_true h35
        rw [this]; rfl
    · rw [decide_eq_false hi]
      have : rkind L i = 0 := by
        unfold rkind; rw [if_neg]
        rw [G.len] at hi; exact hi
      rw [this]; rfl
  unfold farL at hq
  refine AM.enter hp (fn := Tryd.f101) (rs := [.tmp 6]) (nt := 48) (by kernel_rfl) Tryd.func101 rfl rfl rfl (by kernel_rfl) ?_
  (repeat' (first | (simp (maxSteps := 1000000) (disch := first | omega | (simp only [AM.DB, List.length_set, List.length_map]; first | done | omega)) only [AM.RB, Nat.reduceAdd, Nat.reduceMul, Nat.reduceEqDiff, reduceCtorEq, b101_G19]) | refine AM.drawW_fine hp (by kernel_rfl) (by kernel_rfl) (by kernel_rfl) ?_ | refine AM.opW_tied (by kernel_rfl) ?_ | refine AM.opW_untied (by kernel_rfl) ?_))
  refine refKind_w r G.rows (by omega) G.all a ?_
  by_cases ha : 0 ≤ a ∧ a < L.flatten.length
  · have za := hz a
    rw [decide_eq_true ha] at za
    (repeat' (first | (simp (maxSteps := 1000000) (disch := first | omega | (simp only [AM.DB, List.length_set, List.length_map]; first | done | omega)) only [AM.RB, Nat.reduceAdd, Nat.reduceMul, Nat.reduceEqDiff, reduceCtorEq, b101_G19, za]) | refine AM.drawW_fine hp (by kernel_rfl) (by kernel_rfl) (by kernel_rfl) ?_ | refine AM.opW_tied (by kernel_rfl) ?_ | refine AM.opW_untied (by kernel_rfl) ?_))
    refine refKind_w r G.rows (by omega) G.all b ?_
    by_cases hb : 0 ≤ b ∧ b < L.flatten.length
    · have zb := hz b
      rw [decide_eq_true hb] at zb
      rw [if_pos ⟨ha, hb⟩] at hq
      obtain ⟨na, rfl⟩ := Int.eq_ofNat_of_zero_le ha.1
      obtain ⟨nb, rfl⟩ := Int.eq_ofNat_of_zero_le hb.1
      have hC' : ((L.getD 0 []).length : Int) ≠ 0 := by omega
      have e1 := tdiv_nat na (L.getD 0 []).length
      have e2 := tdiv_nat nb (L.getD 0 []).length
      have e3 := tmod_nat na (L.getD 0 []).length
      have e4 := tmod_nat nb (L.getD 0 []).length
      have b1 : na / (L.getD 0 []).length ≤ 1024 := Nat.le_trans (Nat.div_le_self _ _) (by omega)
      have b2 : nb / (L.getD 0 []).length ≤ 1024 := Nat.le_trans (Nat.div_le_self _ _) (by omega)
      have b3 : na % (L.getD 0 []).length ≤ 1024 := Nat.le_trans (Nat.mod_le _ _) (by omega)
      have b4 : nb % (L.getD 0 []).length ≤ 1024 := Nat.le_trans (Nat.mod_le _ _) (by omega)
      rw [Int.toNat_natCast, Int.toNat_natCast] at hq
      unfold farN at hq
      generalize na / (L.getD 0 []).length = x1 at *
      generalize nb / (L.getD 0 []).length = x2 at *
      generalize na % (L.getD 0 []).length = x3 at *
      generalize nb % (L.getD 0 []).length = x4 at *
      have w1 := wrap_nat (n := x1) (by omega)
      have w2 := wrap_nat (n := x2) (by omega)
      (repeat' (first | (simp (maxSteps := 1000000) (disch := first | omega | (simp only [AM.DB, List.length_set, List.length_map]; first | done | omega)) only [AM.RB, Nat.reduceAdd, Nat.reduceMul, Nat.reduceEqDiff, reduceCtorEq, b101_G19, zb]) | refine AM.drawW_fine hp (by kernel_rfl) (by kernel_rfl) (by kernel_rfl) ?_ | refine AM.opW_tied (by kernel_rfl) ?_ | refine AM.opW_untied (by kernel_rfl) ?_))
      refine refCols_w r G.rows ?_
      (repeat' (first | (simp (maxSteps := 1000000) (disch := first | omega | (simp only [AM.DB, List.length_set, List.length_map]; first | done | omega)) only [AM.RB, Nat.reduceAdd, Nat.reduceMul, Nat.reduceEqDiff, reduceCtorEq, b101_G19, e1, w1]) | refine AM.drawW_fine hp (by kernel_rfl) (by kernel_rfl) (by kernel_rfl) ?_ | refine AM.opW_tied (by kernel_rfl) ?_ | refine AM.opW_untied (by kernel_rfl) ?_))
      refine refCols_w r G.rows ?_
      (repeat' (first | (simp (maxSteps := 1000000) (disch := first | omega | (simp only [AM.DB, List.length_set, List.length_map]; first | done | omega)) only [AM.RB, Nat.reduceAdd, Nat.reduceMul, Nat.reduceEqDiff, reduceCtorEq, b101_G19, e2, w2, AM.wrap_i64]) | refine AM.drawW_fine hp (by kernel_rfl) (by kernel_rfl) (by kernel_rfl) ?_ | refine AM.opW_tied (by kernel_rfl) ?_ | refine AM.opW_untied (by kernel_rfl) ?_))
      refine refCols_w r G.rows ?_
      (repeat' (first | (simp (maxSteps := 1000000) (disch := first | omega | (simp only [AM.DB, List.length_set, List.length_map]; first | done | omega)) only [AM.RB, Nat.reduceAdd, Nat.reduceMul, Nat.reduceEqDiff, reduceCtorEq, b101_G19, e3]) | refine AM.drawW_fine hp (by kernel_rfl) (by kernel_rfl) (by kernel_rfl) ?_ | refine AM.opW_tied (by kernel_rfl) ?_ | refine AM.opW_untied (by kernel_rfl) ?_))
      refine refCols_w r G.rows ?_
      (repeat' (first | (simp (maxSteps := 1000000) (disch := first | omega | (simp only [AM.DB, List.length_set, List.length_map]; first | done | omega)) only [AM.RB, Nat.reduceAdd, Nat.reduceMul, Nat.reduceEqDiff, reduceCtorEq, b101_G19, e4, AM.wrap_i64]) | refine AM.drawW_fine hp (by kernel_rfl) (by kernel_rfl) (by kernel_rfl) ?_ | refine AM.opW_tied (by kernel_rfl) ?_ | refine AM.opW_untied (by kernel_rfl) ?_))
      have key : ∀ u v : Int, u = max ((x1 : Int) - x2) ((x2 : Int) - x1) → v = max ((x3 : Int) - x4) ((x4 : Int) - x3) → Q (.int .i64 (u + v)) h := fun u v hu hv => by rw [hu, hv]; exact hq
      by_cases c1 : (x1 : Int) - x2 < 0
      · by_cases c2 : (x3 : Int) - x4 < 0
        · (repeat' (first | (simp (maxSteps := 1000000) (disch := first | omega | (simp only [AM.DB, List.length_set, List.length_map]; first | done | omega)) only [AM.RB, Nat.reduceAdd, Nat.reduceMul, Nat.reduceEqDiff, reduceCtorEq, b101_G19, decide_eq_true c1, decide_eq_true c2, AM.wrap_i64]) | refine AM.drawW_fine hp (by kernel_rfl) (by kernel_rfl) (by kernel_rfl) ?_ | refine AM.opW_tied (by kernel_rfl) ?_ | refine AM.opW_untied (by kernel_rfl) ?_))
          exact key _ _ (by omega) (by omega)
        · (repeat' (first | (simp (maxSteps := 1000000) (disch := first | omega | (simp only [AM.DB, List.length_set, List.length_map]; first | done | omega)) only [AM.RB, Nat.reduceAdd, Nat.reduceMul, Nat.reduceEqDiff, reduceCtorEq, b101_G19, decide_eq_true c1, decide_eq_false c2, AM.wrap_i64]) | refine AM.drawW_fine hp (by kernel_rfl) (by kernel_rfl) (by kernel_rfl) ?_ | refine AM.opW_tied (by kernel_rfl) ?_ | refine AM.opW_untied (by kernel_rfl) ?_))
          exact key _ _ (by omega) (by omega)
      · by_cases c2 : (x3 : Int) - x4 < 0
        · (repeat' (first | (simp (maxSteps := 1000000) (disch := first | omega | (simp only [AM.DB, List.length_set, List.length_map]; first | done | omega)) only [AM.RB, Nat.reduceAdd, Nat.reduceMul, Nat.reduceEqDiff, reduceCtorEq, b101_G19, decide_eq_false c1, decide_eq_true c2, AM.wrap_i64]) | refine AM.drawW_fine hp (by kernel_rfl) (by kernel_rfl) (by kernel_rfl) ?_ | refine AM.opW_tied (by kernel_rfl) ?_ | refine AM.opW_untied (by kernel_rfl) ?_))
          exact key _ _ (by omega) (by omega)
        · (repeat' (first | (simp (maxSteps := 1000000) (disch := first | omega | (simp only [AM.DB, List.length_set, List.length_map]; first | done | omega)) only [AM.RB, Nat.reduceAdd, Nat.reduceMul, Nat.reduceEqDiff, reduceCtorEq, b101_G19, decide_eq_false c1, decide_eq_false c2, AM.wrap_i64]) | refine AM.drawW_fine hp (by kernel_rfl) (by kernel_rfl) (by kernel_rfl) ?_ | refine AM.opW_tied (by kernel_rfl) ?_ | refine AM.opW_untied (by kernel_rfl) ?_))
          exact key _ _ (by omega) (by omega)
    · have zb := hz b
      rw [decide_eq_false hb] at zb
      rw [if_neg (fun q => hb q.2)] at hq
      (repeat' (first | (simp (maxSteps := 1000000) (disch := first | omega | (simp only [AM.DB, List.length_set, List.length_map]; first | done | omega)) only [AM.RB, Nat.reduceAdd, Nat.reduceMul, Nat.reduceEqDiff, reduceCtorEq, b101_G19, zb]) | refine AM.drawW_fine hp (by kernel_rfl) (by kernel_rfl) (by kernel_rfl) ?_ | refine AM.opW_tied (by kernel_rfl) ?_ | refine AM.opW_untied (by kernel_rfl) ?_))
      exact hq
  · have za := hz a
    rw [decide_eq_false ha] at za
    rw [if_neg (fun q => ha q.1)] at hq
    (repeat' (first | (simp (maxSteps := 1000000) (disch := first | omega | (simp only [AM.DB, List.length_set, List.length_map]; first | done | omega)) only [AM.RB, Nat.reduceAdd, Nat.reduceMul, Nat.reduceEqDiff, reduceCtorEq, b101_G19, za]) | refine AM.drawW_fine hp (by kernel_rfl) (by kernel_rfl) (by kernel_rfl) ?_ | refine AM.opW_tied (by kernel_rfl) ?_ | refine AM.opW_untied (by kernel_rfl) ?_))
    exact hq


end Go.Proofs.YtbaohngkapmhlaaDoor

namespace Go.Proofs.YtbaohngkapmhlaaDoor
open Go.AM
set_option maxRecDepth 8000
theorem b72_G20 : type_of% (And.intro (@AM.bin_eql) (And.intro (@AM.bin_gtr) (And.intro (@AM.bin_lss) (And.intro (@AM.bin_neq) (And.intro (@AM.bin_quo) (And.intro (@AM.bin_sub) (And.intro (@AM.op_binOp) (And.intro (@AM.op_call) (And.intro (@AM.op_unOp) (And.intro (@AM.un_neg) (@AM.un_not))))))))))) := And.intro (@AM.bin_eql) (And.intro (@AM.bin_gtr) (And.intro (@AM.bin_lss) (And.intro (@AM.bin_neq) (And.intro (@AM.bin_quo) (And.intro (@AM.bin_sub) (And.intro (@AM.op_binOp) (And.intro (@AM.op_call) (And.intro (@AM.op_unOp) (And.intro (@AM.un_neg) (@AM.un_not))))))))))


def edgeL (L : List (List UInt8)) (a b : Int) : Bool := decide ((0 ≤ a ∧ a < L.flatten.length) ∧ 0 ≤ b ∧ b < L.flatten.length) && edgeN L.flatten (L.getD 0 []).length a.toNat b.toNat
set_option maxHeartbeats 4000000 in
theorem refEdge_w {h : AHeap} {p : Nat} {lv : Value} {L : List (List UInt8)} {l : List UInt8} (r : Rp h p lv L) (G : Good l L) (a b : Int) {Q : VQ} (hq : Q (.bool (edgeL L a b)) h) : W 72 [pv p, .int .i64 a, .int .i64 b] h Q := by
  have hK := G.fit.k1024
  have hC := G.cols
  have g32 := G.r32
  have gc32 := G.c32
  have hbd : L.length ≤ 4000000 ∧ (L.getD 0 []).length ≤ 4000000 := by omega
  unfold edgeL at hq
  refine AM.enter hp (fn := Tryd.f72) (rs := [.tmp 6]) (nt := 80) (by kernel_rfl) Tryd.func72 rfl rfl rfl (by kernel_rfl) ?_
  (repeat' (first | (simp (maxSteps := 1000000) (disch := first | omega | (simp only [AM.DB, List.length_set, List.length_map]; first | done | omega)) only [AM.RB, Nat.reduceAdd, Nat.reduceMul, Nat.reduceEqDiff, reduceCtorEq, b72_G20]) | refine AM.drawW_fine hp (by kernel_rfl) (by kernel_rfl) (by kernel_rfl) ?_ | refine AM.opW_tied (by kernel_rfl) ?_ | refine AM.opW_untied (by kernel_rfl) ?_))
  refine refFree_w r G.rows hbd G.all a ?_
  rw [G.free]
  have hfr : ∀ i : Int, freeP L.flatten i = (decide (0 ≤ i ∧ i < L.flatten.length) && !decide (((L.flatten.getD i.toNat 0).toNat : Int) = 35)) := fun i => by
    unfold freeP kindP
    by_cases hi : 0 ≤ i ∧ i < L.flatten.length
    · rw [if_pos hi.1, show decide (((L.flatten.getD i.toNat 0).toNat : Int) = 35) = decide (L.flatten.getD i.toNat 0 = 35) from u8_lit _ 35 (by omega)]
    · rw [decide_eq_false hi]; rfl
  have hkd : ∀ i : Int, 0 ≤ i → rkind L i = L.flatten.getD i.toNat 0 := fun i hi => by rw [G.kind]; unfold kindP; rw [if_pos hi]
  cases hfa : freeP L.flatten a
  · have e : (decide ((0 ≤ a ∧ a < L.flatten.length) ∧ 0 ≤ b ∧ b < L.flatten.length) && edgeN L.flatten (L.getD 0 []).length a.toNat b.toNat) = false := by
      rw [hfr] at hfa
      unfold edgeN
      by_cases hi : 0 ≤ a ∧ a < L.flatten.length
      · rw [decide_eq_true hi, Bool.true_and] at hfa
        rw [hfa]; simp
      · rw [decide_eq_false (fun q => hi q.1)]; rfl
    rw [e] at hq
    (repeat' (first | (simp (maxSteps := 1000000) (disch := first | omega | (simp only [AM.DB, List.length_set, List.length_map]; first | done | omega)) only [AM.RB, Nat.reduceAdd, Nat.reduceMul, Nat.reduceEqDiff, reduceCtorEq, b72_G20]) | refine AM.drawW_fine hp (by kernel_rfl) (by kernel_rfl) (by kernel_rfl) ?_ | refine AM.opW_tied (by kernel_rfl) ?_ | refine AM.opW_untied (by kernel_rfl) ?_))
    exact hq
  (repeat' (first | (simp (maxSteps := 1000000) (disch := first | omega | (simp only [AM.DB, List.length_set, List.length_map]; first | done | omega)) only [AM.RB, Nat.reduceAdd, Nat.reduceMul, Nat.reduceEqDiff, reduceCtorEq, b72_G20]) | refine AM.drawW_fine hp (by kernel_rfl) (by kernel_rfl) (by kernel_rfl) ?_ | refine AM.opW_tied (by kernel_rfl) ?_ | refine AM.opW_untied (by kernel_rfl) ?_))
  refine refFree_w r G.rows hbd G.all b ?_
  rw [G.free]
  cases hfb : freeP L.flatten b
  · have e : (decide ((0 ≤ a ∧ a < L.flatten.length) ∧ 0 ≤ b ∧ b < L.flatten.length) && edgeN L.flatten (L.getD 0 []).length a.toNat b.toNat) = false := by
      rw [hfr] at hfb
      unfold edgeN
      by_cases hi : 0 ≤ b ∧ b < L.flatten.length
      · rw [decide_eq_true hi, Bool.true_and] at hfb
        rw [hfb]; simp
      · rw [decide_eq_false (fun q => hi q.2)]; rfl
    rw [e] at hq
    (repeat' (first | (simp (maxSteps := 1000000) (disch := first | omega | (simp only [AM.DB, List.length_set, List.length_map]; first | done | omega)) only [AM.RB, Nat.reduceAdd, Nat.reduceMul, Nat.reduceEqDiff, reduceCtorEq, b72_G20]) | refine AM.drawW_fine hp (by kernel_rfl) (by kernel_rfl) (by kernel_rfl) ?_ | refine AM.opW_tied (by kernel_rfl) ?_ | refine AM.opW_untied (by kernel_rfl) ?_))
    exact hq
  (repeat' (first | (simp (maxSteps := 1000000) (disch := first | omega | (simp only [AM.DB, List.length_set, List.length_map]; first | done | omega)) only [AM.RB, Nat.reduceAdd, Nat.reduceMul, Nat.reduceEqDiff, reduceCtorEq, b72_G20]) | refine AM.drawW_fine hp (by kernel_rfl) (by kernel_rfl) (by kernel_rfl) ?_ | refine AM.opW_tied (by kernel_rfl) ?_ | refine AM.opW_untied (by kernel_rfl) ?_))
  refine refFar_w r G a b ?_
  have hia := freeP_in hfa
  have hib := freeP_in hfb
  obtain ⟨na, rfl⟩ := Int.eq_ofNat_of_zero_le hia.1
  obtain ⟨nb, rfl⟩ := Int.eq_ofNat_of_zero_le hib.1
  rw [hfr, decide_eq_true hia, Bool.true_and, Int.toNat_natCast] at hfa
  rw [hfr, decide_eq_true hib, Bool.true_and, Int.toNat_natCast] at hfb
  have hfar : farL L na nb = farN (L.getD 0 []).length na nb := by unfold farL; rw [if_pos ⟨hia, hib⟩]; rfl
  rw [hfar]
  rw [decide_eq_true ⟨hia, hib⟩, Bool.true_and, Int.toNat_natCast, Int.toNat_natCast] at hq
  unfold edgeN at hq
  rw [hfa, hfb, Bool.true_and, Bool.true_and] at hq
  have hka := hkd na hia.1
  have hkb := hkd nb hib.1
  rw [Int.toNat_natCast] at hka hkb
  by_cases hf1 : farN (L.getD 0 []).length na nb = 1
  case neg =>
    rw [decide_eq_false hf1] at hq
    (repeat' (first | (simp (maxSteps := 1000000) (disch := first | omega | (simp only [AM.DB, List.length_set, List.length_map]; first | done | omega)) only [AM.RB, Nat.reduceAdd, Nat.reduceMul, Nat.reduceEqDiff, reduceCtorEq, b72_G20, decide_eq_false hf1]) | refine AM.drawW_fine hp (by kernel_rfl) (by kernel_rfl) (by kernel_rfl) ?_ | refine AM.opW_tied (by kernel_rfl) ?_ | refine AM.opW_untied (by kernel_rfl) ?_))
    simpa using hq
  rw [decide_eq_true hf1, Bool.true_and] at hq
  have hC' : ((L.getD 0 []).length : Int) ≠ 0 := by omega
  have e1 := tdiv_nat na (L.getD 0 []).length
  have e2 := tdiv_nat nb (L.getD 0 []).length
  have w1 := wrap_nat (n := na / (L.getD 0 []).length) (Nat.le_trans (Nat.div_le_self _ _) (by omega))
  have w2 := wrap_nat (n := nb / (L.getD 0 []).length) (Nat.le_trans (Nat.div_le_self _ _) (by omega))
  unfold wayOf at hq
  generalize na / (L.getD 0 []).length = x1 at *
  generalize nb / (L.getD 0 []).length = x2 at *
  obtain ⟨ka, hka'⟩ : ∃ c, L.flatten.getD na 0 = c := ⟨_, rfl⟩
  obtain ⟨kb, hkb'⟩ : ∃ c, L.flatten.getD nb 0 = c := ⟨_, rfl⟩
  rw [hka'] at hka hq
  rw [hkb'] at hkb hq
  clear hfa hfb hfr hkd hfar hka' hkb'
  by_cases c1 : (nb : Int) = (na : Int) - 1
  · by_cases c2 : (x2 : Int) = x1
    · rw [if_pos ⟨c1, by omega⟩] at hq
      (repeat' (first | (simp (maxSteps := 1000000) (disch := first | omega | (simp only [AM.DB, List.length_set, List.length_map]; first | done | omega)) only [AM.RB, Nat.reduceAdd, Nat.reduceMul, Nat.reduceEqDiff, reduceCtorEq, b72_G20, decide_eq_true hf1, AM.wrap_i64, decide_eq_true c1]) | refine AM.drawW_fine hp (by kernel_rfl) (by kernel_rfl) (by kernel_rfl) ?_ | refine AM.opW_tied (by kernel_rfl) ?_ | refine AM.opW_untied (by kernel_rfl) ?_))
      refine refCols_w r G.rows ?_
      (repeat' (first | (simp (maxSteps := 1000000) (disch := first | omega | (simp only [AM.DB, List.length_set, List.length_map]; first | done | omega)) only [AM.RB, Nat.reduceAdd, Nat.reduceMul, Nat.reduceEqDiff, reduceCtorEq, b72_G20, e2, w2]) | refine AM.drawW_fine hp (by kernel_rfl) (by kernel_rfl) (by kernel_rfl) ?_ | refine AM.opW_tied (by kernel_rfl) ?_ | refine AM.opW_untied (by kernel_rfl) ?_))
      refine refCols_w r G.rows ?_
      (repeat' (first | (simp (maxSteps := 1000000) (disch := first | omega | (simp only [AM.DB, List.length_set, List.length_map]; first | done | omega)) only [AM.RB, Nat.reduceAdd, Nat.reduceMul, Nat.reduceEqDiff, reduceCtorEq, b72_G20, e1, w1, decide_eq_true c2]) | refine AM.drawW_fine hp (by kernel_rfl) (by kernel_rfl) (by kernel_rfl) ?_ | refine AM.opW_tied (by kernel_rfl) ?_ | refine AM.opW_untied (by kernel_rfl) ?_))
      obtain ⟨u, hu⟩ : ∃ x, decide ((ka.toNat : Int) = 46) = x := ⟨_, rfl⟩
      obtain ⟨v, hv⟩ : ∃ x, decide ((ka.toNat : Int) = 60) = x := ⟨_, rfl⟩
      obtain ⟨w, hw⟩ : ∃ x, decide ((kb.toNat : Int) = 62) = x := ⟨_, rfl⟩
      have hq' : Q (.bool ((u || v) && !w)) h := by rw [← hu, ← hv, ← hw]; exact hq
      refine refKind_w r G.rows hbd G.all na ?_
      rw [hka]
      cases u
      · cases v
        · (repeat' (first | (simp (maxSteps := 1000000) (disch := first | omega | (simp only [AM.DB, List.length_set, List.length_map]; first | done | omega)) only [AM.RB, Nat.reduceAdd, Nat.reduceMul, Nat.reduceEqDiff, reduceCtorEq, b72_G20, hu, hv]) | refine AM.drawW_fine hp (by kernel_rfl) (by kernel_rfl) (by kernel_rfl) ?_ | refine AM.opW_tied (by kernel_rfl) ?_ | refine AM.opW_untied (by kernel_rfl) ?_))
          exact hq'
        · (repeat' (first | (simp (maxSteps := 1000000) (disch := first | omega | (simp only [AM.DB, List.length_set, List.length_map]; first | done | omega)) only [AM.RB, Nat.reduceAdd, Nat.reduceMul, Nat.reduceEqDiff, reduceCtorEq, b72_G20, hu, hv]) | refine AM.drawW_fine hp (by kernel_rfl) (by kernel_rfl) (by kernel_rfl) ?_ | refine AM.opW_tied (by kernel_rfl) ?_ | refine AM.opW_untied (by kernel_rfl) ?_))
          refine refKind_w r G.rows hbd G.all nb ?_
          rw [hkb]
          (repeat' (first | (simp (maxSteps := 1000000) (disch := first | omega | (simp only [AM.DB, List.length_set, List.length_map]; first | done | omega)) only [AM.RB, Nat.reduceAdd, Nat.reduceMul, Nat.reduceEqDiff, reduceCtorEq, b72_G20, hw]) | refine AM.drawW_fine hp (by kernel_rfl) (by kernel_rfl) (by kernel_rfl) ?_ | refine AM.opW_tied (by kernel_rfl) ?_ | refine AM.opW_untied (by kernel_rfl) ?_))
          exact hq'
      · (repeat' (first | (simp (maxSteps := 1000000) (disch := first | omega | (simp only [AM.DB, List.length_set, List.length_map]; first | done | omega)) only [AM.RB, Nat.reduceAdd, Nat.reduceMul, Nat.reduceEqDiff, reduceCtorEq, b72_G20, hu]) | refine AM.drawW_fine hp (by kernel_rfl) (by kernel_rfl) (by kernel_rfl) ?_ | refine AM.opW_tied (by kernel_rfl) ?_ | refine AM.opW_untied (by kernel_rfl) ?_))
        refine refKind_w r G.rows hbd G.all nb ?_
        rw [hkb]
        (repeat' (first | (simp (maxSteps := 1000000) (disch := first | omega | (simp only [AM.DB, List.length_set, List.length_map]; first | done | omega)) only [AM.RB, Nat.reduceAdd, Nat.reduceMul, Nat.reduceEqDiff, reduceCtorEq, b72_G20, hw]) | refine AM.drawW_fine hp (by kernel_rfl) (by kernel_rfl) (by kernel_rfl) ?_ | refine AM.opW_tied (by kernel_rfl) ?_ | refine AM.opW_untied (by kernel_rfl) ?_))
        exact hq'
    · have cN : ¬ ((nb : Int) = (na : Int) - 1 ∧ x2 = x1) := fun q => c2 (by omega)
      (repeat' (first | (simp (maxSteps := 1000000) (disch := first | omega | (simp only [AM.DB, List.length_set, List.length_map]; first | done | omega)) only [AM.RB, Nat.reduceAdd, Nat.reduceMul, Nat.reduceEqDiff, reduceCtorEq, b72_G20, decide_eq_true hf1, AM.wrap_i64, decide_eq_true c1]) | refine AM.drawW_fine hp (by kernel_rfl) (by kernel_rfl) (by kernel_rfl) ?_ | refine AM.opW_tied (by kernel_rfl) ?_ | refine AM.opW_untied (by kernel_rfl) ?_))
      refine refCols_w r G.rows ?_
      (repeat' (first | (simp (maxSteps := 1000000) (disch := first | omega | (simp only [AM.DB, List.length_set, List.length_map]; first | done | omega)) only [AM.RB, Nat.reduceAdd, Nat.reduceMul, Nat.reduceEqDiff, reduceCtorEq, b72_G20, e2, w2]) | refine AM.drawW_fine hp (by kernel_rfl) (by kernel_rfl) (by kernel_rfl) ?_ | refine AM.opW_tied (by kernel_rfl) ?_ | refine AM.opW_untied (by kernel_rfl) ?_))
      refine refCols_w r G.rows ?_
      (repeat' (first | (simp (maxSteps := 1000000) (disch := first | omega | (simp only [AM.DB, List.length_set, List.length_map]; first | done | omega)) only [AM.RB, Nat.reduceAdd, Nat.reduceMul, Nat.reduceEqDiff, reduceCtorEq, b72_G20, e1, w1, decide_eq_false c2]) | refine AM.drawW_fine hp (by kernel_rfl) (by kernel_rfl) (by kernel_rfl) ?_ | refine AM.opW_tied (by kernel_rfl) ?_ | refine AM.opW_untied (by kernel_rfl) ?_))
      by_cases c3 : (x2 : Int) < x1
      · rw [if_neg (fun q => cN q), if_pos (by omega)] at hq
        (repeat' (first | (simp (maxSteps := 1000000) (disch := first | omega | (simp only [AM.DB, List.length_set, List.length_map]; first | done | omega)) only [AM.RB, Nat.reduceAdd, Nat.reduceMul, Nat.reduceEqDiff, reduceCtorEq, b72_G20, decide_eq_true hf1, AM.wrap_i64]) | refine AM.drawW_fine hp (by kernel_rfl) (by kernel_rfl) (by kernel_rfl) ?_ | refine AM.opW_tied (by kernel_rfl) ?_ | refine AM.opW_untied (by kernel_rfl) ?_))
        refine refCols_w r G.rows ?_
        (repeat' (first | (simp (maxSteps := 1000000) (disch := first | omega | (simp only [AM.DB, List.length_set, List.length_map]; first | done | omega)) only [AM.RB, Nat.reduceAdd, Nat.reduceMul, Nat.reduceEqDiff, reduceCtorEq, b72_G20, e2, w2]) | refine AM.drawW_fine hp (by kernel_rfl) (by kernel_rfl) (by kernel_rfl) ?_ | refine AM.opW_tied (by kernel_rfl) ?_ | refine AM.opW_untied (by kernel_rfl) ?_))
        refine refCols_w r G.rows ?_
        (repeat' (first | (simp (maxSteps := 1000000) (disch := first | omega | (simp only [AM.DB, List.length_set, List.length_map]; first | done | omega)) only [AM.RB, Nat.reduceAdd, Nat.reduceMul, Nat.reduceEqDiff, reduceCtorEq, b72_G20, e1, w1, decide_eq_true c3]) | refine AM.drawW_fine hp (by kernel_rfl) (by kernel_rfl) (by kernel_rfl) ?_ | refine AM.opW_tied (by kernel_rfl) ?_ | refine AM.opW_untied (by kernel_rfl) ?_))
        obtain ⟨u, hu⟩ : ∃ x, decide ((ka.toNat : Int) = 46) = x := ⟨_, rfl⟩
        obtain ⟨v, hv⟩ : ∃ x, decide ((ka.toNat : Int) = 94) = x := ⟨_, rfl⟩
        obtain ⟨w, hw⟩ : ∃ x, decide ((kb.toNat : Int) = 118) = x := ⟨_, rfl⟩
        have hq' : Q (.bool ((u || v) && !w)) h := by rw [← hu, ← hv, ← hw]; exact hq
        refine refKind_w r G.rows hbd G.all na ?_
        rw [hka]
        cases u
        · cases v
          · (repeat' (first | (simp (maxSteps := 1000000) (disch := first | omega | (simp only [AM.DB, List.length_set, List.length_map]; first | done | omega)) only [AM.RB, Nat.reduceAdd, Nat.reduceMul, Nat.reduceEqDiff, reduceCtorEq, b72_G20, hu, hv]) | refine AM.drawW_fine hp (by kernel_rfl) (by kernel_rfl) (by kernel_rfl) ?_ | refine AM.opW_tied (by kernel_rfl) ?_ | refine AM.opW_untied (by kernel_rfl) ?_))
            exact hq'
          · (repeat' (first | (simp (maxSteps := 1000000) (disch := first | omega | (simp only [AM.DB, List.length_set, List.length_map]; first | done | omega)) only [AM.RB, Nat.reduceAdd, Nat.reduceMul, Nat.reduceEqDiff, reduceCtorEq, b72_G20, hu, hv]) | refine AM.drawW_fine hp (by kernel_rfl) (by kernel_rfl) (by kernel_rfl) ?_ | refine AM.opW_tied (by kernel_rfl) ?_ | refine AM.opW_untied (by kernel_rfl) ?_))
            refine refKind_w r G.rows hbd G.all nb ?_
            rw [hkb]
            (repeat' (first | (simp (maxSteps := 1000000) (disch := first | omega | (simp only [AM.DB, List.length_set, List.length_map]; first | done | omega)) only [AM.RB, Nat.reduceAdd, Nat.reduceMul, Nat.reduceEqDiff, reduceCtorEq, b72_G20, hw]) | refine AM.drawW_fine hp (by kernel_rfl) (by kernel_rfl) (by kernel_rfl) ?_ | refine AM.opW_tied (by kernel_rfl) ?_ | refine AM.opW_untied (by kernel_rfl) ?_))
            exact hq'
        · (repeat' (first | (simp (maxSteps := 1000000) (disch := first | omega | (simp only [AM.DB, List.length_set, List.length_map]; first | done | omega)) only [AM.RB, Nat.reduceAdd, Nat.reduceMul, Nat.reduceEqDiff, reduceCtorEq, b72_G20, hu]) | refine AM.drawW_fine hp (by kernel_rfl) (by kernel_rfl) (by kernel_rfl) ?_ | refine AM.opW_tied (by kernel_rfl) ?_ | refine AM.opW_untied (by kernel_rfl) ?_))
          refine refKind_w r G.rows hbd G.all nb ?_
          rw [hkb]
          (repeat' (first | (simp (maxSteps := 1000000) (disch := first | omega | (simp only [AM.DB, List.length_set, List.length_map]; first | done | omega)) only [AM.RB, Nat.reduceAdd, Nat.reduceMul, Nat.reduceEqDiff, reduceCtorEq, b72_G20, hw]) | refine AM.drawW_fine hp (by kernel_rfl) (by kernel_rfl) (by kernel_rfl) ?_ | refine AM.opW_tied (by kernel_rfl) ?_ | refine AM.opW_untied (by kernel_rfl) ?_))
          exact hq'
      · (repeat' (first | (simp (maxSteps := 1000000) (disch := first | omega | (simp only [AM.DB, List.length_set, List.length_map]; first | done | omega)) only [AM.RB, Nat.reduceAdd, Nat.reduceMul, Nat.reduceEqDiff, reduceCtorEq, b72_G20, decide_eq_true hf1, AM.wrap_i64]) | refine AM.drawW_fine hp (by kernel_rfl) (by kernel_rfl) (by kernel_rfl) ?_ | refine AM.opW_tied (by kernel_rfl) ?_ | refine AM.opW_untied (by kernel_rfl) ?_))
        refine refCols_w r G.rows ?_
        (repeat' (first | (simp (maxSteps := 1000000) (disch := first | omega | (simp only [AM.DB, List.length_set, List.length_map]; first | done | omega)) only [AM.RB, Nat.reduceAdd, Nat.reduceMul, Nat.reduceEqDiff, reduceCtorEq, b72_G20, e2, w2]) | refine AM.drawW_fine hp (by kernel_rfl) (by kernel_rfl) (by kernel_rfl) ?_ | refine AM.opW_tied (by kernel_rfl) ?_ | refine AM.opW_untied (by kernel_rfl) ?_))
        refine refCols_w r G.rows ?_
        (repeat' (first | (simp (maxSteps := 1000000) (disch := first | omega | (simp only [AM.DB, List.length_set, List.length_map]; first | done | omega)) only [AM.RB, Nat.reduceAdd, Nat.reduceMul, Nat.reduceEqDiff, reduceCtorEq, b72_G20, e1, w1, decide_eq_false c3]) | refine AM.drawW_fine hp (by kernel_rfl) (by kernel_rfl) (by kernel_rfl) ?_ | refine AM.opW_tied (by kernel_rfl) ?_ | refine AM.opW_untied (by kernel_rfl) ?_))
        refine refCols_w r G.rows ?_
        (repeat' (first | (simp (maxSteps := 1000000) (disch := first | omega | (simp only [AM.DB, List.length_set, List.length_map]; first | done | omega)) only [AM.RB, Nat.reduceAdd, Nat.reduceMul, Nat.reduceEqDiff, reduceCtorEq, b72_G20, e2, w2]) | refine AM.drawW_fine hp (by kernel_rfl) (by kernel_rfl) (by kernel_rfl) ?_ | refine AM.opW_tied (by kernel_rfl) ?_ | refine AM.opW_untied (by kernel_rfl) ?_))
        refine refCols_w r G.rows ?_
        by_cases c4 : (x1 : Int) < x2
        · rw [if_neg (fun q => cN q), if_neg (by omega), if_pos (by omega)] at hq
          (repeat' (first | (simp (maxSteps := 1000000) (disch := first | omega | (simp only [AM.DB, List.length_set, List.length_map]; first | done | omega)) only [AM.RB, Nat.reduceAdd, Nat.reduceMul, Nat.reduceEqDiff, reduceCtorEq, b72_G20, e1, w1, decide_eq_true c4]) | refine AM.drawW_fine hp (by kernel_rfl) (by kernel_rfl) (by kernel_rfl) ?_ | refine AM.opW_tied (by kernel_rfl) ?_ | refine AM.opW_untied (by kernel_rfl) ?_))
          obtain ⟨u, hu⟩ : ∃ x, decide ((ka.toNat : Int) = 46) = x := ⟨_, rfl⟩
          obtain ⟨v, hv⟩ : ∃ x, decide ((ka.toNat : Int) = 118) = x := ⟨_, rfl⟩
          obtain ⟨w, hw⟩ : ∃ x, decide ((kb.toNat : Int) = 94) = x := ⟨_, rfl⟩
          have hq' : Q (.bool ((u || v) && !w)) h := by rw [← hu, ← hv, ← hw]; exact hq
          refine refKind_w r G.rows hbd G.all na ?_
          rw [hka]
          cases u
          · cases v
            · (repeat' (first | (simp (maxSteps := 1000000) (disch := first | omega | (simp only [AM.DB, List.length_set, List.length_map]; first | done | omega)) only [AM.RB, Nat.reduceAdd, Nat.reduceMul, Nat.reduceEqDiff, reduceCtorEq, b72_G20, hu, hv]) | refine AM.drawW_fine hp (by kernel_rfl) (by kernel_rfl) (by kernel_rfl) ?_ | refine AM.opW_tied (by kernel_rfl) ?_ | refine AM.opW_untied (by kernel_rfl) ?_))
              exact hq'
            · (repeat' (first | (simp (maxSteps := 1000000) (disch := first | omega | (simp only [AM.DB, List.length_set, List.length_map]; first | done | omega)) only [AM.RB, Nat.reduceAdd, Nat.reduceMul, Nat.reduceEqDiff, reduceCtorEq, b72_G20, hu, hv]) | refine AM.drawW_fine hp (by kernel_rfl) (by kernel_rfl) (by kernel_rfl) ?_ | refine AM.opW_tied (by kernel_rfl) ?_ | refine AM.opW_untied (by kernel_rfl) ?_))
              refine refKind_w r G.rows hbd G.all nb ?_
              rw [hkb]
              (repeat' (first | (simp (maxSteps := 1000000) (disch := first | omega | (simp only [AM.DB, List.length_set, List.length_map]; first | done | omega)) only [AM.RB, Nat.reduceAdd, Nat.reduceMul, Nat.reduceEqDiff, reduceCtorEq, b72_G20, hw]) | refine AM.drawW_fine hp (by kernel_rfl) (by kernel_rfl) (by kernel_rfl) ?_ | refine AM.opW_tied (by kernel_rfl) ?_ | refine AM.opW_untied (by kernel_rfl) ?_))
              exact hq'
          · (repeat' (first | (simp (maxSteps := 1000000) (disch := first | omega | (simp only [AM.DB, List.length_set, List.length_map]; first | done | omega)) only [AM.RB, Nat.reduceAdd, Nat.reduceMul, Nat.reduceEqDiff, reduceCtorEq, b72_G20, hu]) | refine AM.drawW_fine hp (by kernel_rfl) (by kernel_rfl) (by kernel_rfl) ?_ | refine AM.opW_tied (by kernel_rfl) ?_ | refine AM.opW_untied (by kernel_rfl) ?_))
            refine refKind_w r G.rows hbd G.all nb ?_
            rw [hkb]
            (repeat' (first | (simp (maxSteps := 1000000) (disch := first | omega | (simp only [AM.DB, List.length_set, List.length_map]; first | done | omega)) only [AM.RB, Nat.reduceAdd, Nat.reduceMul, Nat.reduceEqDiff, reduceCtorEq, b72_G20, hw]) | refine AM.drawW_fine hp (by kernel_rfl) (by kernel_rfl) (by kernel_rfl) ?_ | refine AM.opW_tied (by kernel_rfl) ?_ | refine AM.opW_untied (by kernel_rfl) ?_))
            exact hq'
        · rw [if_neg (fun q => cN q), if_neg (by omega), if_neg (by omega)] at hq
          (repeat' (first | (simp (maxSteps := 1000000) (disch := first | omega | (simp only [AM.DB, List.length_set, List.length_map]; first | done | omega)) only [AM.RB, Nat.reduceAdd, Nat.reduceMul, Nat.reduceEqDiff, reduceCtorEq, b72_G20, e1, w1, decide_eq_false c4]) | refine AM.drawW_fine hp (by kernel_rfl) (by kernel_rfl) (by kernel_rfl) ?_ | refine AM.opW_tied (by kernel_rfl) ?_ | refine AM.opW_untied (by kernel_rfl) ?_))
          obtain ⟨u, hu⟩ : ∃ x, decide ((ka.toNat : Int) = 46) = x := ⟨_, rfl⟩
          obtain ⟨v, hv⟩ : ∃ x, decide ((ka.toNat : Int) = 62) = x := ⟨_, rfl⟩
          obtain ⟨w, hw⟩ : ∃ x, decide ((kb.toNat : Int) = 60) = x := ⟨_, rfl⟩
          have hq' : Q (.bool ((u || v) && !w)) h := by rw [← hu, ← hv, ← hw]; exact hq
          refine refKind_w r G.rows hbd G.all na ?_
          rw [hka]
          cases u
          · cases v
            · (repeat' (first | (simp (maxSteps := 1000000) (disch := first | omega | (simp only [AM.DB, List.length_set, List.length_map]; first | done | omega)) only [AM.RB, Nat.reduceAdd, Nat.reduceMul, Nat.reduceEqDiff, reduceCtorEq, b72_G20, hu, hv]) | refine AM.drawW_fine hp (by kernel_rfl) (by kernel_rfl) (by kernel_rfl) ?_ | refine AM.opW_tied (by kernel_rfl) ?_ | refine AM.opW_untied (by kernel_rfl) ?_))
              exact hq'
            · (repeat' (first | (simp (maxSteps := 1000000) (disch := first | omega | (simp only [AM.DB, List.length_set, List.length_map]; first | done | omega)) only [AM.RB, Nat.reduceAdd, Nat.reduceMul, Nat.reduceEqDiff, reduceCtorEq, b72_G20, hu, hv]) | refine AM.drawW_fine hp (by kernel_rfl) (by kernel_rfl) (by kernel_rfl) ?_ | refine AM.opW_tied (by kernel_rfl) ?_ | refine AM.opW_untied (by kernel_rfl) ?_))
              refine refKind_w r G.rows hbd G.all nb ?_
              rw [hkb]
              (repeat' (first | (simp (maxSteps := 1000000) (disch := first | omega | (simp only [AM.DB, List.length_set, List.length_map]; first | done | omega)) only [AM.RB, Nat.reduceAdd, Nat.reduceMul, Nat.reduceEqDiff, reduceCtorEq, b72_G20, hw]) | refine AM.drawW_fine hp (by kernel_rfl) (by kernel_rfl) (by kernel_rfl) ?_ | refine AM.opW_tied (by kernel_rfl) ?_ | refine AM.opW_untied (by kernel_rfl) ?_))
              exact hq'
          · (repeat' (first | (simp (maxSteps := 1000000) (disch := first | omega | (simp only [AM.DB, List.length_set, List.length_map]; first | done | omega)) only [AM.RB, Nat.reduceAdd, Nat.reduceMul, Nat.reduceEqDiff, reduceCtorEq, b72_G20, hu]) | refine AM.drawW_fine hp (by kernel_rfl) (by kernel_rfl) (by kernel_rfl) ?_ | refine AM.opW_tied (by kernel_rfl) ?_ | refine AM.opW_untied (by kernel_rfl) ?_))
            refine refKind_w r G.rows hbd G.all nb ?_
            rw [hkb]
            (repeat' (first | (simp (maxSteps := 1000000) (disch := first | omega | (simp only [AM.DB, List.length_set, List.length_map]; first | done | omega)) only [AM.RB, Nat.reduceAdd, Nat.reduceMul, Nat.reduceEqDiff, reduceCtorEq, b72_G20, hw]) | refine AM.drawW_fine hp (by kernel_rfl) (by kernel_rfl) (by kernel_rfl) ?_ | refine AM.opW_tied (by kernel_rfl) ?_ | refine AM.opW_untied (by kernel_rfl) ?_))
            exact hq'
  · have cN : ¬ ((nb : Int) = (na : Int) - 1 ∧ x2 = x1) := fun q => c1 q.1
    (repeat' (first | (simp (maxSteps := 1000000) (disch := first | omega | (simp only [AM.DB, List.length_set, List.length_map]; first | done | omega)) only [AM.RB, Nat.reduceAdd, Nat.reduceMul, Nat.reduceEqDiff, reduceCtorEq, b72_G20, decide_eq_true hf1, AM.wrap_i64, decide_eq_false c1]) | refine AM.drawW_fine hp (by kernel_rfl) (by kernel_rfl) (by kernel_rfl) ?_ | refine AM.opW_tied (by kernel_rfl) ?_ | refine AM.opW_untied (by kernel_rfl) ?_))
    by_cases c3 : (x2 : Int) < x1
    · rw [if_neg (fun q => cN q), if_pos (by omega)] at hq
      (repeat' (first | (simp (maxSteps := 1000000) (disch := first | omega | (simp only [AM.DB, List.length_set, List.length_map]; first | done | omega)) only [AM.RB, Nat.reduceAdd, Nat.reduceMul, Nat.reduceEqDiff, reduceCtorEq, b72_G20, decide_eq_true hf1, AM.wrap_i64]) | refine AM.drawW_fine hp (by kernel_rfl) (by kernel_rfl) (by kernel_rfl) ?_ | refine AM.opW_tied (by kernel_rfl) ?_ | refine AM.opW_untied (by kernel_rfl) ?_))
      refine refCols_w r G.rows ?_
      (repeat' (first | (simp (maxSteps := 1000000) (disch := first | omega | (simp only [AM.DB, List.length_set, List.length_map]; first | done | omega)) only [AM.RB, Nat.reduceAdd, Nat.reduceMul, Nat.reduceEqDiff, reduceCtorEq, b72_G20, e2, w2]) | refine AM.drawW_fine hp (by kernel_rfl) (by kernel_rfl) (by kernel_rfl) ?_ | refine AM.opW_tied (by kernel_rfl) ?_ | refine AM.opW_untied (by kernel_rfl) ?_))
      refine refCols_w r G.rows ?_
      (repeat' (first | (simp (maxSteps := 1000000) (disch := first | omega | (simp only [AM.DB, List.length_set, List.length_map]; first | done | omega)) only [AM.RB, Nat.reduceAdd, Nat.reduceMul, Nat.reduceEqDiff, reduceCtorEq, b72_G20, e1, w1, decide_eq_true c3]) | refine AM.drawW_fine hp (by kernel_rfl) (by kernel_rfl) (by kernel_rfl) ?_ | refine AM.opW_tied (by kernel_rfl) ?_ | refine AM.opW_untied (by kernel_rfl) ?_))
      obtain ⟨u, hu⟩ : ∃ x, decide ((ka.toNat : Int) = 46) = x := ⟨_, rfl⟩
      obtain ⟨v, hv⟩ : ∃ x, decide ((ka.toNat : Int) = 94) = x := ⟨_, rfl⟩
      obtain ⟨w, hw⟩ : ∃ x, decide ((kb.toNat : Int) = 118) = x := ⟨_, rfl⟩
      have hq' : Q (.bool ((u || v) && !w)) h := by rw [← hu, ← hv, ← hw]; exact hq
      refine refKind_w r G.rows hbd G.all na ?_
      rw [hka]
      cases u
      · cases v
        · (repeat' (first | (simp (maxSteps := 1000000) (disch := first | omega | (simp only [AM.DB, List.length_set, List.length_map]; first | done | omega)) only [AM.RB, Nat.reduceAdd, Nat.reduceMul, Nat.reduceEqDiff, reduceCtorEq, b72_G20, hu, hv]) | refine AM.drawW_fine hp (by kernel_rfl) (by kernel_rfl) (by kernel_rfl) ?_ | refine AM.opW_tied (by kernel_rfl) ?_ | refine AM.opW_untied (by kernel_rfl) ?_))
          exact hq'
        · (repeat' (first | (simp (maxSteps := 1000000) (disch := first | omega | (simp only [AM.DB, List.length_set, List.length_map]; first | done | omega)) only [AM.RB, Nat.reduceAdd, Nat.reduceMul, Nat.reduceEqDiff, reduceCtorEq, b72_G20, hu, hv]) | refine AM.drawW_fine hp (by kernel_rfl) (by kernel_rfl) (by kernel_rfl) ?_ | refine AM.opW_tied (by kernel_rfl) ?_ | refine AM.opW_untied (by kernel_rfl) ?_))
          refine refKind_w r G.rows hbd G.all nb ?_
          rw [hkb]
          (repeat' (first | (simp (maxSteps := 1000000) (disch := first | omega | (simp only [AM.DB, List.length_set, List.length_map]; first | done | omega)) only [AM.RB, Nat.reduceAdd, Nat.reduceMul, Nat.reduceEqDiff, reduceCtorEq, b72_G20, hw]) | refine AM.drawW_fine hp (by kernel_rfl) (by kernel_rfl) (by kernel_rfl) ?_ | refine AM.opW_tied (by kernel_rfl) ?_ | refine AM.opW_untied (by kernel_rfl) ?_))
          exact hq'
      · (repeat' (first | (simp (maxSteps := 1000000) (disch := first | omega | (simp only [AM.DB, List.length_set, List.length_map]; first | done | omega)) only [AM.RB, Nat.reduceAdd, Nat.reduceMul, Nat.reduceEqDiff, reduceCtorEq, b72_G20, hu]) | refine AM.drawW_fine hp (by kernel_rfl) (by kernel_rfl) (by kernel_rfl) ?_ | refine AM.opW_tied (by kernel_rfl) ?_ | refine AM.opW_untied (by kernel_rfl) ?_))
        refine refKind_w r G.rows hbd G.all nb ?_
        rw [hkb]
        (repeat' (first | (simp (maxSteps := 1000000) (disch := first | omega | (simp only [AM.DB, List.length_set, List.length_map]; first | done | omega)) only [AM.RB, Nat.reduceAdd, Nat.reduceMul, Nat.reduceEqDiff, reduceCtorEq, b72_G20, hw]) | refine AM.drawW_fine hp (by kernel_rfl) (by kernel_rfl) (by kernel_rfl) ?_ | refine AM.opW_tied (by kernel_rfl) ?_ | refine AM.opW_untied (by kernel_rfl) ?_))
        exact hq'
    · (repeat' (first | (simp (maxSteps := 1000000) (disch := first | omega | (simp only [AM.DB, List.length_set, List.length_map]; first | done | omega)) only [AM.RB, Nat.reduceAdd, Nat.reduceMul, Nat.reduceEqDiff, reduceCtorEq, b72_G20, decide_eq_true hf1, AM.wrap_i64]) | refine AM.drawW_fine hp (by kernel_rfl) (by kernel_rfl) (by kernel_rfl) ?_ | refine AM.opW_tied (by kernel_rfl) ?_ | refine AM.opW_untied (by kernel_rfl) ?_))
      refine refCols_w r G.rows ?_
      (repeat' (first | (simp (maxSteps := 1000000) (disch := first | omega | (simp only [AM.DB, List.length_set, List.length_map]; first | done | omega)) only [AM.RB, Nat.reduceAdd, Nat.reduceMul, Nat.reduceEqDiff, reduceCtorEq, b72_G20, e2, w2]) | refine AM.drawW_fine hp (by kernel_rfl) (by kernel_rfl) (by kernel_rfl) ?_ | refine AM.opW_tied (by kernel_rfl) ?_ | refine AM.opW_untied (by kernel_rfl) ?_))
      refine refCols_w r G.rows ?_
      (repeat' (first | (simp (maxSteps := 1000000) (disch := first | omega | (simp only [AM.DB, List.length_set, List.length_map]; first | done | omega)) only [AM.RB, Nat.reduceAdd, Nat.reduceMul, Nat.reduceEqDiff, reduceCtorEq, b72_G20, e1, w1, decide_eq_false c3]) | refine AM.drawW_fine hp (by kernel_rfl) (by kernel_rfl) (by kernel_rfl) ?_ | refine AM.opW_tied (by kernel_rfl) ?_ | refine AM.opW_untied (by kernel_rfl) ?_))
      refine refCols_w r G.rows ?_
      (repeat' (first | (simp (maxSteps := 1000000) (disch := first | omega | (simp only [AM.DB, List.length_set, List.length_map]; first | done | omega)) only [AM.RB, Nat.reduceAdd, Nat.reduceMul, Nat.reduceEqDiff, reduceCtorEq, b72_G20, e2, w2]) | refine AM.drawW_fine hp (by kernel_rfl) (by kernel_rfl) (by kernel_rfl) ?_ | refine AM.opW_tied (by kernel_rfl) ?_ | refine AM.opW_untied (by kernel_rfl) ?_))
      refine refCols_w r G.rows ?_
      by_cases c4 : (x1 : Int) < x2
      · rw [if_neg (fun q => cN q), if_neg (by omega), if_pos (by omega)] at hq
        (repeat' (first | (simp (maxSteps := 1000000) (disch := first | omega | (simp only [AM.DB, List.length_set, List.length_map]; first | done | omega)) only [AM.RB, Nat.reduceAdd, Nat.reduceMul, Nat.reduceEqDiff, reduceCtorEq, b72_G20, e1, w1, decide_eq_true c4]) | refine AM.drawW_fine hp (by kernel_rfl) (by kernel_rfl) (by kernel_rfl) ?_ | refine AM.opW_tied (by kernel_rfl) ?_ | refine AM.opW_untied (by kernel_rfl) ?_))
        obtain ⟨u, hu⟩ : ∃ x, decide ((ka.toNat : Int) = 46) = x := ⟨_, rfl⟩
        obtain ⟨v, hv⟩ : ∃ x, decide ((ka.toNat : Int) = 118) = x := ⟨_, rfl⟩
        obtain ⟨w, hw⟩ : ∃ x, decide ((kb.toNat : Int) = 94) = x := ⟨_, rfl⟩
        have hq' : Q (.bool ((u || v) && !w)) h := by rw [← hu, ← hv, ← hw]; exact hq
        refine refKind_w r G.rows hbd G.all na ?_
        rw [hka]
        cases u
        · cases v
          · (repeat' (first | (simp (maxSteps := 1000000) (disch := first | omega | (simp only [AM.DB, List.length_set, List.length_map]; first | done | omega)) only [AM.RB, Nat.reduceAdd, Nat.reduceMul, Nat.reduceEqDiff, reduceCtorEq, b72_G20, hu, hv]) | refine AM.drawW_fine hp (by kernel_rfl) (by kernel_rfl) (by kernel_rfl) ?_ | refine AM.opW_tied (by kernel_rfl) ?_ | refine AM.opW_untied (by kernel_rfl) ?_))
            exact hq'
          · (repeat' (first | (simp (maxSteps := 1000000) (disch := first | omega | (simp only [AM.DB, List.length_set, List.length_map]; first | done | omega)) only [AM.RB, Nat.reduceAdd, Nat.reduceMul, Nat.reduceEqDiff, reduceCtorEq, b72_G20, hu, hv]) | refine AM.drawW_fine hp (by kernel_rfl) (by kernel_rfl) (by kernel_rfl) ?_ | refine AM.opW_tied (by kernel_rfl) ?_ | refine AM.opW_untied (by kernel_rfl) ?_))
            refine refKind_w r G.rows hbd G.all nb ?_
            rw [hkb]
            (repeat' (first | (simp (maxSteps := 1000000) (disch := first | omega | (simp only [AM.DB, List.length_set, List.length_map]; first | done | omega)) only [AM.RB, Nat.reduceAdd, Nat.reduceMul, Nat.reduceEqDiff, reduceCtorEq, b72_G20, hw]) | refine AM.drawW_fine hp (by kernel_rfl) (by kernel_rfl) (by kernel_rfl) ?_ | refine AM.opW_tied (by kernel_rfl) ?_ | refine AM.opW_untied (by kernel_rfl) ?_))
            exact hq'
        · (repeat' (first | (simp (maxSteps := 1000000) (disch := first | omega | (simp only [AM.DB, List.length_set, List.length_map]; first | done | omega)) only [AM.RB, Nat.reduceAdd, Nat.reduceMul, Nat.reduceEqDiff, reduceCtorEq, b72_G20, hu]) | refine AM.drawW_fine hp (by kernel_rfl) (by kernel_rfl) (by kernel_rfl) ?_ | refine AM.opW_tied (by kernel_rfl) ?_ | refine AM.opW_untied (by kernel_rfl) ?_))
          refine refKind_w r G.rows hbd G.all nb ?_
          rw [hkb]
          (repeat' (first | (simp (maxSteps := 1000000) (disch := first | omega | (simp only [AM.DB, List.length_set, List.length_map]; first | done | omega)) only [AM.RB, Nat.reduceAdd, Nat.reduceMul, Nat.reduceEqDiff, reduceCtorEq, b72_G20, hw]) | refine AM.drawW_fine hp (by kernel_rfl) (by kernel_rfl) (by kernel_rfl) ?_ | refine AM.opW_tied (by kernel_rfl) ?_ | refine AM.opW_untied (by kernel_rfl) ?_))
          exact hq'
      · rw [if_neg (fun q => cN q), if_neg (by omega), if_neg (by omega)] at hq
        (repeat' (first | (simp (maxSteps := 1000000) (disch := first | omega | (simp only [AM.DB, List.length_set, List.length_map]; first | done | omega)) only [AM.RB, Nat.reduceAdd, Nat.reduceMul, Nat.reduceEqDiff, reduceCtorEq, b72_G20, e1, w1, decide_eq_false c4]) | refine AM.drawW_fine hp (by kernel_rfl) (by kernel_rfl) (by kernel_rfl) ?_ | refine AM.opW_tied (by kernel_rfl) ?_ | refine AM.opW_untied (by kernel_rfl) ?_))
        obtain ⟨u, hu⟩ : ∃ x, decide ((ka.toNat : Int) = 46) = x := ⟨_, rfl⟩
        obtain ⟨v, hv⟩ : ∃ x, decide ((ka.toNat : Int) = 62) = x := ⟨_, rfl⟩
        obtain ⟨w, hw⟩ : ∃ x, decide ((kb.toNat : Int) = 60) = x := ⟨_, rfl⟩
        have hq' : Q (.bool ((u || v) && !w)) h := by rw [← hu, ← hv, ← hw]; exact hq
        refine refKind_w r G.rows hbd G.all na ?_
        rw [hka]
        cases u
        · cases v
          · (repeat' (first | (simp (maxSteps := 1000000) (disch := first | omega | (simp only [AM.DB, List.length_set, List.length_map]; first | done | omega)) only [AM.RB, Nat.reduceAdd, Nat.reduceMul, Nat.reduceEqDiff, reduceCtorEq, b72_G20, hu, hv]) | refine AM.drawW_fine hp (by kernel_rfl) (by kernel_rfl) (by kernel_rfl) ?_ | refine AM.opW_tied (by kernel_rfl) ?_ | refine AM.opW_untied (by kernel_rfl) ?_))
            exact hq'
          · (repeat' (first | (simp (maxSteps := 1000000) (disch := first | omega | (simp only [AM.DB, List.length_set, List.length_map]; first | done | omega)) only [AM.RB, Nat.reduceAdd, Nat.reduceMul, Nat.reduceEqDiff, reduceCtorEq, b72_G20, hu, hv]) | refine AM.drawW_fine hp (by kernel_rfl) (by kernel_rfl) (by kernel_rfl) ?_ | refine AM.opW_tied (by kernel_rfl) ?_ | refine AM.opW_untied (by kernel_rfl) ?_))
            refine refKind_w r G.rows hbd G.all nb ?_
            rw [hkb]
            (repeat' (first | (simp (maxSteps := 1000000) (disch := first | omega | (simp only [AM.DB, List.length_set, List.length_map]; first | done | omega)) only [AM.RB, Nat.reduceAdd, Nat.reduceMul, Nat.reduceEqDiff, reduceCtorEq, b72_G20, hw]) | refine AM.drawW_fine hp (by kernel_rfl) (by kernel_rfl) (by kernel_rfl) ?_ | refine AM.opW_tied (by kernel_rfl) ?_ | refine AM.opW_untied (by kernel_rfl) ?_))
            exact hq'
        · (repeat' (first | (simp (maxSteps := 1000000) (disch := first | omega | (simp only [AM.DB, List.length_set, List.length_map]; first | done | omega)) only [AM.RB, Nat.reduceAdd, Nat.reduceMul, Nat.reduceEqDiff, reduceCtorEq, b72_G20, hu]) | refine AM.drawW_fine hp (by kernel_rfl) (by kernel_rfl) (by kernel_rfl) ?_ | refine AM.opW_tied (by kernel_rfl) ?_ | refine AM.opW_untied (by kernel_rfl) ?_))
          refine refKind_w r G.rows hbd G.all nb ?_
          rw [hkb]
          (repeat' (first | (simp (maxSteps := 1000000) (disch := first | omega | (simp only [AM.DB, List.length_set, List.length_map]; first | done | omega)) only [AM.RB, Nat.reduceAdd, Nat.reduceMul, Nat.reduceEqDiff, reduceCtorEq, b72_G20, hw]) | refine AM.drawW_fine hp (by kernel_rfl) (by kernel_rfl) (by kernel_rfl) ?_ | refine AM.opW_tied (by kernel_rfl) ?_ | refine AM.opW_untied (by kernel_rfl) ?_))
          exact hq'

/-! ### Lists of the document's -/
def nxt (L : List (List UInt8)) (a : Int) (n : Nat) : List Int := ((List.range n).filter fun (b : Nat) => edgeL L a b).map fun (b : Nat) => (b : Int)
theorem nxt_succ (L : List (List UInt8)) (a : Int) (n : Nat) : nxt L a (n + 1) = nxt L a n ++ if edgeL L a n = true then [(n : Int)] else [] := by
  unfold nxt
  rw [List.range_succ, List.filter_append, List.map_append, List.filter_cons]
  congr 1
  split <;> simp
theorem nxt_len (L : List (List UInt8)) (a : Int) (n : Nat) : (nxt L a n).length ≤ n := by
  unfold nxt; rw [List.length_map]; exact Nat.le_trans (List.length_filter_le _ _) (by simp)
theorem nxt_eq {L : List (List UInt8)} (f : Fit L) (a : Int) : nxt L a L.flatten.length = nextL L a := by
  rw [nextL_eq f]
  unfold nxt
  split
  · rename_i h
    congr 1
    apply List.filter_congr
    intro b hb
    have := List.mem_range.1 hb
    unfold edgeL
    rw [decide_eq_true ⟨h, by omega, by omega⟩, Bool.true_and, Int.toNat_natCast]
  · rename_i h
    rw [List.map_eq_nil_iff, List.filter_eq_nil_iff]
    intro b _
    unfold edgeL
    rw [decide_eq_false (fun q => h q.1)]; simp
theorem edge_mem {L : List (List UInt8)} (f : Fit L) (a b : Int) : decide (b ∈ nextL L a) = edgeL L a b := by
  rw [← nxt_eq f]
  unfold nxt
  cases he : edgeL L a b with
  | true =>
    have h := he
    unfold edgeL at h
    rw [Bool.and_eq_true, decide_eq_true_eq] at h
    obtain ⟨⟨_, h1, h2⟩, _⟩ := h
    obtain ⟨n, rfl⟩ := Int.eq_ofNat_of_zero_le h1
    exact decide_eq_true (List.mem_map.2 ⟨n, List.mem_filter.2 ⟨List.mem_range.2 (by omega), he⟩, rfl⟩)
  | false =>
    refine decide_eq_false fun q => ?_
    obtain ⟨n, hn, rfl⟩ := List.mem_map.1 q
    rw [(List.mem_filter.1 hn).2] at he; cases he


end Go.Proofs.YtbaohngkapmhlaaDoor

namespace Go.Proofs.YtbaohngkapmhlaaDoor
open Go.AM

theorem Mt.start {h : AHeap} {p : Nat} {kv : Value} {L : List (List UInt8)} (m : Mp h p kv L.length (L.getD 0 []).length L.flatten tl0) : Mt h p L (fun id => id = p ∨ idOf kv id) :=
  ⟨kv, fun id q => .inr q, .inl rfl, fun id q => q.elim (fun e => by rw [e]; exact AM.get_some_lt m.1) (fun q => m.2.1.lt q), .inl m⟩
theorem nextL_len {L : List (List UInt8)} (f : Fit L) (i : Int) : (nextL L i).length ≤ 1024 := by rw [← nxt_eq f]; exact Nat.le_trans (nxt_len _ _ _) f.k1024
/-- What the laws keep of a map between calls. -/
structure Keep (h0 h : AHeap) (p : Nat) (L : List (List UInt8)) (S : Nat → Prop) : Prop where
  mt : Mt h p L S
  low : h.low = h0.low
  next : h0.next ≤ h.next
  ways : h.get GW = some (.cells waysC 166 false)

end Go.Proofs.YtbaohngkapmhlaaDoor

namespace Go.Proofs.YtbaohngkapmhlaaDoor
open Go.AM

/-! ### Laws of edges -/
/-- What an edge tells. -/
theorem edgeL_facts {L : List (List UInt8)} {a b : Int} (h : edgeL L a b = true) : ((0 ≤ a ∧ a < L.flatten.length) ∧ 0 ≤ b ∧ b < L.flatten.length) ∧ farL L a b = 1 ∧ freeP L.flatten a = true ∧ freeP L.flatten b = true := by
  unfold edgeL edgeN at h
  simp only [Bool.and_eq_true, decide_eq_true_eq, Bool.or_eq_true, Bool.not_eq_true', decide_eq_false_iff_not] at h
  obtain ⟨hin, ⟨⟨⟨h1, h2⟩, h3⟩, _⟩, _⟩ := h
  refine ⟨hin, by unfold farL; rw [if_pos hin]; exact h3, ?_, ?_⟩
  · unfold freeP kindP
    rw [decide_eq_true hin.1, if_pos hin.1.1, Bool.true_and]
    have : decide (L.flatten.getD a.toNat 0 = 35) = false := decide_eq_false fun e => h1 (by rw [e]; rfl)
    rw [this]; rfl
  · unfold freeP kindP
    rw [decide_eq_true hin.2, if_pos hin.2.1, Bool.true_and]
    have : decide (L.flatten.getD b.toNat 0 = 35) = false := decide_eq_false fun e => h2 (by rw [e]; rfl)
    rw [this]; rfl
end Go.Proofs.YtbaohngkapmhlaaDoor

namespace Go.Proofs.YtbaohngkapmhlaaDoor
open Go.AM

/-! ### States, and steps: plain -/
abbrev St := List Int × List Int
abbrev Sp := Int × Int × Int
theorem getD_set (l : List Int) (i j : Nat) (v : Int) : (l.set i v).getD j 0 = if i = j ∧ j < l.length then v else l.getD j 0 := by
  rw [List.getD, List.getD, List.getElem?_set]
  by_cases e : i = j
  · subst e
    by_cases h : i < l.length
    · rw [if_pos rfl, if_pos h, if_pos ⟨rfl, h⟩]; rfl
    · rw [if_pos rfl, if_neg h, if_neg (fun q => h q.2), List.getElem?_eq_none (by omega)]
  · rw [if_neg e, if_neg (fun q => e q.1)]
theorem filter_one {α : Type} (p : α → Bool) (x : α) : [x].filter p = if p x = true then [x] else [] := by
  cases h : p x <;> simp [h]
structure Chk (K : List UInt8) (s : St) : Prop where
  l1 : 1 ≤ s.1.length
  l64 : s.1.length ≤ 64
  ln : s.2.length = K.length
  hos : ∀ c, c < K.length → s.2.getD c 0 = -1 ∨ ((0 ≤ s.2.getD c 0 ∧ s.2.getD c 0 < s.1.length) ∧ freeP K c = true)
  ats : ∀ r, r < s.1.length → freeP K (s.1.getD r 0) = true ∧ s.2.getD (s.1.getD r 0).toNat 0 = r
/-- May a step be? -/
def may (L : List (List UInt8)) (s : St) (x : Sp) : Bool :=
  if x.1 = 0 then decide (x.2.1 = 0) && decide (x.2.2 = 0) else
    decide (0 ≤ x.2.1) && decide (x.2.1 < s.1.length) && freeP L.flatten x.2.2 &&
    (if x.1 = 1 then decide (s.2.getD x.2.2.toNat 0 = -1)
     else if x.1 = 2 then decide (s.2.getD x.2.2.toNat 0 = x.2.1) && !decide (s.1.getD x.2.1.toNat 0 = x.2.2)
     else if x.1 = 3 then decide (s.2.getD x.2.2.toNat 0 = x.2.1) && edgeL L (s.1.getD x.2.1.toNat 0) x.2.2
     else false)
/-- What a step makes of a state. -/
def turnS (s : St) (x : Sp) : St :=
  if x.1 = 1 then (s.1, s.2.set x.2.2.toNat x.2.1) else if x.1 = 2 then (s.1, s.2.set x.2.2.toNat (-1)) else if x.1 = 3 then (s.1.set x.2.1.toNat x.2.2, s.2) else s
/-- A step that may be, of a state that may be. -/
inductive May (L : List (List UInt8)) (s : St) : Sp → Prop where
  | none : May L s (0, 0, 0)
  | grant (r c : Nat) : r < s.1.length → freeP L.flatten c = true → c < L.flatten.length → s.2.getD c 0 = -1 → May L s (1, r, c)
  | release (r c : Nat) : r < s.1.length → freeP L.flatten c = true → c < L.flatten.length → s.2.getD c 0 = r → s.1.getD r 0 ≠ c → May L s (2, r, c)
  | move (r c : Nat) : r < s.1.length → freeP L.flatten c = true → c < L.flatten.length → s.2.getD c 0 = r → edgeL L (s.1.getD r 0) c = true → May L s (3, r, c)
theorem turnS_1 (s : St) (r c : Nat) : turnS s (1, (r : Int), (c : Int)) = (s.1, s.2.set c r) := rfl
theorem turnS_2 (s : St) (r c : Nat) : turnS s (2, (r : Int), (c : Int)) = (s.1, s.2.set c (-1)) := rfl
theorem turnS_3 (s : St) (r c : Nat) : turnS s (3, (r : Int), (c : Int)) = (s.1.set r c, s.2) := rfl
/-- Who is in a cell holds it: no two robots are in one. -/
theorem Chk.apart {K : List UInt8} {s : St} (q : Chk K s) {r t : Nat} (hr : r < s.1.length) (ht : t < s.1.length) (h : s.1.getD r 0 = s.1.getD t 0) : r = t := by
  have h1 := (q.ats r hr).2
  have h2 := (q.ats t ht).2
  rw [h] at h1
  omega
theorem Chk.cell {K : List UInt8} {s : St} (q : Chk K s) {r : Nat} (hr : r < s.1.length) : ∃ c : Nat, s.1.getD r 0 = c ∧ c < K.length ∧ freeP K c = true ∧ s.2.getD c 0 = r := by
  obtain ⟨h1, h2⟩ := q.ats r hr
  obtain ⟨c1, c2⟩ := freeP_in h1
  obtain ⟨c, hc⟩ := Int.eq_ofNat_of_zero_le c1
  rw [hc] at h1 h2 c2
  exact ⟨c, hc, by omega, h1, by rwa [Int.toNat_natCast] at h2⟩
/-- A step that may be leads to a state that may be. -/
theorem Chk.turn {L : List (List UInt8)} {s : St} {x : Sp} (q : Chk L.flatten s) (m : May L s x) : Chk L.flatten (turnS s x) := by
  cases m with
  | none => exact q
  | grant r c hr hf hc hh =>
    rw [turnS_1]
    refine ⟨q.l1, q.l64, by simpa using q.ln, fun d hd => ?_, fun t ht => ?_⟩
    · rw [getD_set]
      split
      · rename_i e
        obtain ⟨rfl, _⟩ := e
        exact .inr ⟨⟨by omega, by simpa using hr⟩, hf⟩
      · exact q.hos d hd
    · obtain ⟨d, e1, e2, e3, e4⟩ := q.cell ht
      refine ⟨(q.ats t ht).1, ?_⟩
      show (s.2.set c r).getD (s.1.getD t 0).toNat 0 = t
      rw [e1, Int.toNat_natCast, getD_set, if_neg, e4]
      rintro ⟨rfl, _⟩
      omega
  | release r c hr hf hc hh hn =>
    rw [turnS_2]
    refine ⟨q.l1, q.l64, by simpa using q.ln, fun d hd => ?_, fun t ht => ?_⟩
    · rw [getD_set]
      split
      · exact .inl rfl
      · exact q.hos d hd
    · obtain ⟨d, e1, e2, e3, e4⟩ := q.cell ht
      refine ⟨(q.ats t ht).1, ?_⟩
      show (s.2.set c (-1)).getD (s.1.getD t 0).toNat 0 = t
      rw [e1, Int.toNat_natCast, getD_set, if_neg, e4]
      rintro ⟨rfl, _⟩
      have : t = r := by omega
      subst this
      exact hn e1
  | move r c hr hf hc hh he =>
    rw [turnS_3]
    refine ⟨by simpa using q.l1, by simpa using q.l64, q.ln, fun d hd => ?_, fun t ht => ?_⟩
    · show s.2.getD d 0 = -1 ∨ ((0 ≤ s.2.getD d 0 ∧ s.2.getD d 0 < (s.1.set r c).length) ∧ freeP L.flatten d = true)
      rw [List.length_set]
      exact q.hos d hd
    · have ht : t < s.1.length := by simpa using ht
      show freeP L.flatten ((s.1.set r c).getD t 0) = true ∧ s.2.getD ((s.1.set r c).getD t 0).toNat 0 = t
      rw [getD_set]
      split
      · rename_i e
        obtain ⟨rfl, _⟩ := e
        rw [Int.toNat_natCast]
        exact ⟨hf, hh⟩
      · exact q.ats t ht

/-! ### Undone, and in either order -/
end Go.Proofs.YtbaohngkapmhlaaDoor

namespace Go.Proofs.YtbaohngkapmhlaaDoor
open Go.AM

/-! ### Robots on a map: plain -/
def whoF (P : List Int) (c : Int) : Nat → Int
  | 0 => -1
  | k + 1 => if 0 ≤ whoF P c k then whoF P c k else if P.getD k 0 = c then k else -1
/-- Who is in a cell. -/
def whoL (P : List Int) (c : Int) : Int := whoF P c P.length
theorem whoF_or (P : List Int) (c : Int) : ∀ k, (whoF P c k = -1 ∧ ∀ j, j < k → P.getD j 0 ≠ c) ∨ ∃ i : Nat, whoF P c k = i ∧ i < k ∧ P.getD i 0 = c ∧ ∀ j, j < i → P.getD j 0 ≠ c
  | 0 => .inl ⟨rfl, fun j hj => by omega⟩
  | k + 1 => by
    rcases whoF_or P c k with ⟨e, h⟩ | ⟨i, e, h1, h2, h3⟩
    · by_cases hc : P.getD k 0 = c
      · right
        refine ⟨k, ?_, by omega, hc, h⟩
        rw [whoF, e, if_neg (by omega), if_pos hc]
      · left
        refine ⟨?_, fun j hj => ?_⟩
        · rw [whoF, e, if_neg (by omega), if_neg hc]
        · by_cases ej : j = k
          · rw [ej]; exact hc
          · exact h j (by omega)
    · right
      refine ⟨i, ?_, by omega, h2, h3⟩
      rw [whoF, e, if_pos (by omega)]
theorem whoL_no {P : List Int} {c : Int} : whoL P c < 0 ↔ ∀ j, j < P.length → P.getD j 0 ≠ c := by
  unfold whoL
  rcases whoF_or P c P.length with ⟨e, h⟩ | ⟨i, e, h1, h2, h3⟩
  · exact ⟨fun _ => h, fun _ => by omega⟩
  · exact ⟨fun q => by omega, fun q => absurd h2 (q i h1)⟩
/-- Robots as they may stand. -/
structure Fok (K : List UInt8) (P : List Int) : Prop where
  free : ∀ i, i < P.length → freeP K (P.getD i 0) = true
  apart : ∀ i j, i < P.length → j < P.length → P.getD i 0 = P.getD j 0 → i = j
theorem Fok.who {K : List UInt8} {P : List Int} (q : Fok K P) {i : Nat} (hi : i < P.length) : whoL P (P.getD i 0) = i := by
  unfold whoL
  rcases whoF_or P (P.getD i 0) P.length with ⟨e, h⟩ | ⟨j, e, h1, h2, h3⟩
  · exact absurd rfl (h i hi)
  · rw [e, q.apart j i h1 hi h2]
theorem Fok.cell {K : List UInt8} {P : List Int} (q : Fok K P) {i : Nat} (hi : i < P.length) : ∃ c : Nat, P.getD i 0 = c ∧ c < K.length := by
  obtain ⟨c1, c2⟩ := freeP_in (q.free i hi)
  obtain ⟨c, hc⟩ := Int.eq_ofNat_of_zero_le c1
  exact ⟨c, hc, by omega⟩
def atF (P : List Int) (r : Int) : Int := if 0 ≤ r ∧ r < P.length then P.getD r.toNat 0 else -1
/-- May a robot move? -/
def chkF (L : List (List UInt8)) (P : List Int) (r c : Int) : Int := if (0 ≤ r ∧ r < P.length) ∧ edgeL L (P.getD r.toNat 0) c = true ∧ whoL P c < 0 then 0 else 220
def movF (L : List (List UInt8)) (P : List Int) (r c : Int) : List Int := if chkF L P r c = 0 then P.set r.toNat c else P
theorem chkF_or (L : List (List UInt8)) (P : List Int) (r c : Int) : (chkF L P r c = 0 ∧ (0 ≤ r ∧ r < P.length) ∧ edgeL L (P.getD r.toNat 0) c = true ∧ whoL P c < 0) ∨ (chkF L P r c = 220 ∧ ¬ ((0 ≤ r ∧ r < P.length) ∧ edgeL L (P.getD r.toNat 0) c = true ∧ whoL P c < 0)) := by
  unfold chkF
  by_cases h : (0 ≤ r ∧ r < P.length) ∧ edgeL L (P.getD r.toNat 0) c = true ∧ whoL P c < 0
  · rw [if_pos h]; exact .inl ⟨rfl, h⟩
  · rw [if_neg h]; exact .inr ⟨rfl, h⟩
theorem Fok.move {L : List (List UInt8)} {P : List Int} (q : Fok L.flatten P) (r c : Int) : Fok L.flatten (movF L P r c) := by
  unfold movF
  rcases chkF_or L P r c with ⟨e, h1, h2, h3⟩ | ⟨e, _⟩
  · rw [e, if_pos rfl]
    have hf := (edgeL_facts h2).2.2.2
    have hno := whoL_no.1 h3
    refine ⟨fun i hi => ?_, fun i j hi hj h => ?_⟩
    · rw [List.length_set] at hi
      rw [getD_set]
      split
      · exact hf
      · exact q.free i hi
    · rw [List.length_set] at hi hj
      rw [getD_set, getD_set] at h
      split at h
      · rename_i e1
        split at h
        · rename_i e2; omega
        · exact absurd h.symm (hno j hj)
      · split at h
        · exact absurd h (hno i hi)
        · exact q.apart i j hi hj h
  · rw [e, if_neg (by decide)]; exact q
theorem movF_len (L : List (List UInt8)) (P : List Int) (r c : Int) : (movF L P r c).length = P.length := by
  unfold movF; split <;> simp
def openF (L : List (List UInt8)) (P : List Int) (r : Int) : List Int := if 0 ≤ r ∧ r < P.length then (nextL L (P.getD r.toNat 0)).filter fun c => decide (whoL P c < 0) else []
end Go.Proofs.YtbaohngkapmhlaaDoor

namespace Go.Proofs.YtbaohngkapmhlaaDoor
open Go.AM

/-! ### A text out of rows -/
def textL (L : List (List UInt8)) : List UInt8 := (L.map (· ++ [10])).flatten
/-- Rows that are a map's. -/
structure Rows' (L : List (List UInt8)) (C : Nat) : Prop where
  c0 : 0 < C
  c32 : C ≤ 32
  all : ∀ T ∈ L, T.length = C
  cell : ∀ T ∈ L, ∀ c ∈ T, cellB c = true
end Go.Proofs.YtbaohngkapmhlaaDoor

namespace Go.Proofs.YtbaohngkapmhlaaDoor
open Go.AM

/-! ### Walls below, walls above -/
abbrev wallR (C : Nat) : List UInt8 := List.replicate C 35
end Go.Proofs.YtbaohngkapmhlaaDoor

namespace Go.Proofs.YtbaohngkapmhlaaDoor
open Go.AM

abbrev colsL (L : List (List UInt8)) : Nat := (L.getD 0 []).length
theorem textP_text {L : List (List UInt8)} (h : ∀ T ∈ L, T.length = colsL L) : ∀ k, k ≤ L.length → textP L.flatten (colsL L) k = textL (L.take k)
  | 0, _ => rfl
  | k + 1, hk => by
    have hg : L.getD k [] = L[k] := by simp [List.getD, show k < L.length by omega]
    rw [textP, textP_text h k (by omega), flat_drop L h k (by omega), hg]
    unfold textL
    rw [List.take_add_one, List.getElem?_eq_getElem (show k < L.length by omega), List.map_append, List.flatten_append]
    simp
theorem Good.text' {l : List UInt8} {L : List (List UInt8)} (g : Good l L) : l = textL L := by
  rw [← g.text, textP_text g.all _ (Nat.le_refl _), List.take_length]
theorem Good.any {l : List UInt8} {L : List (List UInt8)} (g : Good l L) : L.any freeL = true := by
  rw [← any_flat]; exact (allP_any _).1 g.some
def below (L : List (List UInt8)) : List (List UInt8) := L ++ [wallR (colsL L)]
def above (L : List (List UInt8)) : List (List UInt8) := wallR (colsL L) :: L
end Go.Proofs.YtbaohngkapmhlaaDoor

namespace Go.Proofs.YtbaohngkapmhlaaDoor
open Go.AM

/-! ### Several maps at once -/
/-- A map in memory that owns none of some others. -/
def Mk (h : AHeap) (p : Nat) (L : List (List UInt8)) (B : Nat → Prop) : Prop := (∃ S, Mt h p L S ∧ ∀ id, B id → ¬ S id) ∧ ∀ id, B id → id < h.next
theorem Mk.mp {h : AHeap} {p : Nat} {L : List (List UInt8)} {B : Nat → Prop} (m : Mk h p L B) : ∃ kv tl, Mp h p kv L.length (L.getD 0 []).length L.flatten tl := by
  obtain ⟨⟨S, m, _⟩, _⟩ := m
  exact m.mp
theorem Mk.lt {h : AHeap} {p : Nat} {L : List (List UInt8)} {B : Nat → Prop} (m : Mk h p L B) : p < h.next := by
  obtain ⟨⟨S, m, _⟩, _⟩ := m
  exact m.lt m.self
theorem Mk.frB {h h' : AHeap} {p : Nat} {L : List (List UInt8)} {B T : Nat → Prop} (m : Mk h p L B) (fr : Fr T h h') (hT : ∀ id, T id → B id) : Mk h' p L B := by
  obtain ⟨⟨S, m, hB⟩, hb⟩ := m
  have hn := fr.next
  exact ⟨⟨S, m.fr fr fun id q1 q2 => hB id (hT id q2) q1, hB⟩, fun id q => Nat.lt_of_lt_of_le (hb id q) hn⟩
theorem Mk.fr0 {h h' : AHeap} {p : Nat} {L : List (List UInt8)} {B : Nat → Prop} (m : Mk h p L B) (fr : Fr none' h h') : Mk h' p L B := m.frB fr fun _ q => q.elim
theorem Mk.grow {h h' : AHeap} {p : Nat} {L : List (List UInt8)} {B S S' : Nat → Prop} (hB : ∀ id, B id → ¬ S id) (hb : ∀ id, B id → id < h.next) (m' : Mt h' p L S') (hS : ∀ id, S' id → S id ∨ h.next ≤ id) (hn : h.next ≤ h'.next) : Mk h' p L B := by
  refine ⟨⟨S', m', fun id q1 q2 => ?_⟩, fun id q => Nat.lt_of_lt_of_le (hb id q) hn⟩
  have := hb id q1
  rcases hS id q2 with q | q
  · exact hB id q1 q
  · omega
theorem edgeK_w {h : AHeap} {p : Nat} {L : List (List UInt8)} {B : Nat → Prop} (m : Mk h p L B) (f : Fit L) (hw : h.get GW = some (.cells waysC 166 false)) (hgl : GW < h.low) (hl : h.low ≤ h.next) (a b : Int) {Q : VQ}
    (hq : ∀ h', Mk h' p L B → Fr (fun id => id = p) h h' → Q (.bool (edgeL L a b)) h') : W 19 [pv p, .int .i64 a, .int .i64 b] h Q := by
  obtain ⟨⟨S, m, hB⟩, hb⟩ := m
  exact edge_w m f hw hgl hl a b fun h' S' m' hS' fr => by rw [edge_mem f]; exact hq h' (Mk.grow hB hb m' hS' fr.next) fr
/-- A map that was just read. -/
theorem Mk.start {h h0 : AHeap} {p : Nat} {kv : Value} {L : List (List UInt8)} {B : Nat → Prop} (m : Mp h p kv L.length (L.getD 0 []).length L.flatten tl0) (hp' : h0.next ≤ p) (hid : ∀ id, idOf kv id → h0.next ≤ id) (hn : h0.next ≤ h.next) (hB : ∀ id, B id → id < h0.next) : Mk h p L B :=
  ⟨⟨_, Mt.start m, fun id q1 q2 => by
    have := hB id q1
    rcases q2 with rfl | q2
    · omega
    · have := hid id q2; omega⟩, fun id q => Nat.lt_of_lt_of_le (hB id q) hn⟩
/-- Later ones are none of its own. -/
theorem Mk.more {h : AHeap} {p : Nat} {L : List (List UInt8)} {B C : Nat → Prop} (m : Mk h p L B) {h' : AHeap} (fr : Fr none' h h') (hC : ∀ id, C id → B id ∨ (h.next ≤ id ∧ id < h'.next)) : Mk h' p L C := by
  obtain ⟨⟨S, m, hB⟩, hb⟩ := m
  have hn := fr.next
  refine ⟨⟨S, m.fr0 fr, fun id q1 q2 => ?_⟩, fun id q => ?_⟩
  · rcases hC id q1 with q | q
    · exact hB id q q2
    · have := m.lt q2; omega
  · rcases hC id q with q | q
    · exact Nat.lt_of_lt_of_le (hb id q) hn
    · exact q.2

end Go.Proofs.YtbaohngkapmhlaaDoor

namespace Go.Proofs.YtbaohngkapmhlaaDoor
open Go.AM
set_option maxRecDepth 8000
theorem b60_FW1 : type_of% (And.intro (@Option.isNone_none.{0}) (And.intro (@Option.isNone_some.{0}) (And.intro (AM.bin_pnil ul_25) (And.intro (AM.bin_pnil ul_26) (And.intro (@AM.fa_ptr) (And.intro (@fd_91_0) (And.intro (@AM.ldO_agg) (And.intro (@AM.ldO_one) (And.intro (@AM.ld_ptr) (And.intro (@lk_26) (And.intro (@AM.op_binOp) (And.intro (@AM.op_fieldAddr) (And.intro (@AM.op_load) (@AM.op_nilCheck)))))))))))))) := And.intro (@Option.isNone_none.{0}) (And.intro (@Option.isNone_some.{0}) (And.intro (AM.bin_pnil ul_25) (And.intro (AM.bin_pnil ul_26) (And.intro (@AM.fa_ptr) (And.intro (@fd_91_0) (And.intro (@AM.ldO_agg) (And.intro (@AM.ldO_one) (And.intro (@AM.ld_ptr) (And.intro (@lk_26) (And.intro (@AM.op_binOp) (And.intro (@AM.op_fieldAddr) (And.intro (@AM.op_load) (@AM.op_nilCheck)))))))))))))
theorem b64_FW1 : type_of% (And.intro (@List.map_toArray.{0,0}) (And.intro (@AM.boxK_agg) (And.intro (@AM.boxK_bool) (And.intro (@AM.boxK_func) (And.intro (@AM.boxK_int) (And.intro (@AM.boxK_map) (And.intro (@AM.boxK_pointer) (And.intro (@AM.boxK_slice) (And.intro (@AM.boxK_string) (And.intro (@AM.op_box) (@AM.op_makeFunc))))))))))) := And.intro (@List.map_toArray.{0,0}) (And.intro (@AM.boxK_agg) (And.intro (@AM.boxK_bool) (And.intro (@AM.boxK_func) (And.intro (@AM.boxK_int) (And.intro (@AM.boxK_map) (And.intro (@AM.boxK_pointer) (And.intro (@AM.boxK_slice) (And.intro (@AM.boxK_string) (And.intro (@AM.op_box) (@AM.op_makeFunc))))))))))
theorem b95_FW1 : type_of% (And.intro (@AM.bin_add) (And.intro (@AM.bin_lss) (And.intro (@AM.fa_ptr) (And.intro (@fd_91_1) (And.intro (@AM.iaO_ok) (And.intro (AM.ia_slice el_22) (And.intro (@AM.ldO_agg) (And.intro (@AM.ldO_one) (And.intro (@AM.ld_ptr) (And.intro (AM.len_slice ul_22) (And.intro (@lk_22) (And.intro (@lk_25) (And.intro (@lk_3) (And.intro (@AM.op_binOp) (And.intro (@AM.op_call) (And.intro (@AM.op_fieldAddr) (And.intro (@AM.op_indexAddr) (And.intro (@AM.op_len) (And.intro (@AM.op_load) (And.intro (@AM.op_nilCheck) (And.intro (@AM.op_unOp) (And.intro (@AM.un_neg) (@AM.un_not))))))))))))))))))))))) := And.intro (@AM.bin_add) (And.intro (@AM.bin_lss) (And.intro (@AM.fa_ptr) (And.intro (@fd_91_1) (And.intro (@AM.iaO_ok) (And.intro (AM.ia_slice el_22) (And.intro (@AM.ldO_agg) (And.intro (@AM.ldO_one) (And.intro (@AM.ld_ptr) (And.intro (AM.len_slice ul_22) (And.intro (@lk_22) (And.intro (@lk_25) (And.intro (@lk_3) (And.intro (@AM.op_binOp) (And.intro (@AM.op_call) (And.intro (@AM.op_fieldAddr) (And.intro (@AM.op_indexAddr) (And.intro (@AM.op_len) (And.intro (@AM.op_load) (And.intro (@AM.op_nilCheck) (And.intro (@AM.op_unOp) (And.intro (@AM.un_neg) (@AM.un_not))))))))))))))))))))))
theorem b24_FW1 : type_of% (And.intro (@AM.alK_some) (And.intro (@al_3) (And.intro (@AM.bin_eql) (And.intro (@AM.boxK_agg) (And.intro (@AM.boxK_bool) (And.intro (@AM.boxK_func) (And.intro (@AM.boxK_int) (And.intro (@AM.boxK_map) (And.intro (@AM.boxK_pointer) (And.intro (@AM.boxK_slice) (And.intro (@AM.boxK_string) (And.intro (@AM.ldO_agg) (And.intro (@AM.ldO_one) (And.intro (@AM.ld_ptr) (And.intro (@lk_3) (And.intro (@AM.op_alloc) (And.intro (@AM.op_binOp) (And.intro (@AM.op_box) (And.intro (@AM.op_call) (And.intro (@AM.op_load) (And.intro (@AM.op_store) (And.intro (@AM.stO_agg) (And.intro (@AM.stO_bool) (And.intro (@AM.stO_int) (And.intro (@AM.stO_map) (And.intro (@AM.stO_pointer) (And.intro (@AM.stO_slice) (And.intro (@AM.stO_string) (And.intro (@AM.st_ptr) (@sz_3)))))))))))))))))))))))))))))) := And.intro (@AM.alK_some) (And.intro (@al_3) (And.intro (@AM.bin_eql) (And.intro (@AM.boxK_agg) (And.intro (@AM.boxK_bool) (And.intro (@AM.boxK_func) (And.intro (@AM.boxK_int) (And.intro (@AM.boxK_map) (And.intro (@AM.boxK_pointer) (And.intro (@AM.boxK_slice) (And.intro (@AM.boxK_string) (And.intro (@AM.ldO_agg) (And.intro (@AM.ldO_one) (And.intro (@AM.ld_ptr) (And.intro (@lk_3) (And.intro (@AM.op_alloc) (And.intro (@AM.op_binOp) (And.intro (@AM.op_box) (And.intro (@AM.op_call) (And.intro (@AM.op_load) (And.intro (@AM.op_store) (And.intro (@AM.stO_agg) (And.intro (@AM.stO_bool) (And.intro (@AM.stO_int) (And.intro (@AM.stO_map) (And.intro (@AM.stO_pointer) (And.intro (@AM.stO_slice) (And.intro (@AM.stO_string) (And.intro (@AM.st_ptr) (@sz_3)))))))))))))))))))))))))))))


/-! ### Robots, and who is in a cell -/
def xsF (P : List Int) : List (List Value) := (List.range P.length).map fun (i : Nat) => [.int .i64 i, .int .i64 (P.getD i 0)]
theorem xsF_len (P : List Int) : (xsF P).length = P.length := by unfold xsF; simp
theorem xsF_get (P : List Int) {i : Nat} {x : List Value} (h : (xsF P)[i]? = some x) : i < P.length ∧ x = [.int .i64 i, .int .i64 (P.getD i 0)] := by
  have hi : i < P.length := by
    have := (List.getElem?_eq_some_iff.1 h).1
    rwa [xsF_len] at this
  refine ⟨hi, ?_⟩
  unfold xsF at h
  rw [List.getElem?_map, List.getElem?_range hi] at h
  exact (Option.some.inj h).symm
theorem xsF_at (P : List Int) {i : Nat} (h : i < P.length) : (xsF P)[i]? = some [.int .i64 i, .int .i64 (P.getD i 0)] := by
  unfold xsF
  rw [List.getElem?_map, List.getElem?_range h]; rfl
theorem fnone_w {h : AHeap} {q p : Nat} {av mv : Value} (gq : h.get q = some (.cells [pv p, av, mv] 91 false)) {Q : VQ} (hq : Q (.bool false) h) : W 60 [pv q] h Q := by
  refine AM.enter hp (fn := Tryd.f60) (rs := [.tmp 2]) (nt := 12) (by kernel_rfl) Tryd.func60 rfl rfl rfl (by kernel_rfl) ?_
  (first | (simp (maxSteps := 1000000) (disch := first | omega | (simp only [AM.DB, List.length_set, List.length_map]; first | done | omega)) only [AM.RB, Nat.reduceAdd, Nat.reduceMul, Nat.reduceEqDiff, reduceCtorEq, b60_FW1, gq]) | skip)
  exact hq
theorem frobots_w {h : AHeap} {q : Nat} {Q : VQ} (hq : ∀ h', h'.get h.next = some (.cells [pv q] 25 false) → Fr none' h h' → h'.next = h.next + 1 → h'.low = h.low → Q (.func (.func 95) #[] #[pv h.next]) h') : W 64 [pv q] h Q := by
  refine AM.enter hp (fn := Tryd.f64) (rs := [.tmp 2]) (nt := 4) (by kernel_rfl) Tryd.func64 rfl rfl rfl (by kernel_rfl) ?_
  simp (maxSteps := 1000000) (disch := first | omega | (simp only [AM.DB, List.length_set, List.length_map]; first | done | omega)) only [AM.RB, Nat.reduceAdd, Nat.reduceMul, Nat.reduceEqDiff, reduceCtorEq, b64_FW1]
  generalize hE_ : AHeap.alloc h _ = h1; obtain ⟨g1, fr1, n1, l1⟩ := AM.new_get hE_; clear hE_
  (first | (simp (maxSteps := 1000000) (disch := first | omega | (simp only [AM.DB, List.length_set, List.length_map]; first | done | omega)) only [AM.RB, Nat.reduceAdd, Nat.reduceMul, Nat.reduceEqDiff, reduceCtorEq, b64_FW1]) | skip)
  exact hq _ g1 fr1 n1 l1
set_option maxHeartbeats 2000000 in
theorem robots1_w {h : AHeap} {w q p : Nat} {aa : Option Addr} {ac : Nat} {P : List Int} {mv : Value} {e1 : TypeId} {o1 : Bool} (gw : h.get w = some (.cells [pv q] e1 o1)) (gq : h.get q = some (.cells [pv p, .slice aa P.length ac, mv] 91 false)) (hr : Rd h 3 1 (.slice aa P.length ac) P.length (P.map (.int .i64))) (hn : P.length ≤ 4000000) :
    IterOk Tryd.prog prims (.func (.func 95) #[] #[pv w]) (fun id => id = w ∨ id = q ∨ idOf (.slice aa P.length ac) id) (xsF P) h := by
  intro y J E h0 hnx hR hlow hJ hE hy hJ0
  have gw0 : h0.get w = some (.cells [pv q] e1 o1) := by rw [hR w (AM.get_some_lt gw) (.inl rfl)]; exact gw
  have gq0 : h0.get q = some (.cells [pv p, .slice aa P.length ac, mv] 91 false) := by rw [hR q (AM.get_some_lt gq) (.inr (.inl rfl))]; exact gq
  have hr0 : Rd h0 3 1 (.slice aa P.length ac) P.length (P.map (.int .i64)) := hr.same fun id hi => hR id (hr.lt hi) (.inr (.inr hi))
  have hRlt : ∀ id, (id = w ∨ id = q ∨ idOf (.slice aa P.length ac) id) → id < h0.next := by
    rintro id (rfl | rfl | hi)
    · exact AM.get_some_lt gw0
    · exact AM.get_some_lt gq0
    · exact hr0.lt hi
  refine AM.enter hp (fn := Tryd.f95) (rs := []) (nt := 23) (by kernel_rfl) Tryd.func95 rfl rfl rfl (by kernel_rfl) ?_
  (first | (simp (maxSteps := 1000000) (disch := first | omega | (simp only [AM.DB, List.length_set, List.length_map]; first | done | omega)) only [AM.RB, Nat.reduceAdd, Nat.reduceMul, Nat.reduceEqDiff, reduceCtorEq, b95_FW1, gw0]) | skip)
  refine fnone_w gq0 ?_
  (first | (simp (maxSteps := 1000000) (disch := first | omega | (simp only [AM.DB, List.length_set, List.length_map]; first | done | omega)) only [AM.RB, Nat.reduceAdd, Nat.reduceMul, Nat.reduceEqDiff, reduceCtorEq, b95_FW1, gw0, gq0]) | skip)
  refine AM.loop_w hp 23 (fun i : Nat => [(0, y), (10, .slice aa P.length ac), (11, .int .i64 P.length), (12, .int .i64 i)])
    (fun i h' => i ≤ P.length ∧ (∀ id, (id = w ∨ id = q ∨ idOf (.slice aa P.length ac) id) → h'.get id = h0.get id) ∧ h0.next ≤ h'.next ∧ h'.low = h0.low ∧ ∃ A, (∀ id, A id → h0.next ≤ id ∧ id < h'.next) ∧ J i A h') (fun i => P.length - i) (by kernel_rfl) 0 ?_ ?_ ?_
  · simp (maxSteps := 1000000) (disch := first | omega | (simp only [AM.DB, List.length_set, List.length_map]; first | done | omega)) only [AM.RB, Nat.reduceAdd, Nat.reduceMul, Nat.reduceEqDiff, reduceCtorEq, b95_FW1]
    first | rfl | skip
  · exact ⟨Nat.zero_le _, fun _ _ => rfl, Nat.le_refl _, rfl, none', fun id q => q.elim, hJ0⟩
  rintro i h1 ρ ⟨hi, hk, nx1, lw1, A, hA, hJ1⟩
  have r1 := hr0.same fun id q => hk id (.inr (.inr q))
  simp (maxSteps := 1000000) (disch := first | omega | (simp only [AM.DB, List.length_set, List.length_map]; first | done | omega)) only [AM.RB, Nat.reduceAdd, Nat.reduceMul, Nat.reduceEqDiff, reduceCtorEq, b95_FW1]
  refine AM.condV_split (fun hlt => ?_) (fun hlt => ?_)
  · have hil : i < P.length := by omega
    obtain ⟨x, hx⟩ : ∃ x, P.getD i 0 = x := ⟨_, rfl⟩
    have hat := xsF_at P hil
    rw [hx] at hat
    (first | (simp (maxSteps := 1000000) (disch := first | omega | (simp only [AM.DB, List.length_set, List.length_map]; first | done | omega)) only [AM.RB, Nat.reduceAdd, Nat.reduceMul, Nat.reduceEqDiff, reduceCtorEq, b95_FW1, r1.ia el_22, Rd.ldi r1 lk_3, Int.toNat_natCast, hx]) | skip)
    refine AM.CallW.mono (hy _ _ A h1 hat hJ1 hA nx1 lw1 hk) ?_
    rintro v h2 ⟨b, rfl, n2, l2, s2, q2⟩
    cases b with
    | true =>
      (first | (simp (maxSteps := 1000000) (disch := first | omega | (simp only [AM.DB, List.length_set, List.length_map]; first | done | omega)) only [AM.RB, Nat.reduceAdd, Nat.reduceMul, Nat.reduceEqDiff, reduceCtorEq, b95_FW1, AM.wrap_i64]) | skip)
      exact ⟨i + 1, by omega, congrArg _ (by omega), by omega, fun id q => (s2 id (by have := hRlt id q; omega) (.inr q)).trans (hk id q), by omega, by omega, A, fun id q => ⟨(hA id q).1, by have := (hA id q).2; omega⟩, q2⟩
    | false =>
      (first | (simp (maxSteps := 1000000) (disch := first | omega | (simp only [AM.DB, List.length_set, List.length_map]; first | done | omega)) only [AM.RB, Nat.reduceAdd, Nat.reduceMul, Nat.reduceEqDiff, reduceCtorEq, b95_FW1]) | skip)
      exact ⟨A, fun id q => ⟨(hA id q).1, by have := (hA id q).2; omega⟩, by omega, by omega, .inr q2⟩
  · have ei : i = P.length := by omega
    (first | (simp (maxSteps := 1000000) (disch := first | omega | (simp only [AM.DB, List.length_set, List.length_map]; first | done | omega)) only [AM.RB, Nat.reduceAdd, Nat.reduceMul, Nat.reduceEqDiff, reduceCtorEq, b95_FW1]) | skip)
    exact ⟨A, hA, nx1, lw1, .inl (by rw [xsF_len, ← ei]; exact hJ1)⟩
/-- What a round of Who knows. -/
def whoK (h : AHeap) (c v : Int) (_ : Nat → Prop) (h' : AHeap) : Prop := h'.get (h.next + 1) = some (.cells [.int .i64 v] 3 false) ∧ h'.get h.next = some (.cells [.int .i64 c] 3 false) ∧ Fr none' h h'
theorem whoK.keep {h : AHeap} {N : Nat} {c v : Int} {S : Nat → Prop} {h1 h2 : AHeap} (hN : h.next + 1 < N) (k : whoK h c v S h1) (hB : ∀ id, id < N → h2.get id = h1.get id) (hn : h1.next ≤ h2.next) (hl : h2.low = h1.low) : whoK h c v S h2 := by
  obtain ⟨g, g', fr⟩ := k
  exact ⟨by rw [hB _ hN]; exact g, by rw [hB _ (by omega)]; exact g', fr.ext hB (by omega) hn hl⟩
theorem who_at {P : List Int} {c : Int} {i : Nat} (hi : i < P.length) (hw : whoF P c i = -1) (hc : P.getD i 0 = c) : whoL P c = i := by
  rcases whoF_or P c i with ⟨_, h⟩ | ⟨j, e, _⟩
  · unfold whoL
    rcases whoF_or P c P.length with ⟨_, h'⟩ | ⟨j, e, h1, h2, h3⟩
    · exact absurd hc (h' i hi)
    · rw [e]
      have : ¬ j < i := fun q => h j q h2
      have : ¬ i < j := fun q => h3 i q hc
      omega
  · omega
theorem who_next {P : List Int} {c : Int} {i : Nat} (hw : whoF P c i = -1) (hc : P.getD i 0 ≠ c) : whoF P c (i + 1) = -1 := by
  rw [whoF, hw, if_neg (by omega), if_neg hc]
set_option maxHeartbeats 4000000 in
theorem who_w {h : AHeap} {q p : Nat} {aa : Option Addr} {ac : Nat} {P : List Int} {mv : Value} (gq : h.get q = some (.cells [pv p, .slice aa P.length ac, mv] 91 false)) (hr : Rd h 3 1 (.slice aa P.length ac) P.length (P.map (.int .i64))) (hn : P.length ≤ 4000000) (hl : h.low ≤ h.next) (c : Int) {Q : VQ}
    (hq : ∀ h', Fr none' h h' → Q (.int .i64 (whoL P c)) h') : W 24 [pv q, .int .i64 c] h Q := by
  have ltq := AM.get_some_lt gq
  refine AM.enter hp (fn := Tryd.f24) (rs := [.tmp 4]) (nt := 17) (by kernel_rfl) Tryd.func24 rfl rfl rfl (by kernel_rfl) ?_
  simp (maxSteps := 1000000) (disch := first | omega | (simp only [AM.DB, List.length_set, List.length_map]; first | done | omega)) only [AM.RB, Nat.reduceAdd, Nat.reduceMul, Nat.reduceEqDiff, reduceCtorEq, b24_FW1]
  generalize hE_ : AHeap.alloc h _ = h1; obtain ⟨g1, fr1, n1, l1⟩ := AM.new_get hE_; clear hE_
  (first | (simp (maxSteps := 1000000) (disch := first | omega | (simp only [AM.DB, List.length_set, List.length_map]; first | done | omega)) only [AM.RB, Nat.reduceAdd, Nat.reduceMul, Nat.reduceEqDiff, reduceCtorEq, b24_FW1]) | skip)
  generalize hE_ : AHeap.put (AHeap.alloc h1 _) _ _ = h2; obtain ⟨g2, fr2, n2, l2⟩ := AM.box_get hE_ (by omega); clear hE_
  have nx2 := fr2.next
  have fr02 := fr1.trans fr2
  refine frobots_w fun h3 g3 fr3 n3 l3 => ?_
  have fr03 := fr02.trans fr3
  have nx3 := fr3.next
  have lw3 := fr03.low
  have g13 := (g1.fr0 fr2).fr0 fr3
  have g23 := g2.fr0 fr3
  have nx1 : h3.next = h.next + 1 + 1 + 1 := by omega
  have hl3 : h3.low ≤ h3.next := by omega
  have hlt3 : ∀ id, idOf (.slice aa P.length ac) id → id < h.next := fun id q => hr.lt q
  have n2' : h2.next = h.next + 1 + 1 := by omega
  simp (maxSteps := 1000000) (disch := first | omega | (simp only [AM.DB, List.length_set, List.length_map]; first | done | omega)) only [AM.RB, Nat.reduceAdd, Nat.reduceMul, Nat.reduceEqDiff, reduceCtorEq, b24_FW1]
  refine AM.range_iter2 hp (R := fun id => id = h2.next ∨ id = q ∨ idOf (.slice aa P.length ac) id) (xs := xsF P) (AM.entersV_of Tryd.func95 rfl) (by kernel_rfl) (by kernel_rfl) ?_ ?_ hl3 (robots1_w g3 (gq.fr0 fr03) (hr.fr0 fr03) hn)
    (fun i A h' => whoF P c i = -1 ∧ AM.JK h3.next (whoK h c (-1)) A h') (fun x A h' => x = .exit 0 ∧ AM.JK h3.next (whoK h c (whoL P c)) A h') ?_ ?_
    (fun i x e A h' => AM.Sh e 17 [(3, pv h.next), (5, pv (h.next + 1)), (6, .int .i64 i), (7, .int .i64 (P.getD i 0))] ∧ whoF P c i = -1 ∧ AM.JK h3.next (whoK h c (-1)) A h') ?_ ?_ ?_ ?_ ?_ ?_
  · intro x hx
    obtain ⟨i, _, rfl⟩ := List.mem_map.1 hx; rfl
  · rintro id (rfl | rfl | hi)
    · omega
    · omega
    · have := hlt3 id hi; omega
  · exact fun i => AM.Stab.and (AM.JK.stab fun S a b hB k hS hBl hn hl => k.keep (by omega) hBl hn hl)
  · exact fun x => AM.Stab.and (AM.JK.stab fun S a b hB k hS hBl hn hl => k.keep (by omega) hBl hn hl)
  · exact fun i x e => AM.Stab.and (AM.Stab.and (AM.JK.stab fun S a b hB k hS hBl hn hl => k.keep (by omega) hBl hn hl))
  · rintro i x A h4 hx ⟨hw, hjk⟩ hA1 hL3 hlow3 hR3
    obtain ⟨hi, rfl⟩ := xsF_get P hx
    (first | (simp (maxSteps := 1000000) (disch := first | omega | (simp only [AM.DB, List.length_set, List.length_map]; first | done | omega)) only [AM.RB, Nat.reduceAdd, Nat.reduceMul, Nat.reduceEqDiff, reduceCtorEq, b24_FW1]) | skip)
    exact ⟨Nat.le_refl _, fun _ _ _ => trivial, hw, hjk⟩
  · intro o
    refine ⟨rfl, Nat.le_succ _, fun id e => by omega, fun _ => False, ⟨g23.fr0 ((Fr.refl _ _).alloc _), g13.fr0 ((Fr.refl _ _).alloc _), fr03.trans ((Fr.refl _ _).alloc _)⟩, fun _ q => q.elim⟩
  · rintro i x e A h4 hx ⟨he, hw, hB, hA, S, ⟨g5, g34, fr4⟩, hS⟩ hA1 hL3 hlow3 hR3
    obtain ⟨ρ, rfl⟩ := he.open'
    obtain ⟨hi, rfl⟩ := xsF_get P hx
    obtain ⟨x, hx'⟩ : ∃ x, P.getD i 0 = x := ⟨_, rfl⟩
    have lw4 := fr4.low
    have lt4 := AM.get_some_lt g5
    by_cases ex : x = c
    · have ew := who_at hi hw (hx'.trans ex)
      (first | (simp (maxSteps := 1000000) (disch := first | omega | (simp only [AM.DB, List.length_set, List.length_map]; first | done | omega)) only [AM.RB, Nat.reduceAdd, Nat.reduceMul, Nat.reduceEqDiff, reduceCtorEq, b24_FW1, hx', g34, g5, decide_eq_true ex]) | skip)
      generalize hE_ : AHeap.put h4 _ _ = h6; obtain ⟨g6, fr6, n6, l6⟩ := AM.put_get hE_ (by omega); clear hE_
      refine ⟨Nat.le_refl _, fun id q1 q2 => fr6.old id q1 (fun e => ?_), ?_⟩
      · have e : id = h.next + 1 := e
        rcases q2 with q2 | q2 | q2 | q2
        · have := hA id q2; omega
        · omega
        · omega
        · have := hlt3 id q2; omega
      · exact ⟨by omega, hA, S, ⟨by rw [ew]; exact g6, fr6.get g34 (show ¬ h.next = h.next + 1 by omega), Fr.fresh fr4 fr6 (fun id e => by have e : id = h.next + 1 := e; omega)⟩, fun id q => ⟨by have := (hS id q).1; omega, (hS id q).2⟩⟩
    · (first | (simp (maxSteps := 1000000) (disch := first | omega | (simp only [AM.DB, List.length_set, List.length_map]; first | done | omega)) only [AM.RB, Nat.reduceAdd, Nat.reduceMul, Nat.reduceEqDiff, reduceCtorEq, b24_FW1, hx', g34, g5, decide_eq_false ex]) | skip)
      exact ⟨Nat.le_refl _, fun _ _ _ => trivial, who_next hw (by rw [hx']; exact ex), hB, hA, S, ⟨g5, g34, fr4⟩, hS⟩
  · rintro A h4 ⟨hw, hB, hA, S, ⟨g5, g34, fr4⟩, hS⟩ hA1 hn4 hl4
    have e : whoL P c = -1 := by unfold whoL; rw [← xsF_len]; exact hw
    rw [e] at hq
    (first | (simp (maxSteps := 1000000) (disch := first | omega | (simp only [AM.DB, List.length_set, List.length_map]; first | done | omega)) only [AM.RB, Nat.reduceAdd, Nat.reduceMul, Nat.reduceEqDiff, reduceCtorEq, b24_FW1, g5]) | skip)
    exact hq _ fr4
  · rintro x A h4 ⟨rfl, hB, hA, S, ⟨g5, g34, fr4⟩, hS⟩ hA1 hn4 hl4
    (first | (simp (maxSteps := 1000000) (disch := first | omega | (simp only [AM.DB, List.length_set, List.length_map]; first | done | omega)) only [AM.RB, Nat.reduceAdd, Nat.reduceMul, Nat.reduceEqDiff, reduceCtorEq, b24_FW1, g5]) | skip)
    exact hq _ fr4

end Go.Proofs.YtbaohngkapmhlaaDoor

namespace Go.Proofs.YtbaohngkapmhlaaDoor
open Go.AM
set_option maxRecDepth 8000
theorem b17_FW2 : type_of% (And.intro (@AM.bin_geq) (And.intro (@AM.bin_lss) (And.intro (@AM.fa_ptr) (And.intro (@fd_91_1) (And.intro (@AM.iaO_ok) (And.intro (AM.ia_slice el_22) (And.intro (@AM.ldO_agg) (And.intro (@AM.ldO_one) (And.intro (@AM.ld_ptr) (And.intro (AM.len_slice ul_22) (And.intro (@lk_22) (And.intro (@lk_3) (And.intro (@AM.op_binOp) (And.intro (@AM.op_call) (And.intro (@AM.op_fieldAddr) (And.intro (@AM.op_indexAddr) (And.intro (@AM.op_len) (And.intro (@AM.op_load) (@AM.op_nilCheck))))))))))))))))))) := And.intro (@AM.bin_geq) (And.intro (@AM.bin_lss) (And.intro (@AM.fa_ptr) (And.intro (@fd_91_1) (And.intro (@AM.iaO_ok) (And.intro (AM.ia_slice el_22) (And.intro (@AM.ldO_agg) (And.intro (@AM.ldO_one) (And.intro (@AM.ld_ptr) (And.intro (AM.len_slice ul_22) (And.intro (@lk_22) (And.intro (@lk_3) (And.intro (@AM.op_binOp) (And.intro (@AM.op_call) (And.intro (@AM.op_fieldAddr) (And.intro (@AM.op_indexAddr) (And.intro (@AM.op_len) (And.intro (@AM.op_load) (@AM.op_nilCheck))))))))))))))))))
theorem b16_FW2 : type_of% (And.intro (@AM.bin_geq) (And.intro (@AM.bin_lss) (And.intro (@AM.fa_ptr) (And.intro (@fd_91_0) (And.intro (@AM.ldO_agg) (And.intro (@AM.ldO_one) (And.intro (@AM.ld_ptr) (And.intro (@lk_26) (And.intro (@AM.op_binOp) (And.intro (@AM.op_call) (And.intro (@AM.op_fieldAddr) (And.intro (@AM.op_load) (And.intro (@AM.op_nilCheck) (And.intro (@AM.op_unOp) (And.intro (@AM.un_neg) (@AM.un_not)))))))))))))))) := And.intro (@AM.bin_geq) (And.intro (@AM.bin_lss) (And.intro (@AM.fa_ptr) (And.intro (@fd_91_0) (And.intro (@AM.ldO_agg) (And.intro (@AM.ldO_one) (And.intro (@AM.ld_ptr) (And.intro (@lk_26) (And.intro (@AM.op_binOp) (And.intro (@AM.op_call) (And.intro (@AM.op_fieldAddr) (And.intro (@AM.op_load) (And.intro (@AM.op_nilCheck) (And.intro (@AM.op_unOp) (And.intro (@AM.un_neg) (@AM.un_not)))))))))))))))
theorem b18_FW2 : type_of% (And.intro (@AM.bin_add) (And.intro (@AM.bin_eql) (And.intro (@AM.fa_ptr) (And.intro (@fd_91_1) (And.intro (@fd_91_2) (And.intro (@AM.iaO_ok) (And.intro (AM.ia_slice el_22) (And.intro (@AM.ldO_agg) (And.intro (@AM.ldO_one) (And.intro (@AM.ld_ptr) (And.intro (@lk_22) (And.intro (@lk_3) (And.intro (@AM.op_binOp) (And.intro (@AM.op_call) (And.intro (@AM.op_fieldAddr) (And.intro (@AM.op_indexAddr) (And.intro (@AM.op_load) (And.intro (@AM.op_nilCheck) (And.intro (@AM.op_store) (And.intro (@AM.stO_agg) (And.intro (@AM.stO_bool) (And.intro (@AM.stO_int) (And.intro (@AM.stO_map) (And.intro (@AM.stO_pointer) (And.intro (@AM.stO_slice) (And.intro (@AM.stO_string) (And.intro (@AM.st_ptr) (@sz_3)))))))))))))))))))))))))))) := And.intro (@AM.bin_add) (And.intro (@AM.bin_eql) (And.intro (@AM.fa_ptr) (And.intro (@fd_91_1) (And.intro (@fd_91_2) (And.intro (@AM.iaO_ok) (And.intro (AM.ia_slice el_22) (And.intro (@AM.ldO_agg) (And.intro (@AM.ldO_one) (And.intro (@AM.ld_ptr) (And.intro (@lk_22) (And.intro (@lk_3) (And.intro (@AM.op_binOp) (And.intro (@AM.op_call) (And.intro (@AM.op_fieldAddr) (And.intro (@AM.op_indexAddr) (And.intro (@AM.op_load) (And.intro (@AM.op_nilCheck) (And.intro (@AM.op_store) (And.intro (@AM.stO_agg) (And.intro (@AM.stO_bool) (And.intro (@AM.stO_int) (And.intro (@AM.stO_map) (And.intro (@AM.stO_pointer) (And.intro (@AM.stO_slice) (And.intro (@AM.stO_string) (And.intro (@AM.st_ptr) (@sz_3)))))))))))))))))))))))))))
theorem b22_FW2 : type_of% (And.intro (@AM.fa_ptr) (And.intro (@fd_91_2) (And.intro (@AM.ldO_agg) (And.intro (@AM.ldO_one) (And.intro (@AM.ld_ptr) (And.intro (@lk_3) (And.intro (@AM.op_call) (And.intro (@AM.op_fieldAddr) (And.intro (@AM.op_load) (@AM.op_nilCheck)))))))))) := And.intro (@AM.fa_ptr) (And.intro (@fd_91_2) (And.intro (@AM.ldO_agg) (And.intro (@AM.ldO_one) (And.intro (@AM.ld_ptr) (And.intro (@lk_3) (And.intro (@AM.op_call) (And.intro (@AM.op_fieldAddr) (And.intro (@AM.op_load) (@AM.op_nilCheck)))))))))
theorem b21_FW2 : type_of% (And.intro (@AM.fa_ptr) (And.intro (@fd_91_1) (And.intro (@AM.ldO_agg) (And.intro (@AM.ldO_one) (And.intro (@AM.ld_ptr) (And.intro (@lk_22) (And.intro (@AM.op_call) (And.intro (@AM.op_fieldAddr) (And.intro (@AM.op_load) (@AM.op_nilCheck)))))))))) := And.intro (@AM.fa_ptr) (And.intro (@fd_91_1) (And.intro (@AM.ldO_agg) (And.intro (@AM.ldO_one) (And.intro (@AM.ld_ptr) (And.intro (@lk_22) (And.intro (@AM.op_call) (And.intro (@AM.op_fieldAddr) (And.intro (@AM.op_load) (@AM.op_nilCheck)))))))))


theorem Mk.subF {h : AHeap} {p : Nat} {L : List (List UInt8)} {B C : Nat → Prop} (m : Mk h p L B) (hC : ∀ id, C id → B id) : Mk h p L C := by
  obtain ⟨⟨S, m, hB⟩, hb⟩ := m
  exact ⟨⟨S, m, fun id q => hB id (hC id q)⟩, fun id q => hb id (hC id q)⟩
/-- New ones are none of a map's own. -/
theorem Mk.freshF {h : AHeap} {p : Nat} {L : List (List UInt8)} {B : Nat → Prop} (m : Mk h p L B) {h' : AHeap} (fr : Fr none' h h') : Mk h' p L (fun id => B id ∨ (h.next ≤ id ∧ id < h'.next)) := m.more fr fun id q => q
/-- A floor in memory, which owns nothing of B. -/
def Fl (h : AHeap) (q p : Nat) (L : List (List UInt8)) (P : List Int) (mv : Nat) (B : Nat → Prop) : Prop :=
  ∃ aa ac, h.get q = some (.cells [pv p, .slice aa P.length ac, .int .i64 mv] 91 false) ∧ Ow h 3 1 (.slice aa P.length ac) P.length (P.map (.int .i64)) ∧ ¬ idOf (.slice aa P.length ac) q ∧ h.low ≤ q ∧
    (∀ id, B id → id ≠ q ∧ ¬ idOf (.slice aa P.length ac) id) ∧ Mk h p L (fun id => B id ∨ id = q ∨ idOf (.slice aa P.length ac) id)
theorem Mk.no {h : AHeap} {p : Nat} {L : List (List UInt8)} {B : Nat → Prop} (m : Mk h p L B) : ¬ B p := by
  obtain ⟨⟨S, m, hB⟩, _⟩ := m
  exact fun q => hB p q m.self
theorem Fl.frB {h h' : AHeap} {q p : Nat} {L : List (List UInt8)} {P : List Int} {mv : Nat} {B T : Nat → Prop} (x : Fl h q p L P mv B) (fr : Fr T h h') (hT : ∀ id, T id → B id) : Fl h' q p L P mv B := by
  obtain ⟨aa, ac, g, o, hne, hlo, hB, m⟩ := x
  exact ⟨aa, ac, fr.get g (fun t => (hB _ (hT _ t)).1 rfl), o.fr fr (fun id q t => (hB _ (hT _ t)).2 q), hne, by rw [fr.low]; exact hlo, hB, m.frB fr fun id t => .inl (hT id t)⟩
theorem Fl.fr0 {h h' : AHeap} {q p : Nat} {L : List (List UInt8)} {P : List Int} {mv : Nat} {B : Nat → Prop} (x : Fl h q p L P mv B) (fr : Fr none' h h') : Fl h' q p L P mv B := x.frB fr fun _ q => q.elim
theorem Fl.fresh {h h' : AHeap} {q p : Nat} {L : List (List UInt8)} {P : List Int} {mv : Nat} {B : Nat → Prop} (x : Fl h q p L P mv B) (fr : Fr none' h h') : Fl h' q p L P mv (fun id => B id ∨ (h.next ≤ id ∧ id < h'.next)) := by
  obtain ⟨aa, ac, g, o, hne, hlo, hB, m⟩ := x
  have lt := AM.get_some_lt g
  refine ⟨aa, ac, g.fr0 fr, o.fr0 fr, hne, by rw [fr.low]; exact hlo, fun id q => ?_, (m.freshF fr).subF fun id q => ?_⟩
  · rcases q with q | q
    · exact hB id q
    · exact ⟨by omega, fun t => by have := o.lt t; omega⟩
  · rcases q with (q | q) | q
    · exact .inl (.inl q)
    · exact .inr q
    · exact .inl (.inr q)
theorem Fl.sub {h : AHeap} {q p : Nat} {L : List (List UInt8)} {P : List Int} {mv : Nat} {B C : Nat → Prop} (x : Fl h q p L P mv B) (hC : ∀ id, C id → B id) : Fl h q p L P mv C := by
  obtain ⟨aa, ac, g, o, hne, hlo, hB, m⟩ := x
  exact ⟨aa, ac, g, o, hne, hlo, fun id q => hB id (hC id q), m.subF fun id q => q.imp (hC id) (fun q => q)⟩
theorem Fl.lt {h : AHeap} {q p : Nat} {L : List (List UInt8)} {P : List Int} {mv : Nat} {B : Nat → Prop} (x : Fl h q p L P mv B) {id : Nat} (hB : B id) : id < h.next := by
  obtain ⟨aa, ac, g, o, hne, hlo, _, m⟩ := x
  exact m.2 id (.inl hB)
/-- A write of the map's own keeps what the others have. -/
theorem Fr.notB {h h' : AHeap} {p : Nat} {L : List (List UInt8)} {B : Nat → Prop} (m : Mk h p L B) (fr : Fr (fun id => id = p) h h') : Fr (fun id => ¬ B id) h h' := fr.mono fun id _ e q => by
  have e : id = p := e
  subst e
  exact m.no q
theorem at_w {h : AHeap} {q p : Nat} {L : List (List UInt8)} {P : List Int} {mv : Nat} {B : Nat → Prop} (x : Fl h q p L P mv B) (hn : P.length ≤ 4000000) (r : Int) {Q : VQ} (hq : Q (.int .i64 (atF P r)) h) : W 17 [pv q, .int .i64 r] h Q := by
  obtain ⟨aa, ac, g, o, hne, hlo, hB, m⟩ := x
  have rd := o.rd
  refine AM.enter hp (fn := Tryd.f17) (rs := [.tmp 4]) (nt := 27) (by kernel_rfl) Tryd.func17 rfl rfl rfl (by kernel_rfl) ?_
  (first | (simp (maxSteps := 1000000) (disch := first | omega | (simp only [AM.DB, List.length_set, List.length_map]; first | done | omega)) only [AM.RB, Nat.reduceAdd, Nat.reduceMul, Nat.reduceEqDiff, reduceCtorEq, b17_FW2]) | skip)
  refine fnone_w g ?_
  unfold atF at hq
  by_cases h0 : r < 0
  · rw [if_neg (by omega)] at hq
    (first | (simp (maxSteps := 1000000) (disch := first | omega | (simp only [AM.DB, List.length_set, List.length_map]; first | done | omega)) only [AM.RB, Nat.reduceAdd, Nat.reduceMul, Nat.reduceEqDiff, reduceCtorEq, b17_FW2, decide_eq_true h0]) | skip)
    exact hq
  by_cases h1 : (P.length : Int) ≤ r
  · rw [if_neg (by omega)] at hq
    (first | (simp (maxSteps := 1000000) (disch := first | omega | (simp only [AM.DB, List.length_set, List.length_map]; first | done | omega)) only [AM.RB, Nat.reduceAdd, Nat.reduceMul, Nat.reduceEqDiff, reduceCtorEq, b17_FW2, g, decide_eq_false h0, decide_eq_true h1]) | skip)
    exact hq
  · rw [if_pos (by omega)] at hq
    (first | (simp (maxSteps := 1000000) (disch := first | omega | (simp only [AM.DB, List.length_set, List.length_map]; first | done | omega)) only [AM.RB, Nat.reduceAdd, Nat.reduceMul, Nat.reduceEqDiff, reduceCtorEq, b17_FW2, g, decide_eq_false h0, decide_eq_false h1, rd.ia el_22, Rd.ldi rd lk_3]) | skip)
    exact hq
set_option maxHeartbeats 2000000 in
theorem fcheck_w {h : AHeap} {q p : Nat} {L : List (List UInt8)} {P : List Int} {mv : Nat} {B : Nat → Prop} (x : Fl h q p L P mv B) (f : Fit L) (ok : Fok L.flatten P) (hw : h.get GW = some (.cells waysC 166 false)) (hgl : GW < h.low) (hl : h.low ≤ h.next) (hn : P.length ≤ 4000000) (r c : Int) {Q : VQ}
    (hq : ∀ h', Fl h' q p L P mv B → Fr (fun id => id = p) h h' → Q (.int .i64 (chkF L P r c)) h') : W 16 [pv q, .int .i64 r, .int .i64 c] h Q := by
  obtain ⟨aa, ac, g, o, hne, hlo, hB, m⟩ := id x
  have frp : Fr (fun id => id = p) h h := Fr.refl _ _
  refine AM.enter hp (fn := Tryd.f16) (rs := [.tmp 6]) (nt := 33) (by kernel_rfl) Tryd.func16 rfl rfl rfl (by kernel_rfl) ?_
  (first | (simp (maxSteps := 1000000) (disch := first | omega | (simp only [AM.DB, List.length_set, List.length_map]; first | done | omega)) only [AM.RB, Nat.reduceAdd, Nat.reduceMul, Nat.reduceEqDiff, reduceCtorEq, b16_FW2]) | skip)
  refine at_w x hn r ?_
  (first | (simp (maxSteps := 1000000) (disch := first | omega | (simp only [AM.DB, List.length_set, List.length_map]; first | done | omega)) only [AM.RB, Nat.reduceAdd, Nat.reduceMul, Nat.reduceEqDiff, reduceCtorEq, b16_FW2]) | skip)
  refine fnone_w g ?_
  unfold atF
  by_cases hr : 0 ≤ r ∧ r < P.length
  case neg =>
    have e : chkF L P r c = 220 := by unfold chkF; rw [if_neg (fun q => hr q.1)]
    have d1 : decide ((-1 : Int) < 0) = true := rfl
    rw [e] at hq
    rw [if_neg hr]
    (first | (simp (maxSteps := 1000000) (disch := first | omega | (simp only [AM.DB, List.length_set, List.length_map]; first | done | omega)) only [AM.RB, Nat.reduceAdd, Nat.reduceMul, Nat.reduceEqDiff, reduceCtorEq, b16_FW2, d1]) | skip)
    exact hq _ x frp
  obtain ⟨r0, r1⟩ := hr
  obtain ⟨r, rfl⟩ := Int.eq_ofNat_of_zero_le r0
  have hrl : r < P.length := by omega
  obtain ⟨a, ea, hal⟩ := ok.cell hrl
  rw [if_pos ⟨r0, r1⟩, Int.toNat_natCast, ea]
  have da : decide ((a : Int) < 0) = false := decide_eq_false (by omega)
  have ec : chkF L P r c = if edgeL L (a : Int) c = true ∧ whoL P c < 0 then 0 else 220 := by
    unfold chkF
    rw [Int.toNat_natCast, ea]
    by_cases hh : edgeL L (a : Int) c = true ∧ whoL P c < 0
    · rw [if_pos ⟨⟨r0, r1⟩, hh⟩, if_pos hh]
    · rw [if_neg (fun q => hh q.2), if_neg hh]
  rw [ec] at hq
  (first | (simp (maxSteps := 1000000) (disch := first | omega | (simp only [AM.DB, List.length_set, List.length_map]; first | done | omega)) only [AM.RB, Nat.reduceAdd, Nat.reduceMul, Nat.reduceEqDiff, reduceCtorEq, b16_FW2, g, da]) | skip)
  refine edgeK_w m f hw hgl hl _ _ fun h1 m1 fr1 => ?_
  have qp : q ≠ p := fun e => m.no (.inr (.inl e.symm))
  have g1 := fr1.get g qp
  have o1 := o.fr fr1 (fun id t e => by have e : id = p := e; subst e; exact m.no (.inr (.inr t)))
  have x1 : Fl h1 q p L P mv B := ⟨aa, ac, g1, o1, hne, by rw [fr1.low]; exact hlo, hB, m1⟩
  have nx1 := fr1.next
  have lw1 := fr1.low
  cases he : edgeL L (a : Int) c
  · rw [if_neg (fun q => by rw [he] at q; cases q.1)] at hq
    (first | (simp (maxSteps := 1000000) (disch := first | omega | (simp only [AM.DB, List.length_set, List.length_map]; first | done | omega)) only [AM.RB, Nat.reduceAdd, Nat.reduceMul, Nat.reduceEqDiff, reduceCtorEq, b16_FW2]) | skip)
    exact hq _ x1 fr1
  (first | (simp (maxSteps := 1000000) (disch := first | omega | (simp only [AM.DB, List.length_set, List.length_map]; first | done | omega)) only [AM.RB, Nat.reduceAdd, Nat.reduceMul, Nat.reduceEqDiff, reduceCtorEq, b16_FW2]) | skip)
  refine who_w g1 o1.rd hn (by omega) c fun h2 fr2 => ?_
  by_cases hwh : 0 ≤ whoL P c
  · rw [if_neg (by omega)] at hq
    (first | (simp (maxSteps := 1000000) (disch := first | omega | (simp only [AM.DB, List.length_set, List.length_map]; first | done | omega)) only [AM.RB, Nat.reduceAdd, Nat.reduceMul, Nat.reduceEqDiff, reduceCtorEq, b16_FW2, decide_eq_true hwh]) | skip)
    exact hq _ (x1.fr0 fr2) (fr1.trans (fr2.mono fun _ _ q => q.elim))
  · rw [if_pos ⟨he, by omega⟩] at hq
    (first | (simp (maxSteps := 1000000) (disch := first | omega | (simp only [AM.DB, List.length_set, List.length_map]; first | done | omega)) only [AM.RB, Nat.reduceAdd, Nat.reduceMul, Nat.reduceEqDiff, reduceCtorEq, b16_FW2, decide_eq_false hwh]) | skip)
    exact hq _ (x1.fr0 fr2) (fr1.trans (fr2.mono fun _ _ q => q.elim))
theorem mset' (l : List Int) (i : Nat) (v : Int) : (l.map (Value.int .i64)).set i (.int .i64 v) = (l.set i v).map (.int .i64) := by rw [List.map_set]
set_option maxHeartbeats 2000000 in
theorem move_w {h : AHeap} {q p : Nat} {L : List (List UInt8)} {P : List Int} {mv : Nat} {B : Nat → Prop} (x : Fl h q p L P mv B) (f : Fit L) (ok : Fok L.flatten P) (hw : h.get GW = some (.cells waysC 166 false)) (hgl : GW < h.low) (hl : h.low ≤ h.next) (hn : P.length ≤ 4000000) (hmv : mv ≤ 4000000) (r c : Int) {Q : VQ}
    (hq : ∀ h', Fl h' q p L (movF L P r c) (if chkF L P r c = 0 then mv + 1 else mv) B → Fr (fun id => ¬ B id) h h' → Q (.int .i64 (chkF L P r c)) h') : W 18 [pv q, .int .i64 r, .int .i64 c] h Q := by
  have hgp : ∀ {h'}, Fl h' q p L P mv B → True := fun _ => trivial
  obtain ⟨_, _, _, _, _, _, _, m0⟩ := id x
  have nb : ∀ {h'}, Fr (fun id => id = p) h h' → Fr (fun id => ¬ B id) h h' := fun fr => (Fr.notB m0 fr).mono fun id _ q t => q (.inl t)
  refine AM.enter hp (fn := Tryd.f18) (rs := [.tmp 6]) (nt := 29) (by kernel_rfl) Tryd.func18 rfl rfl rfl (by kernel_rfl) ?_
  (first | (simp (maxSteps := 1000000) (disch := first | omega | (simp only [AM.DB, List.length_set, List.length_map]; first | done | omega)) only [AM.RB, Nat.reduceAdd, Nat.reduceMul, Nat.reduceEqDiff, reduceCtorEq, b18_FW2]) | skip)
  refine fcheck_w x f ok hw hgl hl hn r c fun h1 x1 fr1 => ?_
  obtain ⟨aa, ac, g, o, hne, hlo, hB, m⟩ := x1
  have nx1 := fr1.next
  have lw1 := fr1.low
  rcases chkF_or L P r c with ⟨e, ⟨r0, r1⟩, h2, h3⟩ | ⟨e, _⟩
  · have d0 : decide ((0 : Int) = 0) = true := rfl
    unfold movF at hq
    rw [e, if_pos rfl, if_pos rfl] at hq
    obtain ⟨r, rfl⟩ := Int.eq_ofNat_of_zero_le r0
    rw [e]
    (first | (simp (maxSteps := 1000000) (disch := first | omega | (simp only [AM.DB, List.length_set, List.length_map]; first | done | omega)) only [AM.RB, Nat.reduceAdd, Nat.reduceMul, Nat.reduceEqDiff, reduceCtorEq, b18_FW2, d0, g, o.ia el_22, Int.toNat_natCast]) | skip)
    refine o.st sz_3 (j := r) (by omega) rfl rfl fun h2 o2 fr2 n2 => ?_
    rw [mset'] at o2
    have g2 := fr2.get g hne
    have lw2 := fr2.low
    have ltq := AM.get_some_lt g2
    (first | (simp (maxSteps := 1000000) (disch := first | omega | (simp only [AM.DB, List.length_set, List.length_map]; first | done | omega)) only [AM.RB, Nat.reduceAdd, Nat.reduceMul, Nat.reduceEqDiff, reduceCtorEq, b18_FW2, g2, AM.wrap_i64]) | skip)
    generalize hE_ : AHeap.put h2 _ _ = h3; obtain ⟨g3, fr3, n3, l3⟩ := AM.put_get hE_ (by omega); clear hE_
    (first | (simp (maxSteps := 1000000) (disch := first | omega | (simp only [AM.DB, List.length_set, List.length_map]; first | done | omega)) only [AM.RB, Nat.reduceAdd, Nat.reduceMul, Nat.reduceEqDiff, reduceCtorEq, b18_FW2]) | skip)
    refine hq _ ⟨aa, ac, ?_, ?_, ?_, by omega, ?_, ?_⟩ (((nb fr1).trans (fr2.mono fun id _ t b => (hB id b).2 t)).trans (fr3.mono fun id _ t b => (hB id b).1 t))
    · rw [Int.toNat_natCast, List.length_set]; exact g3
    · rw [Int.toNat_natCast, List.length_set]; exact o2.fr fr3 (fun id t e => by have e : id = q := e; subst e; exact hne t)
    · rw [Int.toNat_natCast, List.length_set]; exact hne
    · rw [Int.toNat_natCast, List.length_set]; exact hB
    · rw [Int.toNat_natCast, List.length_set]; exact (m.frB fr2 fun id t => .inr (.inr t)).frB fr3 fun id t => .inr (.inl t)
  · have d0 : decide ((220 : Int) = 0) = false := rfl
    unfold movF at hq
    rw [e, if_neg (by decide), if_neg (by decide)] at hq
    rw [e]
    (first | (simp (maxSteps := 1000000) (disch := first | omega | (simp only [AM.DB, List.length_set, List.length_map]; first | done | omega)) only [AM.RB, Nat.reduceAdd, Nat.reduceMul, Nat.reduceEqDiff, reduceCtorEq, b18_FW2, d0]) | skip)
    exact hq _ ⟨aa, ac, g, o, hne, hlo, hB, m⟩ (nb fr1)
theorem moves_w {h : AHeap} {q p : Nat} {L : List (List UInt8)} {P : List Int} {mv : Nat} {B : Nat → Prop} (x : Fl h q p L P mv B) {Q : VQ} (hq : Q (.int .i64 mv) h) : W 22 [pv q] h Q := by
  obtain ⟨aa, ac, g, o, hne, hlo, hB, m⟩ := x
  refine AM.enter hp (fn := Tryd.f22) (rs := [.tmp 2]) (nt := 9) (by kernel_rfl) Tryd.func22 rfl rfl rfl (by kernel_rfl) ?_
  (first | (simp (maxSteps := 1000000) (disch := first | omega | (simp only [AM.DB, List.length_set, List.length_map]; first | done | omega)) only [AM.RB, Nat.reduceAdd, Nat.reduceMul, Nat.reduceEqDiff, reduceCtorEq, b22_FW2]) | skip)
  refine fnone_w g ?_
  (first | (simp (maxSteps := 1000000) (disch := first | omega | (simp only [AM.DB, List.length_set, List.length_map]; first | done | omega)) only [AM.RB, Nat.reduceAdd, Nat.reduceMul, Nat.reduceEqDiff, reduceCtorEq, b22_FW2, g]) | skip)
  exact hq
theorem places_w {h : AHeap} {q p : Nat} {L : List (List UInt8)} {P : List Int} {mv : Nat} {B : Nat → Prop} (x : Fl h q p L P mv B) (hl : h.low ≤ h.next) (hn : P.length ≤ 4000000) {Q : VQ}
    (hq : ∀ v h', Ow h' 3 1 v P.length (P.map (.int .i64)) → Fr none' h h' → (∀ id, idOf v id → h.next ≤ id) → Q v h') : W 21 [pv q] h Q := by
  obtain ⟨aa, ac, g, o, hne, hlo, hB, m⟩ := x
  refine AM.enter hp (fn := Tryd.f21) (rs := [.tmp 2]) (nt := 10) (by kernel_rfl) Tryd.func21 rfl rfl rfl (by kernel_rfl) ?_
  (first | (simp (maxSteps := 1000000) (disch := first | omega | (simp only [AM.DB, List.length_set, List.length_map]; first | done | omega)) only [AM.RB, Nat.reduceAdd, Nat.reduceMul, Nat.reduceEqDiff, reduceCtorEq, b21_FW2]) | skip)
  refine fnone_w g ?_
  (first | (simp (maxSteps := 1000000) (disch := first | omega | (simp only [AM.DB, List.length_set, List.length_map]; first | done | omega)) only [AM.RB, Nat.reduceAdd, Nat.reduceMul, Nat.reduceEqDiff, reduceCtorEq, b21_FW2, g]) | skip)
  refine clone_w o.rd (AM.ints_one _ _) (by omega) hl fun v h1 o1 fr1 hid1 => ?_
  (first | (simp (maxSteps := 1000000) (disch := first | omega | (simp only [AM.DB, List.length_set, List.length_map]; first | done | omega)) only [AM.RB, Nat.reduceAdd, Nat.reduceMul, Nat.reduceEqDiff, reduceCtorEq, b21_FW2]) | skip)
  exact hq _ _ o1 fr1 hid1

end Go.Proofs.YtbaohngkapmhlaaDoor
