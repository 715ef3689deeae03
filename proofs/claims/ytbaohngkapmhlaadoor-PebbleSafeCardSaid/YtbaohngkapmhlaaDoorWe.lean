/- Walks of this claim's functions, and plain laws. -/
import Derived.Test.YtbaohngkapmhlaaDoorWd
import Derived.Test.YtbaohngkapmhlaaDoorAMLift
set_option linter.unusedSimpArgs false
set_option linter.unusedVariables false
namespace Go.Proofs.YtbaohngkapmhlaaDoor
open Go.AM
set_option maxRecDepth 8000
theorem b41_PC4 : type_of% (And.intro (@AM.alK_some) (And.intro (@al_59) (And.intro (@al_65) (And.intro (@AM.bdV_some) (And.intro (@bd_65) (And.intro (@AM.bin_add) (And.intro (@AM.bin_eql) (And.intro (@AM.bin_geq) (And.intro (@AM.bin_lss) (And.intro (@AM.bin_neq) (And.intro (@AM.boxK_agg) (And.intro (@AM.boxK_bool) (And.intro (@AM.boxK_func) (And.intro (@AM.boxK_int) (And.intro (@AM.boxK_map) (And.intro (@AM.boxK_pointer) (And.intro (@AM.boxK_slice) (And.intro (@AM.boxK_string) (And.intro (AM.bsW_agg bs_136) (And.intro (AM.bsW_nil bs_136) (And.intro (@AM.ex_tuple) (And.intro (@AM.fa_ptr) (And.intro (@fd_59_0) (And.intro (@fd_59_1) (And.intro (@AM.fillL_cons) (And.intro (@AM.fillL_nil) (And.intro (@AM.fillS_agg) (And.intro (@AM.fillS_bool) (And.intro (@AM.fillS_func) (And.intro (@AM.fillS_int) (And.intro (@AM.fillS_map) (And.intro (@AM.fillS_pointer) (And.intro (@AM.fillS_slice) (And.intro (@AM.fillS_string) (And.intro (@AM.iaO_ok) (And.intro (AM.ia_slice el_136) (And.intro (AM.ia_slice el_22) (And.intro (@AM.ldO_agg) (And.intro (@AM.ldO_one) (And.intro (@AM.ld_ptr) (And.intro (AM.len_slice ul_136) (And.intro (AM.len_slice ul_22) (And.intro (@lk_22) (And.intro (@lk_3) (And.intro (@lk_59) (And.intro (@lk_65) (And.intro (@AM.op_alloc) (And.intro (@AM.op_binOp) (And.intro (@AM.op_box) (And.intro (@AM.op_build) (And.intro (@AM.op_buildSlice) (And.intro (@AM.op_call) (And.intro (@AM.op_extract) (And.intro (@AM.op_fieldAddr) (And.intro (@AM.op_indexAddr) (And.intro (@AM.op_len) (And.intro (@AM.op_load) (And.intro (@AM.op_store) (And.intro (@AM.op_unOp) (And.intro (@AM.resL_two) (And.intro (@AM.res_cell) (And.intro (@AM.stO_agg) (And.intro (@AM.stO_bool) (And.intro (@AM.stO_int) (And.intro (@AM.stO_map) (And.intro (@AM.stO_pointer) (And.intro (@AM.stO_slice) (And.intro (@AM.stO_string) (And.intro (@AM.st_ptr) (And.intro (@sz_59) (And.intro (@sz_65) (And.intro (@AM.un_neg) (@AM.un_not))))))))))))))))))))))))))))))))))))))))))))))))))))))))))))))))))))))))) := And.intro (@AM.alK_some) (And.intro (@al_59) (And.intro (@al_65) (And.intro (@AM.bdV_some) (And.intro (@bd_65) (And.intro (@AM.bin_add) (And.intro (@AM.bin_eql) (And.intro (@AM.bin_geq) (And.intro (@AM.bin_lss) (And.intro (@AM.bin_neq) (And.intro (@AM.boxK_agg) (And.intro (@AM.boxK_bool) (And.intro (@AM.boxK_func) (And.intro (@AM.boxK_int) (And.intro (@AM.boxK_map) (And.intro (@AM.boxK_pointer) (And.intro (@AM.boxK_slice) (And.intro (@AM.boxK_string) (And.intro (AM.bsW_agg bs_136) (And.intro (AM.bsW_nil bs_136) (And.intro (@AM.ex_tuple) (And.intro (@AM.fa_ptr) (And.intro (@fd_59_0) (And.intro (@fd_59_1) (And.intro (@AM.fillL_cons) (And.intro (@AM.fillL_nil) (And.intro (@AM.fillS_agg) (And.intro (@AM.fillS_bool) (And.intro (@AM.fillS_func) (And.intro (@AM.fillS_int) (And.intro (@AM.fillS_map) (And.intro (@AM.fillS_pointer) (And.intro (@AM.fillS_slice) (And.intro (@AM.fillS_string) (And.intro (@AM.iaO_ok) (And.intro (AM.ia_slice el_136) (And.intro (AM.ia_slice el_22) (And.intro (@AM.ldO_agg) (And.intro (@AM.ldO_one) (And.intro (@AM.ld_ptr) (And.intro (AM.len_slice ul_136) (And.intro (AM.len_slice ul_22) (And.intro (@lk_22) (And.intro (@lk_3) (And.intro (@lk_59) (And.intro (@lk_65) (And.intro (@AM.op_alloc) (And.intro (@AM.op_binOp) (And.intro (@AM.op_box) (And.intro (@AM.op_build) (And.intro (@AM.op_buildSlice) (And.intro (@AM.op_call) (And.intro (@AM.op_extract) (And.intro (@AM.op_fieldAddr) (And.intro (@AM.op_indexAddr) (And.intro (@AM.op_len) (And.intro (@AM.op_load) (And.intro (@AM.op_store) (And.intro (@AM.op_unOp) (And.intro (@AM.resL_two) (And.intro (@AM.res_cell) (And.intro (@AM.stO_agg) (And.intro (@AM.stO_bool) (And.intro (@AM.stO_int) (And.intro (@AM.stO_map) (And.intro (@AM.stO_pointer) (And.intro (@AM.stO_slice) (And.intro (@AM.stO_string) (And.intro (@AM.st_ptr) (And.intro (@sz_59) (And.intro (@sz_65) (And.intro (@AM.un_neg) (@AM.un_not))))))))))))))))))))))))))))))))))))))))))))))))))))))))))))))))))))))))


theorem partV_lt {a b : List Int} {n : Nat} (h : 0 ≤ (partV (diffs a b n)).1) : ∃ i : Nat, (partV (diffs a b n)).1 = i ∧ i < n := by
  have hm : ∀ i, i ∈ diffs a b n → i < n := fun i q => (diffs_mem.1 q).1
  generalize diffs a b n = l at *
  match l, h, hm with
  | [], h, _ => exact absurd h (by decide)
  | [i], _, hm => exact ⟨i, rfl, hm i (by simp)⟩
  | i :: _ :: _, _, hm => exact ⟨i, rfl, hm i (by simp)⟩
theorem Mk.sub {h : AHeap} {p : Nat} {L : List (List UInt8)} {B C : Nat → Prop} (m : Mk h p L B) (hC : ∀ id, C id → B id) : Mk h p L C := by
  obtain ⟨⟨S, m, hB⟩, hb⟩ := m
  exact ⟨⟨S, m, fun id q => hB id (hC id q)⟩, fun id q => hb id (hC id q)⟩
/-- New ones are none of a map's own. -/
theorem Mk.fresh {h : AHeap} {p : Nat} {L : List (List UInt8)} {B : Nat → Prop} (m : Mk h p L B) {h' : AHeap} (fr : Fr none' h h') : Mk h' p L (fun id => B id ∨ (h.next ≤ id ∧ id < h'.next)) := m.more fr fun id q => q
def stAt (a b : St) (i : Nat) : St := if i = 0 then a else b
set_option maxHeartbeats 8000000 in
theorem between_w {h : AHeap} {p : Nat} {L : List (List UInt8)} {B : Nat → Prop} {va vb : Value} {a b : St} (m : Mk h p L B) (f : Fit L) (hw : h.get GW = some (.cells waysC 166 false)) (hgl : GW < h.low) (hl : h.low ≤ h.next) (ha : StR h va a) (hb : StR h vb b) (ha1 : a.1.length ≤ 4000000) (ha2 : a.2.length ≤ 4000000) {Q : VQ}
    (hq : ∀ h', Mk h' p L B → Fr (fun id => id = p) h h' → Q (.tuple #[spV (betw L a b).1, .int .i64 (betw L a b).2]) h') : W 41 [pv p, va, vb] h Q := by
  obtain ⟨a1, a2, rfl, ra1, ra2⟩ := ha
  obtain ⟨a1a, a1c, rfl⟩ := ra1.form
  obtain ⟨a2a, a2c, rfl⟩ := ra2.form
  obtain ⟨b1, b2, rfl, rb1, rb2⟩ := hb
  obtain ⟨b1a, b1c, rfl⟩ := rb1.form
  obtain ⟨b2a, b2c, rfl⟩ := rb2.form
  refine AM.enter hp (fn := Tryd.f41) (rs := [.cell 6 65, .tmp 7]) (nt := 130) (by kernel_rfl) Tryd.func41 rfl rfl rfl (by kernel_rfl) ?_
  simp (maxSteps := 1000000) (disch := first | omega | (simp only [AM.DB, List.length_set, List.length_map]; first | done | omega)) only [AM.RB, Nat.reduceAdd, Nat.reduceMul, Nat.reduceEqDiff, reduceCtorEq, b41_PC4]
  generalize hE_ : AHeap.alloc h _ = h1; obtain ⟨g1, fr1, n1, l1⟩ := AM.new_get hE_; clear hE_
  generalize hE_ : AHeap.alloc h1 _ = h2; obtain ⟨g2, fr2, n2, l2⟩ := AM.new_get hE_; clear hE_
  rw [n1] at g2
  generalize hE_ : AHeap.alloc h2 _ = h3; obtain ⟨g3, fr3, n3, l3⟩ := AM.new_get hE_; clear hE_
  rw [n2, n1] at g3
  have g13 := (g1.fr0 fr2).fr0 fr3
  have g23 := g2.fr0 fr3
  (repeat' (first | (simp (maxSteps := 1000000) (disch := first | omega | (simp only [AM.DB, List.length_set, List.length_map]; first | done | omega)) only [AM.RB, Nat.reduceAdd, Nat.reduceMul, Nat.reduceEqDiff, reduceCtorEq, b41_PC4, g13, g23]) | refine AM.build_w ?_))
  rw [AM.bsW_agg2 bs_136 h3 _ [.slice a1a a.1.length a1c, .slice a2a a.2.length a2c] [.slice b1a b.1.length b1c, .slice b2a b.2.length b2c] rfl rfl (by omega) rfl rfl]
  generalize hE_ : AHeap.alloc h3 _ = h4; obtain ⟨g4, fr4, n4, l4⟩ := AM.new_get hE_; clear hE_
  have g14 := g13.fr0 fr4
  have g24 := g23.fr0 fr4
  have g34 := g3.fr0 fr4
  have fr04 := ((fr1.trans fr2).trans fr3).trans fr4
  have r4 : Rd h4 59 2 (.slice (some ⟨h3.next, 0, none⟩) 2 2) 2 [.slice a1a a.1.length a1c, .slice a2a a.2.length a2c, .slice b1a b.1.length b1c, .slice b2a b.2.length b2c] := AM.Rd.whole (n := 2) g4 rfl
  have m4 := m.fresh fr04
  (repeat' (first | (simp (maxSteps := 1000000) (disch := first | omega | (simp only [AM.DB, List.length_set, List.length_map]; first | done | omega)) only [AM.RB, Nat.reduceAdd, Nat.reduceMul, Nat.reduceEqDiff, reduceCtorEq, b41_PC4]) | refine AM.build_w ?_))
  refine AM.loop_w hp 130 (fun i : Nat => [(0, pv p), (4, pv h.next), (5, pv (h.next + 1)), (6, pv (h.next + 1 + 1)), (18, .slice (some ⟨h3.next, 0, none⟩) 2 2), (19, .int .i64 2), (20, .int .i64 i)])
    (fun i h' => i ≤ 2 ∧ Fr none' h4 h' ∧ (1 ≤ i → chk L.flatten a = true) ∧ (2 ≤ i → chk L.flatten b = true)) (fun i => 2 - i) (by kernel_rfl) 0 ?_ ?_ ?_
  · simp (maxSteps := 1000000) (disch := first | omega | (simp only [AM.DB, List.length_set, List.length_map]; first | done | omega)) only [AM.RB, Nat.reduceAdd, Nat.reduceMul, Nat.reduceEqDiff, reduceCtorEq, b41_PC4]
    first | rfl | skip
  · exact ⟨Nat.zero_le _, Fr.refl _ _, fun q => by omega, fun q => by omega⟩
  rintro i h5 ρ ⟨hi, fr5, ha5, hb5⟩
  simp (maxSteps := 1000000) (disch := first | omega | (simp only [AM.DB, List.length_set, List.length_map]; first | done | omega)) only [AM.RB, Nat.reduceAdd, Nat.reduceMul, Nat.reduceEqDiff, reduceCtorEq, b41_PC4]
  refine AM.condV_split (fun hlt => ?_) (fun hlt => ?_)
  · have r5 := r4.fr0 fr5
    have g15 := g14.fr0 fr5
    have g25 := g24.fr0 fr5
    have g35 := g34.fr0 fr5
    have fr05 := fr04.trans fr5
    have nx5 := fr5.next
    have lw5 := fr5.low
    have lw04 := fr04.low
    obtain ⟨x, y, hv, hsi⟩ : ∃ x y, (([.slice a1a a.1.length a1c, .slice a2a a.2.length a2c, .slice b1a b.1.length b1c, .slice b2a b.2.length b2c] : List Value).drop (i * 2)).take 2 = [x, y] ∧ StR h5 (.agg #[x, y]) (stAt a b i) := by
      obtain rfl | rfl : i = 0 ∨ i = 1 := by omega
      · exact ⟨_, _, rfl, _, _, rfl, ra1.fr0 fr05, ra2.fr0 fr05⟩
      · exact ⟨_, _, rfl, _, _, rfl, rb1.fr0 fr05, rb2.fr0 fr05⟩
    obtain ⟨x1, y1, e1, rx, ry⟩ := id hsi
    cases e1
    obtain ⟨xa, xc, rfl⟩ := rx.form
    obtain ⟨ya, yc, rfl⟩ := ry.form
    have ld := Rd.ldg r5 lk_59 i (by omega)
    rw [hv] at ld
    obtain ⟨_, _, mm5⟩ := (m.fr0 fr05).mp
    (repeat' (first | (simp (maxSteps := 1000000) (disch := first | omega | (simp only [AM.DB, List.length_set, List.length_map]; first | done | omega)) only [AM.RB, Nat.reduceAdd, Nat.reduceMul, Nat.reduceEqDiff, reduceCtorEq, b41_PC4, r5.ia el_136, ld, Int.toNat_natCast]) | refine AM.build_w ?_))
    generalize hE_ : AHeap.put (AHeap.alloc h5 _) _ _ = h6; obtain ⟨g6, fr6, n6, l6⟩ := AM.box_get hE_ (by omega); clear hE_
    (repeat' (first | (simp (maxSteps := 1000000) (disch := first | omega | (simp only [AM.DB, List.length_set, List.length_map]; first | done | omega)) only [AM.RB, Nat.reduceAdd, Nat.reduceMul, Nat.reduceEqDiff, reduceCtorEq, b41_PC4, g6]) | refine AM.build_w ?_))
    refine check_w (mm5.fr0 fr6) f (hsi.fr0 fr6) (by omega) fun h7 fr7 => ?_
    have fr57 := (fr5.trans fr6).trans fr7
    have nx57 := fr57.next
    have lw57 := fr57.low
    have g37 := g34.fr0 fr57
    have hsa : i = 0 → stAt a b i = a := fun e => by unfold stAt; rw [if_pos e]
    have hsb : i = 1 → stAt a b i = b := fun e => by unfold stAt; rw [if_neg (by omega)]
    cases hck : chk L.flatten (stAt a b i)
    · have d250 : decide ((250 : Int) = 0) = false := rfl
      have hbt : betw L a b = ((0, 0, 0), 250) := by
        unfold betw
        rw [if_neg]
        rintro ⟨q1, q2, _⟩
        obtain e | e : i = 0 ∨ i = 1 := by omega
        · rw [hsa e, q1] at hck; cases hck
        · rw [hsb e, q2] at hck; cases hck
      rw [hbt] at hq
      (repeat' (first | (simp (maxSteps := 1000000) (disch := first | omega | (simp only [AM.DB, List.length_set, List.length_map]; first | done | omega)) only [AM.RB, Nat.reduceAdd, Nat.reduceMul, Nat.reduceEqDiff, reduceCtorEq, b41_PC4, d250, g37]) | refine AM.build_w ?_))
      generalize hE_ : AHeap.put h7 _ _ = h8; obtain ⟨g8, fr8, n8, l8⟩ := AM.put_get hE_ (by omega); clear hE_
      (repeat' (first | (simp (maxSteps := 1000000) (disch := first | omega | (simp only [AM.DB, List.length_set, List.length_map]; first | done | omega)) only [AM.RB, Nat.reduceAdd, Nat.reduceMul, Nat.reduceEqDiff, reduceCtorEq, b41_PC4, g8]) | refine AM.build_w ?_))
      refine hq _ (((m4.fr0 fr57).frB fr8 (fun id e => .inr (by have e : id = h.next + 1 + 1 := e; omega))).sub fun id q => .inl q) ?_
      exact (Fr.fresh (fr04.trans fr57) fr8 (fun id e => by have e : id = h.next + 1 + 1 := e; omega)).mono fun _ _ q => q.elim
    · (repeat' (first | (simp (maxSteps := 1000000) (disch := first | omega | (simp only [AM.DB, List.length_set, List.length_map]; first | done | omega)) only [AM.RB, Nat.reduceAdd, Nat.reduceMul, Nat.reduceEqDiff, reduceCtorEq, b41_PC4, AM.wrap_i64]) | refine AM.build_w ?_))
      refine ⟨i + 1, by omega, congrArg _ (by omega), by omega, fr57, fun q => ?_, fun q => ?_⟩
      · by_cases e : i = 0
        · rw [hsa e] at hck; exact hck
        · exact ha5 (by omega)
      · by_cases e : i = 1
        · rw [hsb e] at hck; exact hck
        · omega
  · have ei : i = 2 := by omega
    have qa := ha5 (by omega)
    have qb := hb5 (by omega)
    have ca := (chk_iff _ _).1 qa
    have cb := (chk_iff _ _).1 qb
    have hl2 : a.2.length = b.2.length := by rw [ca.ln, cb.ln]
    have g15 := g14.fr0 fr5
    have g25 := g24.fr0 fr5
    have g35 := g34.fr0 fr5
    have fr05 := fr04.trans fr5
    have nx5 := fr5.next
    have lw5 := fr5.low
    have lw04 := fr04.low
    have pa1 := ra1.fr0 fr05
    have pa2 := ra2.fr0 fr05
    have pb1 := rb1.fr0 fr05
    have pb2 := rb2.fr0 fr05
    by_cases hlen : (a.1.length : Int) = b.1.length
    case neg =>
      have hbt : betw L a b = ((0, 0, 0), 250) := by
        unfold betw
        rw [if_neg]
        rintro ⟨_, _, q3⟩
        omega
      rw [hbt] at hq
      (repeat' (first | (simp (maxSteps := 1000000) (disch := first | omega | (simp only [AM.DB, List.length_set, List.length_map]; first | done | omega)) only [AM.RB, Nat.reduceAdd, Nat.reduceMul, Nat.reduceEqDiff, reduceCtorEq, b41_PC4, g15, g25, g35, decide_eq_false hlen]) | refine AM.build_w ?_))
      generalize hE_ : AHeap.put h5 _ _ = h8; obtain ⟨g8, fr8, n8, l8⟩ := AM.put_get hE_ (by omega); clear hE_
      (repeat' (first | (simp (maxSteps := 1000000) (disch := first | omega | (simp only [AM.DB, List.length_set, List.length_map]; first | done | omega)) only [AM.RB, Nat.reduceAdd, Nat.reduceMul, Nat.reduceEqDiff, reduceCtorEq, b41_PC4, g8]) | refine AM.build_w ?_))
      refine hq _ (((m4.fr0 fr5).frB fr8 (fun id e => .inr (by have e : id = h.next + 1 + 1 := e; omega))).sub fun id q => .inl q) ?_
      exact (Fr.fresh fr05 fr8 (fun id e => by have e : id = h.next + 1 + 1 := e; omega)).mono fun _ _ q => q.elim
    (repeat' (first | (simp (maxSteps := 1000000) (disch := first | omega | (simp only [AM.DB, List.length_set, List.length_map]; first | done | omega)) only [AM.RB, Nat.reduceAdd, Nat.reduceMul, Nat.reduceEqDiff, reduceCtorEq, b41_PC4, g15, g25, decide_eq_true hlen]) | refine AM.build_w ?_))
    refine parts_w pa1 pb1 (by omega) ha1 ?_
    (repeat' (first | (simp (maxSteps := 1000000) (disch := first | omega | (simp only [AM.DB, List.length_set, List.length_map]; first | done | omega)) only [AM.RB, Nat.reduceAdd, Nat.reduceMul, Nat.reduceEqDiff, reduceCtorEq, b41_PC4, g15, g25]) | refine AM.build_w ?_))
    refine parts_w pa2 pb2 (by omega) ha2 ?_
    obtain ⟨r, hr⟩ : ∃ r, (partV (diffs a.1 b.1 a.1.length)).1 = r := ⟨_, rfl⟩
    obtain ⟨c, hc⟩ : ∃ r, (partV (diffs a.2 b.2 a.2.length)).1 = r := ⟨_, rfl⟩
    obtain ⟨o1, ho1⟩ : ∃ r, (partV (diffs a.1 b.1 a.1.length)).2 = r := ⟨_, rfl⟩
    obtain ⟨o2, ho2⟩ : ∃ r, (partV (diffs a.2 b.2 a.2.length)).2 = r := ⟨_, rfl⟩
    obtain ⟨x, hx⟩ : ∃ x, stepOf a b r c = x := ⟨_, rfl⟩
    have hbt : betw L a b = if (o1 && (o2 && (!(decide (0 ≤ r) && decide (0 ≤ c)) && may L a x))) = true then (x, 0) else ((0, 0, 0), 250) := by
      unfold betw
      rw [if_pos ⟨qa, qb, by omega⟩, hr, hc, ho1, ho2, hx]
      congr 1
      by_cases q1 : 0 ≤ r <;> by_cases q2 : 0 ≤ c <;> simp [q1, q2]
    have hrl : 0 ≤ r → ∃ i : Nat, r = i ∧ i < a.1.length := fun q => by
      obtain ⟨i, e, hi⟩ := partV_lt (a := a.1) (b := b.1) (n := a.1.length) (by rw [hr]; exact q)
      exact ⟨i, by rw [← hr]; exact e, hi⟩
    have hcl : 0 ≤ c → ∃ i : Nat, c = i ∧ i < a.2.length := fun q => by
      obtain ⟨i, e, hi⟩ := partV_lt (a := a.2) (b := b.2) (n := a.2.length) (by rw [hc]; exact q)
      exact ⟨i, by rw [← hc]; exact e, hi⟩
    rw [hr, hc, ho1, ho2]
    (repeat' (first | (simp (maxSteps := 1000000) (disch := first | omega | (simp only [AM.DB, List.length_set, List.length_map]; first | done | omega)) only [AM.RB, Nat.reduceAdd, Nat.reduceMul, Nat.reduceEqDiff, reduceCtorEq, b41_PC4]) | refine AM.build_w ?_))
    generalize hE_ : AHeap.put (AHeap.alloc h5 _) _ _ = h6; obtain ⟨g6, fr6, n6, l6⟩ := AM.box_get hE_ (by omega); clear hE_
    have g36 := g35.fr0 fr6
    have rb1' := pb1.fr0 fr6
    have rb2' := pb2.fr0 fr6
    have ra2' := pa2.fr0 fr6
    have gg15 := g15.fr0 fr6
    have gg25 := g25.fr0 fr6
    have cs5 : (0 ≤ r ∧ c < 0) ∨ (0 ≤ r ∧ 0 ≤ c) ∨ (r < 0 ∧ 0 ≤ c ∧ b.2.getD c.toNat 0 = -1) ∨ (r < 0 ∧ 0 ≤ c ∧ ¬ b.2.getD c.toNat 0 = -1) ∨ (r < 0 ∧ c < 0) := by
      by_cases q1 : 0 ≤ r
      · by_cases q2 : c < 0
        · exact .inl ⟨q1, q2⟩
        · exact .inr (.inl ⟨q1, by omega⟩)
      · by_cases q2 : c < 0
        · exact .inr (.inr (.inr (.inr ⟨by omega, q2⟩)))
        · by_cases q3 : b.2.getD c.toNat 0 = -1
          · exact .inr (.inr (.inl ⟨by omega, by omega, q3⟩))
          · exact .inr (.inr (.inr (.inl ⟨by omega, by omega, q3⟩)))
    rcases cs5 with ⟨r0, c0⟩ | ⟨r0, c0⟩ | ⟨r0, c0, b0⟩ | ⟨r0, c0, b0⟩ | ⟨r0, c0⟩
    case inl =>
      obtain ⟨ri, rfl, hri⟩ := hrl r0
      have hxe : x = (3, (ri : Int), b.1.getD ri 0) := by rw [← hx]; unfold stepOf; rw [if_pos ⟨r0, c0⟩, Int.toNat_natCast]
      (repeat' (first | (simp (maxSteps := 1000000) (disch := first | omega | (simp only [AM.DB, List.length_set, List.length_map]; first | done | omega)) only [AM.RB, Nat.reduceAdd, Nat.reduceMul, Nat.reduceEqDiff, reduceCtorEq, b41_PC4, g6, decide_eq_true r0, decide_eq_true c0, gg25, rb1'.ia el_22, Rd.ldi rb1' lk_3, Int.toNat_natCast]) | refine AM.build_w ?_))
      generalize hE_ : AHeap.put h6 _ _ = h7; obtain ⟨g7, fr7, n7, l7⟩ := AM.put_get hE_ (by omega); clear hE_
      have gx : h7.get h5.next = some (.cells [.int .i64 x.1, .int .i64 x.2.1, .int .i64 x.2.2] 65 false) := by rw [hxe]; exact g7
      have fr57 : Fr none' h5 h7 := Fr.fresh fr6 fr7 (fun id e => by have e : id = h5.next := e; omega)
      have hc1 : decide (0 ≤ c) = false := decide_eq_false (by omega)
      have hr1 : decide (0 ≤ (ri : Int)) = true := decide_eq_true (by omega)
      have nx7 := fr57.next
      have lw7 := fr57.low
      have fr07 := fr05.trans fr57
      have m7 := m.fresh fr07
      have g17 := g15.fr0 fr57
      have g37 := g35.fr0 fr57
      have hplt := m.lt
      have lt5 := AM.get_some_lt gx
      have errE : ∀ h8 h9, Mk h8 p L (fun id => B id ∨ (h.next ≤ id ∧ id < h7.next)) → Fr (fun id => id = p) h h8 → Fr (fun id => id = h.next + 1 + 1) h8 h9 → Mk h9 p L B ∧ Fr (fun id => id = p) h h9 := fun h8 h9 m8 q1 q2 =>
        ⟨(m8.frB q2 (fun id e => .inr (by have e : id = h.next + 1 + 1 := e; omega))).sub fun id q => .inl q, q1.then q2 (fun id q1 e => by have e : id = h.next + 1 + 1 := e; omega)⟩
      have toP : Fr (fun id => id = p) h h7 := fr07.mono fun _ _ q => q.elim
      rw [hr1, hc1] at hbt
      cases o1
      · have e : betw L a b = ((0, 0, 0), 250) := by rw [hbt, if_neg (by simp)]
        rw [e] at hq
        (repeat' (first | (simp (maxSteps := 1000000) (disch := first | omega | (simp only [AM.DB, List.length_set, List.length_map]; first | done | omega)) only [AM.RB, Nat.reduceAdd, Nat.reduceMul, Nat.reduceEqDiff, reduceCtorEq, b41_PC4, hr1, hc1, g37]) | refine AM.build_w ?_))
        generalize hE_ : AHeap.put h7 _ _ = h9; obtain ⟨g9, fr9, n9, l9⟩ := AM.put_get hE_ (by omega); clear hE_
        (repeat' (first | (simp (maxSteps := 1000000) (disch := first | omega | (simp only [AM.DB, List.length_set, List.length_map]; first | done | omega)) only [AM.RB, Nat.reduceAdd, Nat.reduceMul, Nat.reduceEqDiff, reduceCtorEq, b41_PC4, g9]) | refine AM.build_w ?_))
        exact hq _ (errE _ _ m7 toP fr9).1 (errE _ _ m7 toP fr9).2
      · cases o2
        · have e : betw L a b = ((0, 0, 0), 250) := by rw [hbt, if_neg (by simp)]
          rw [e] at hq
          (repeat' (first | (simp (maxSteps := 1000000) (disch := first | omega | (simp only [AM.DB, List.length_set, List.length_map]; first | done | omega)) only [AM.RB, Nat.reduceAdd, Nat.reduceMul, Nat.reduceEqDiff, reduceCtorEq, b41_PC4, hr1, hc1, g37]) | refine AM.build_w ?_))
          generalize hE_ : AHeap.put h7 _ _ = h9; obtain ⟨g9, fr9, n9, l9⟩ := AM.put_get hE_ (by omega); clear hE_
          (repeat' (first | (simp (maxSteps := 1000000) (disch := first | omega | (simp only [AM.DB, List.length_set, List.length_map]; first | done | omega)) only [AM.RB, Nat.reduceAdd, Nat.reduceMul, Nat.reduceEqDiff, reduceCtorEq, b41_PC4, g9]) | refine AM.build_w ?_))
          exact hq _ (errE _ _ m7 toP fr9).1 (errE _ _ m7 toP fr9).2
        · (repeat' (first | (simp (maxSteps := 1000000) (disch := first | omega | (simp only [AM.DB, List.length_set, List.length_map]; first | done | omega)) only [AM.RB, Nat.reduceAdd, Nat.reduceMul, Nat.reduceEqDiff, reduceCtorEq, b41_PC4, hr1, hc1, g17, gx]) | refine AM.build_w ?_))
          refine pmay_w m7 f (hw.fr0 fr07) (by omega) (by omega) ⟨_, _, rfl, ra1.fr0 fr07, ra2.fr0 fr07⟩ ca.ln x fun h8 m8 fr8 => ?_
          have nx8 := fr8.next
          have lw8 := fr8.low
          have gx8 := fr8.get gx (show ¬ h5.next = p by omega)
          have g38 := fr8.get g37 (show ¬ h.next + 1 + 1 = p by omega)
          cases hm : may L a x
          · have e : betw L a b = ((0, 0, 0), 250) := by rw [hbt, hm, if_neg (by simp)]
            rw [e] at hq
            (repeat' (first | (simp (maxSteps := 1000000) (disch := first | omega | (simp only [AM.DB, List.length_set, List.length_map]; first | done | omega)) only [AM.RB, Nat.reduceAdd, Nat.reduceMul, Nat.reduceEqDiff, reduceCtorEq, b41_PC4, g38]) | refine AM.build_w ?_))
            generalize hE_ : AHeap.put h8 _ _ = h9; obtain ⟨g9, fr9, n9, l9⟩ := AM.put_get hE_ (by omega); clear hE_
            (repeat' (first | (simp (maxSteps := 1000000) (disch := first | omega | (simp only [AM.DB, List.length_set, List.length_map]; first | done | omega)) only [AM.RB, Nat.reduceAdd, Nat.reduceMul, Nat.reduceEqDiff, reduceCtorEq, b41_PC4, g9]) | refine AM.build_w ?_))
            exact hq _ (errE _ _ m8 (toP.trans fr8) fr9).1 (errE _ _ m8 (toP.trans fr8) fr9).2
          · have e : betw L a b = (x, 0) := by rw [hbt, hm, if_pos (by simp)]
            rw [e] at hq
            (repeat' (first | (simp (maxSteps := 1000000) (disch := first | omega | (simp only [AM.DB, List.length_set, List.length_map]; first | done | omega)) only [AM.RB, Nat.reduceAdd, Nat.reduceMul, Nat.reduceEqDiff, reduceCtorEq, b41_PC4, gx8, g38]) | refine AM.build_w ?_))
            generalize hE_ : AHeap.put h8 _ _ = h9; obtain ⟨g9, fr9, n9, l9⟩ := AM.put_get hE_ (by omega); clear hE_
            (repeat' (first | (simp (maxSteps := 1000000) (disch := first | omega | (simp only [AM.DB, List.length_set, List.length_map]; first | done | omega)) only [AM.RB, Nat.reduceAdd, Nat.reduceMul, Nat.reduceEqDiff, reduceCtorEq, b41_PC4, g9]) | refine AM.build_w ?_))
            exact hq _ (errE _ _ m8 (toP.trans fr8) fr9).1 (errE _ _ m8 (toP.trans fr8) fr9).2
    case inr.inl =>
      obtain ⟨ri, rfl, hri⟩ := hrl r0
      have hxe : x = (0, 0, 0) := by rw [← hx]; unfold stepOf; rw [if_neg (by omega), if_neg (by omega), if_neg (by omega)]
      have dlt : decide ((ri : Int) < 0) = false := decide_eq_false (by omega)
      have dcl : decide (c < 0) = false := decide_eq_false (by omega)
      (repeat' (first | (simp (maxSteps := 1000000) (disch := first | omega | (simp only [AM.DB, List.length_set, List.length_map]; first | done | omega)) only [AM.RB, Nat.reduceAdd, Nat.reduceMul, Nat.reduceEqDiff, reduceCtorEq, b41_PC4, decide_eq_true r0, dcl, dlt]) | refine AM.build_w ?_))
      obtain ⟨h7, e67⟩ : ∃ h7, h6 = h7 := ⟨_, rfl⟩
      rw [e67] at g6 fr6 n6 l6 ⊢
      have gx : h7.get h5.next = some (.cells [.int .i64 x.1, .int .i64 x.2.1, .int .i64 x.2.2] 65 false) := by rw [hxe]; exact g6
      have fr57 : Fr none' h5 h7 := fr6
      have hc1 : decide (0 ≤ c) = true := decide_eq_true (by omega)
      have hr1 : decide (0 ≤ (ri : Int)) = true := decide_eq_true (by omega)
      have nx7 := fr57.next
      have lw7 := fr57.low
      have fr07 := fr05.trans fr57
      have m7 := m.fresh fr07
      have g17 := g15.fr0 fr57
      have g37 := g35.fr0 fr57
      have hplt := m.lt
      have lt5 := AM.get_some_lt gx
      have errE : ∀ h8 h9, Mk h8 p L (fun id => B id ∨ (h.next ≤ id ∧ id < h7.next)) → Fr (fun id => id = p) h h8 → Fr (fun id => id = h.next + 1 + 1) h8 h9 → Mk h9 p L B ∧ Fr (fun id => id = p) h h9 := fun h8 h9 m8 q1 q2 =>
        ⟨(m8.frB q2 (fun id e => .inr (by have e : id = h.next + 1 + 1 := e; omega))).sub fun id q => .inl q, q1.then q2 (fun id q1 e => by have e : id = h.next + 1 + 1 := e; omega)⟩
      have toP : Fr (fun id => id = p) h h7 := fr07.mono fun _ _ q => q.elim
      rw [hr1, hc1] at hbt
      cases o1
      · have e : betw L a b = ((0, 0, 0), 250) := by rw [hbt, if_neg (by simp)]
        rw [e] at hq
        (repeat' (first | (simp (maxSteps := 1000000) (disch := first | omega | (simp only [AM.DB, List.length_set, List.length_map]; first | done | omega)) only [AM.RB, Nat.reduceAdd, Nat.reduceMul, Nat.reduceEqDiff, reduceCtorEq, b41_PC4, hr1, hc1, g37]) | refine AM.build_w ?_))
        generalize hE_ : AHeap.put h7 _ _ = h9; obtain ⟨g9, fr9, n9, l9⟩ := AM.put_get hE_ (by omega); clear hE_
        (repeat' (first | (simp (maxSteps := 1000000) (disch := first | omega | (simp only [AM.DB, List.length_set, List.length_map]; first | done | omega)) only [AM.RB, Nat.reduceAdd, Nat.reduceMul, Nat.reduceEqDiff, reduceCtorEq, b41_PC4, g9]) | refine AM.build_w ?_))
        exact hq _ (errE _ _ m7 toP fr9).1 (errE _ _ m7 toP fr9).2
      · cases o2
        · have e : betw L a b = ((0, 0, 0), 250) := by rw [hbt, if_neg (by simp)]
          rw [e] at hq
          (repeat' (first | (simp (maxSteps := 1000000) (disch := first | omega | (simp only [AM.DB, List.length_set, List.length_map]; first | done | omega)) only [AM.RB, Nat.reduceAdd, Nat.reduceMul, Nat.reduceEqDiff, reduceCtorEq, b41_PC4, hr1, hc1, g37]) | refine AM.build_w ?_))
          generalize hE_ : AHeap.put h7 _ _ = h9; obtain ⟨g9, fr9, n9, l9⟩ := AM.put_get hE_ (by omega); clear hE_
          (repeat' (first | (simp (maxSteps := 1000000) (disch := first | omega | (simp only [AM.DB, List.length_set, List.length_map]; first | done | omega)) only [AM.RB, Nat.reduceAdd, Nat.reduceMul, Nat.reduceEqDiff, reduceCtorEq, b41_PC4, g9]) | refine AM.build_w ?_))
          exact hq _ (errE _ _ m7 toP fr9).1 (errE _ _ m7 toP fr9).2
        · have e : betw L a b = ((0, 0, 0), 250) := by rw [hbt, if_neg (by simp)]
          rw [e] at hq
          (repeat' (first | (simp (maxSteps := 1000000) (disch := first | omega | (simp only [AM.DB, List.length_set, List.length_map]; first | done | omega)) only [AM.RB, Nat.reduceAdd, Nat.reduceMul, Nat.reduceEqDiff, reduceCtorEq, b41_PC4, hr1, hc1, g37]) | refine AM.build_w ?_))
          generalize hE_ : AHeap.put h7 _ _ = h9; obtain ⟨g9, fr9, n9, l9⟩ := AM.put_get hE_ (by omega); clear hE_
          (repeat' (first | (simp (maxSteps := 1000000) (disch := first | omega | (simp only [AM.DB, List.length_set, List.length_map]; first | done | omega)) only [AM.RB, Nat.reduceAdd, Nat.reduceMul, Nat.reduceEqDiff, reduceCtorEq, b41_PC4, g9]) | refine AM.build_w ?_))
          exact hq _ (errE _ _ m7 toP fr9).1 (errE _ _ m7 toP fr9).2
    case inr.inr.inl =>
      have drl : decide (r < 0) = true := decide_eq_true (by omega)
      have drg : decide (0 ≤ r) = false := decide_eq_false (by omega)
      obtain ⟨ci, rfl, hci⟩ := hcl c0
      rw [Int.toNat_natCast] at b0
      have hxe : x = (2, a.2.getD ci 0, (ci : Int)) := by rw [← hx]; unfold stepOf; rw [if_neg (by omega), if_pos ⟨by omega, by omega, by rw [Int.toNat_natCast]; exact b0⟩, Int.toNat_natCast]
      (repeat' (first | (simp (maxSteps := 1000000) (disch := first | omega | (simp only [AM.DB, List.length_set, List.length_map]; first | done | omega)) only [AM.RB, Nat.reduceAdd, Nat.reduceMul, Nat.reduceEqDiff, reduceCtorEq, b41_PC4, g6, drg, drl, decide_eq_true c0, gg25, gg15, rb2'.ia el_22, Rd.ldi rb2' lk_3, ra2'.ia el_22, Rd.ldi ra2' lk_3, Int.toNat_natCast, decide_eq_true b0]) | refine AM.build_w ?_))
      generalize hE_ : AHeap.put h6 _ _ = h7; obtain ⟨g7, fr7, n7, l7⟩ := AM.put_get hE_ (by omega); clear hE_
      have gx : h7.get h5.next = some (.cells [.int .i64 x.1, .int .i64 x.2.1, .int .i64 x.2.2] 65 false) := by rw [hxe]; exact g7
      have fr57 : Fr none' h5 h7 := Fr.fresh fr6 fr7 (fun id e => by have e : id = h5.next := e; omega)
      have hc1 : decide (0 ≤ (ci : Int)) = true := decide_eq_true (by omega)
      have hr1 : decide (0 ≤ r) = false := decide_eq_false (by omega)
      have nx7 := fr57.next
      have lw7 := fr57.low
      have fr07 := fr05.trans fr57
      have m7 := m.fresh fr07
      have g17 := g15.fr0 fr57
      have g37 := g35.fr0 fr57
      have hplt := m.lt
      have lt5 := AM.get_some_lt gx
      have errE : ∀ h8 h9, Mk h8 p L (fun id => B id ∨ (h.next ≤ id ∧ id < h7.next)) → Fr (fun id => id = p) h h8 → Fr (fun id => id = h.next + 1 + 1) h8 h9 → Mk h9 p L B ∧ Fr (fun id => id = p) h h9 := fun h8 h9 m8 q1 q2 =>
        ⟨(m8.frB q2 (fun id e => .inr (by have e : id = h.next + 1 + 1 := e; omega))).sub fun id q => .inl q, q1.then q2 (fun id q1 e => by have e : id = h.next + 1 + 1 := e; omega)⟩
      have toP : Fr (fun id => id = p) h h7 := fr07.mono fun _ _ q => q.elim
      rw [hr1, hc1] at hbt
      cases o1
      · have e : betw L a b = ((0, 0, 0), 250) := by rw [hbt, if_neg (by simp)]
        rw [e] at hq
        (repeat' (first | (simp (maxSteps := 1000000) (disch := first | omega | (simp only [AM.DB, List.length_set, List.length_map]; first | done | omega)) only [AM.RB, Nat.reduceAdd, Nat.reduceMul, Nat.reduceEqDiff, reduceCtorEq, b41_PC4, hr1, hc1, g37]) | refine AM.build_w ?_))
        generalize hE_ : AHeap.put h7 _ _ = h9; obtain ⟨g9, fr9, n9, l9⟩ := AM.put_get hE_ (by omega); clear hE_
        (repeat' (first | (simp (maxSteps := 1000000) (disch := first | omega | (simp only [AM.DB, List.length_set, List.length_map]; first | done | omega)) only [AM.RB, Nat.reduceAdd, Nat.reduceMul, Nat.reduceEqDiff, reduceCtorEq, b41_PC4, g9]) | refine AM.build_w ?_))
        exact hq _ (errE _ _ m7 toP fr9).1 (errE _ _ m7 toP fr9).2
      · cases o2
        · have e : betw L a b = ((0, 0, 0), 250) := by rw [hbt, if_neg (by simp)]
          rw [e] at hq
          (repeat' (first | (simp (maxSteps := 1000000) (disch := first | omega | (simp only [AM.DB, List.length_set, List.length_map]; first | done | omega)) only [AM.RB, Nat.reduceAdd, Nat.reduceMul, Nat.reduceEqDiff, reduceCtorEq, b41_PC4, hr1, hc1, g37]) | refine AM.build_w ?_))
          generalize hE_ : AHeap.put h7 _ _ = h9; obtain ⟨g9, fr9, n9, l9⟩ := AM.put_get hE_ (by omega); clear hE_
          (repeat' (first | (simp (maxSteps := 1000000) (disch := first | omega | (simp only [AM.DB, List.length_set, List.length_map]; first | done | omega)) only [AM.RB, Nat.reduceAdd, Nat.reduceMul, Nat.reduceEqDiff, reduceCtorEq, b41_PC4, g9]) | refine AM.build_w ?_))
          exact hq _ (errE _ _ m7 toP fr9).1 (errE _ _ m7 toP fr9).2
        · (repeat' (first | (simp (maxSteps := 1000000) (disch := first | omega | (simp only [AM.DB, List.length_set, List.length_map]; first | done | omega)) only [AM.RB, Nat.reduceAdd, Nat.reduceMul, Nat.reduceEqDiff, reduceCtorEq, b41_PC4, hr1, hc1, g17, gx]) | refine AM.build_w ?_))
          refine pmay_w m7 f (hw.fr0 fr07) (by omega) (by omega) ⟨_, _, rfl, ra1.fr0 fr07, ra2.fr0 fr07⟩ ca.ln x fun h8 m8 fr8 => ?_
          have nx8 := fr8.next
          have lw8 := fr8.low
          have gx8 := fr8.get gx (show ¬ h5.next = p by omega)
          have g38 := fr8.get g37 (show ¬ h.next + 1 + 1 = p by omega)
          cases hm : may L a x
          · have e : betw L a b = ((0, 0, 0), 250) := by rw [hbt, hm, if_neg (by simp)]
            rw [e] at hq
            (repeat' (first | (simp (maxSteps := 1000000) (disch := first | omega | (simp only [AM.DB, List.length_set, List.length_map]; first | done | omega)) only [AM.RB, Nat.reduceAdd, Nat.reduceMul, Nat.reduceEqDiff, reduceCtorEq, b41_PC4, g38]) | refine AM.build_w ?_))
            generalize hE_ : AHeap.put h8 _ _ = h9; obtain ⟨g9, fr9, n9, l9⟩ := AM.put_get hE_ (by omega); clear hE_
            (repeat' (first | (simp (maxSteps := 1000000) (disch := first | omega | (simp only [AM.DB, List.length_set, List.length_map]; first | done | omega)) only [AM.RB, Nat.reduceAdd, Nat.reduceMul, Nat.reduceEqDiff, reduceCtorEq, b41_PC4, g9]) | refine AM.build_w ?_))
            exact hq _ (errE _ _ m8 (toP.trans fr8) fr9).1 (errE _ _ m8 (toP.trans fr8) fr9).2
          · have e : betw L a b = (x, 0) := by rw [hbt, hm, if_pos (by simp)]
            rw [e] at hq
            (repeat' (first | (simp (maxSteps := 1000000) (disch := first | omega | (simp only [AM.DB, List.length_set, List.length_map]; first | done | omega)) only [AM.RB, Nat.reduceAdd, Nat.reduceMul, Nat.reduceEqDiff, reduceCtorEq, b41_PC4, gx8, g38]) | refine AM.build_w ?_))
            generalize hE_ : AHeap.put h8 _ _ = h9; obtain ⟨g9, fr9, n9, l9⟩ := AM.put_get hE_ (by omega); clear hE_
            (repeat' (first | (simp (maxSteps := 1000000) (disch := first | omega | (simp only [AM.DB, List.length_set, List.length_map]; first | done | omega)) only [AM.RB, Nat.reduceAdd, Nat.reduceMul, Nat.reduceEqDiff, reduceCtorEq, b41_PC4, g9]) | refine AM.build_w ?_))
            exact hq _ (errE _ _ m8 (toP.trans fr8) fr9).1 (errE _ _ m8 (toP.trans fr8) fr9).2
    case inr.inr.inr.inl =>
      have drl : decide (r < 0) = true := decide_eq_true (by omega)
      have drg : decide (0 ≤ r) = false := decide_eq_false (by omega)
      obtain ⟨ci, rfl, hci⟩ := hcl c0
      rw [Int.toNat_natCast] at b0
      have hxe : x = (1, b.2.getD ci 0, (ci : Int)) := by rw [← hx]; unfold stepOf; rw [if_neg (by omega), if_neg (fun q => b0 (by have := q.2.2; rwa [Int.toNat_natCast] at this)), if_pos ⟨by omega, by omega⟩, Int.toNat_natCast]
      (repeat' (first | (simp (maxSteps := 1000000) (disch := first | omega | (simp only [AM.DB, List.length_set, List.length_map]; first | done | omega)) only [AM.RB, Nat.reduceAdd, Nat.reduceMul, Nat.reduceEqDiff, reduceCtorEq, b41_PC4, g6, drg, drl, decide_eq_true c0, gg25, gg15, rb2'.ia el_22, Rd.ldi rb2' lk_3, Int.toNat_natCast, decide_eq_false b0]) | refine AM.build_w ?_))
      generalize hE_ : AHeap.put h6 _ _ = h7; obtain ⟨g7, fr7, n7, l7⟩ := AM.put_get hE_ (by omega); clear hE_
      have gx : h7.get h5.next = some (.cells [.int .i64 x.1, .int .i64 x.2.1, .int .i64 x.2.2] 65 false) := by rw [hxe]; exact g7
      have fr57 : Fr none' h5 h7 := Fr.fresh fr6 fr7 (fun id e => by have e : id = h5.next := e; omega)
      have hc1 : decide (0 ≤ (ci : Int)) = true := decide_eq_true (by omega)
      have hr1 : decide (0 ≤ r) = false := decide_eq_false (by omega)
      have nx7 := fr57.next
      have lw7 := fr57.low
      have fr07 := fr05.trans fr57
      have m7 := m.fresh fr07
      have g17 := g15.fr0 fr57
      have g37 := g35.fr0 fr57
      have hplt := m.lt
      have lt5 := AM.get_some_lt gx
      have errE : ∀ h8 h9, Mk h8 p L (fun id => B id ∨ (h.next ≤ id ∧ id < h7.next)) → Fr (fun id => id = p) h h8 → Fr (fun id => id = h.next + 1 + 1) h8 h9 → Mk h9 p L B ∧ Fr (fun id => id = p) h h9 := fun h8 h9 m8 q1 q2 =>
        ⟨(m8.frB q2 (fun id e => .inr (by have e : id = h.next + 1 + 1 := e; omega))).sub fun id q => .inl q, q1.then q2 (fun id q1 e => by have e : id = h.next + 1 + 1 := e; omega)⟩
      have toP : Fr (fun id => id = p) h h7 := fr07.mono fun _ _ q => q.elim
      rw [hr1, hc1] at hbt
      cases o1
      · have e : betw L a b = ((0, 0, 0), 250) := by rw [hbt, if_neg (by simp)]
        rw [e] at hq
        (repeat' (first | (simp (maxSteps := 1000000) (disch := first | omega | (simp only [AM.DB, List.length_set, List.length_map]; first | done | omega)) only [AM.RB, Nat.reduceAdd, Nat.reduceMul, Nat.reduceEqDiff, reduceCtorEq, b41_PC4, hr1, hc1, g37]) | refine AM.build_w ?_))
        generalize hE_ : AHeap.put h7 _ _ = h9; obtain ⟨g9, fr9, n9, l9⟩ := AM.put_get hE_ (by omega); clear hE_
        (repeat' (first | (simp (maxSteps := 1000000) (disch := first | omega | (simp only [AM.DB, List.length_set, List.length_map]; first | done | omega)) only [AM.RB, Nat.reduceAdd, Nat.reduceMul, Nat.reduceEqDiff, reduceCtorEq, b41_PC4, g9]) | refine AM.build_w ?_))
        exact hq _ (errE _ _ m7 toP fr9).1 (errE _ _ m7 toP fr9).2
      · cases o2
        · have e : betw L a b = ((0, 0, 0), 250) := by rw [hbt, if_neg (by simp)]
          rw [e] at hq
          (repeat' (first | (simp (maxSteps := 1000000) (disch := first | omega | (simp only [AM.DB, List.length_set, List.length_map]; first | done | omega)) only [AM.RB, Nat.reduceAdd, Nat.reduceMul, Nat.reduceEqDiff, reduceCtorEq, b41_PC4, hr1, hc1, g37]) | refine AM.build_w ?_))
          generalize hE_ : AHeap.put h7 _ _ = h9; obtain ⟨g9, fr9, n9, l9⟩ := AM.put_get hE_ (by omega); clear hE_
          (repeat' (first | (simp (maxSteps := 1000000) (disch := first | omega | (simp only [AM.DB, List.length_set, List.length_map]; first | done | omega)) only [AM.RB, Nat.reduceAdd, Nat.reduceMul, Nat.reduceEqDiff, reduceCtorEq, b41_PC4, g9]) | refine AM.build_w ?_))
          exact hq _ (errE _ _ m7 toP fr9).1 (errE _ _ m7 toP fr9).2
        · (repeat' (first | (simp (maxSteps := 1000000) (disch := first | omega | (simp only [AM.DB, List.length_set, List.length_map]; first | done | omega)) only [AM.RB, Nat.reduceAdd, Nat.reduceMul, Nat.reduceEqDiff, reduceCtorEq, b41_PC4, hr1, hc1, g17, gx]) | refine AM.build_w ?_))
          refine pmay_w m7 f (hw.fr0 fr07) (by omega) (by omega) ⟨_, _, rfl, ra1.fr0 fr07, ra2.fr0 fr07⟩ ca.ln x fun h8 m8 fr8 => ?_
          have nx8 := fr8.next
          have lw8 := fr8.low
          have gx8 := fr8.get gx (show ¬ h5.next = p by omega)
          have g38 := fr8.get g37 (show ¬ h.next + 1 + 1 = p by omega)
          cases hm : may L a x
          · have e : betw L a b = ((0, 0, 0), 250) := by rw [hbt, hm, if_neg (by simp)]
            rw [e] at hq
            (repeat' (first | (simp (maxSteps := 1000000) (disch := first | omega | (simp only [AM.DB, List.length_set, List.length_map]; first | done | omega)) only [AM.RB, Nat.reduceAdd, Nat.reduceMul, Nat.reduceEqDiff, reduceCtorEq, b41_PC4, g38]) | refine AM.build_w ?_))
            generalize hE_ : AHeap.put h8 _ _ = h9; obtain ⟨g9, fr9, n9, l9⟩ := AM.put_get hE_ (by omega); clear hE_
            (repeat' (first | (simp (maxSteps := 1000000) (disch := first | omega | (simp only [AM.DB, List.length_set, List.length_map]; first | done | omega)) only [AM.RB, Nat.reduceAdd, Nat.reduceMul, Nat.reduceEqDiff, reduceCtorEq, b41_PC4, g9]) | refine AM.build_w ?_))
            exact hq _ (errE _ _ m8 (toP.trans fr8) fr9).1 (errE _ _ m8 (toP.trans fr8) fr9).2
          · have e : betw L a b = (x, 0) := by rw [hbt, hm, if_pos (by simp)]
            rw [e] at hq
            (repeat' (first | (simp (maxSteps := 1000000) (disch := first | omega | (simp only [AM.DB, List.length_set, List.length_map]; first | done | omega)) only [AM.RB, Nat.reduceAdd, Nat.reduceMul, Nat.reduceEqDiff, reduceCtorEq, b41_PC4, gx8, g38]) | refine AM.build_w ?_))
            generalize hE_ : AHeap.put h8 _ _ = h9; obtain ⟨g9, fr9, n9, l9⟩ := AM.put_get hE_ (by omega); clear hE_
            (repeat' (first | (simp (maxSteps := 1000000) (disch := first | omega | (simp only [AM.DB, List.length_set, List.length_map]; first | done | omega)) only [AM.RB, Nat.reduceAdd, Nat.reduceMul, Nat.reduceEqDiff, reduceCtorEq, b41_PC4, g9]) | refine AM.build_w ?_))
            exact hq _ (errE _ _ m8 (toP.trans fr8) fr9).1 (errE _ _ m8 (toP.trans fr8) fr9).2
    case inr.inr.inr.inr =>
      have drl : decide (r < 0) = true := decide_eq_true (by omega)
      have drg : decide (0 ≤ r) = false := decide_eq_false (by omega)
      have dcl : decide (0 ≤ c) = false := decide_eq_false (by omega)
      have hxe : x = (0, 0, 0) := by rw [← hx]; unfold stepOf; rw [if_neg (by omega), if_neg (by omega), if_neg (by omega)]
      (repeat' (first | (simp (maxSteps := 1000000) (disch := first | omega | (simp only [AM.DB, List.length_set, List.length_map]; first | done | omega)) only [AM.RB, Nat.reduceAdd, Nat.reduceMul, Nat.reduceEqDiff, reduceCtorEq, b41_PC4, drg, drl, dcl]) | refine AM.build_w ?_))
      obtain ⟨h7, e67⟩ : ∃ h7, h6 = h7 := ⟨_, rfl⟩
      rw [e67] at g6 fr6 n6 l6 ⊢
      have gx : h7.get h5.next = some (.cells [.int .i64 x.1, .int .i64 x.2.1, .int .i64 x.2.2] 65 false) := by rw [hxe]; exact g6
      have fr57 : Fr none' h5 h7 := fr6
      have hc1 : decide (0 ≤ c) = false := decide_eq_false (by omega)
      have hr1 : decide (0 ≤ r) = false := decide_eq_false (by omega)
      have nx7 := fr57.next
      have lw7 := fr57.low
      have fr07 := fr05.trans fr57
      have m7 := m.fresh fr07
      have g17 := g15.fr0 fr57
      have g37 := g35.fr0 fr57
      have hplt := m.lt
      have lt5 := AM.get_some_lt gx
      have errE : ∀ h8 h9, Mk h8 p L (fun id => B id ∨ (h.next ≤ id ∧ id < h7.next)) → Fr (fun id => id = p) h h8 → Fr (fun id => id = h.next + 1 + 1) h8 h9 → Mk h9 p L B ∧ Fr (fun id => id = p) h h9 := fun h8 h9 m8 q1 q2 =>
        ⟨(m8.frB q2 (fun id e => .inr (by have e : id = h.next + 1 + 1 := e; omega))).sub fun id q => .inl q, q1.then q2 (fun id q1 e => by have e : id = h.next + 1 + 1 := e; omega)⟩
      have toP : Fr (fun id => id = p) h h7 := fr07.mono fun _ _ q => q.elim
      rw [hr1, hc1] at hbt
      cases o1
      · have e : betw L a b = ((0, 0, 0), 250) := by rw [hbt, if_neg (by simp)]
        rw [e] at hq
        (repeat' (first | (simp (maxSteps := 1000000) (disch := first | omega | (simp only [AM.DB, List.length_set, List.length_map]; first | done | omega)) only [AM.RB, Nat.reduceAdd, Nat.reduceMul, Nat.reduceEqDiff, reduceCtorEq, b41_PC4, hr1, hc1, g37]) | refine AM.build_w ?_))
        generalize hE_ : AHeap.put h7 _ _ = h9; obtain ⟨g9, fr9, n9, l9⟩ := AM.put_get hE_ (by omega); clear hE_
        (repeat' (first | (simp (maxSteps := 1000000) (disch := first | omega | (simp only [AM.DB, List.length_set, List.length_map]; first | done | omega)) only [AM.RB, Nat.reduceAdd, Nat.reduceMul, Nat.reduceEqDiff, reduceCtorEq, b41_PC4, g9]) | refine AM.build_w ?_))
        exact hq _ (errE _ _ m7 toP fr9).1 (errE _ _ m7 toP fr9).2
      · cases o2
        · have e : betw L a b = ((0, 0, 0), 250) := by rw [hbt, if_neg (by simp)]
          rw [e] at hq
          (repeat' (first | (simp (maxSteps := 1000000) (disch := first | omega | (simp only [AM.DB, List.length_set, List.length_map]; first | done | omega)) only [AM.RB, Nat.reduceAdd, Nat.reduceMul, Nat.reduceEqDiff, reduceCtorEq, b41_PC4, hr1, hc1, g37]) | refine AM.build_w ?_))
          generalize hE_ : AHeap.put h7 _ _ = h9; obtain ⟨g9, fr9, n9, l9⟩ := AM.put_get hE_ (by omega); clear hE_
          (repeat' (first | (simp (maxSteps := 1000000) (disch := first | omega | (simp only [AM.DB, List.length_set, List.length_map]; first | done | omega)) only [AM.RB, Nat.reduceAdd, Nat.reduceMul, Nat.reduceEqDiff, reduceCtorEq, b41_PC4, g9]) | refine AM.build_w ?_))
          exact hq _ (errE _ _ m7 toP fr9).1 (errE _ _ m7 toP fr9).2
        · (repeat' (first | (simp (maxSteps := 1000000) (disch := first | omega | (simp only [AM.DB, List.length_set, List.length_map]; first | done | omega)) only [AM.RB, Nat.reduceAdd, Nat.reduceMul, Nat.reduceEqDiff, reduceCtorEq, b41_PC4, hr1, hc1, g17, gx]) | refine AM.build_w ?_))
          refine pmay_w m7 f (hw.fr0 fr07) (by omega) (by omega) ⟨_, _, rfl, ra1.fr0 fr07, ra2.fr0 fr07⟩ ca.ln x fun h8 m8 fr8 => ?_
          have nx8 := fr8.next
          have lw8 := fr8.low
          have gx8 := fr8.get gx (show ¬ h5.next = p by omega)
          have g38 := fr8.get g37 (show ¬ h.next + 1 + 1 = p by omega)
          cases hm : may L a x
          · have e : betw L a b = ((0, 0, 0), 250) := by rw [hbt, hm, if_neg (by simp)]
            rw [e] at hq
            (repeat' (first | (simp (maxSteps := 1000000) (disch := first | omega | (simp only [AM.DB, List.length_set, List.length_map]; first | done | omega)) only [AM.RB, Nat.reduceAdd, Nat.reduceMul, Nat.reduceEqDiff, reduceCtorEq, b41_PC4, g38]) | refine AM.build_w ?_))
            generalize hE_ : AHeap.put h8 _ _ = h9; obtain ⟨g9, fr9, n9, l9⟩ := AM.put_get hE_ (by omega); clear hE_
            (repeat' (first | (simp (maxSteps := 1000000) (disch := first | omega | (simp only [AM.DB, List.length_set, List.length_map]; first | done | omega)) only [AM.RB, Nat.reduceAdd, Nat.reduceMul, Nat.reduceEqDiff, reduceCtorEq, b41_PC4, g9]) | refine AM.build_w ?_))
            exact hq _ (errE _ _ m8 (toP.trans fr8) fr9).1 (errE _ _ m8 (toP.trans fr8) fr9).2
          · have e : betw L a b = (x, 0) := by rw [hbt, hm, if_pos (by simp)]
            rw [e] at hq
            (repeat' (first | (simp (maxSteps := 1000000) (disch := first | omega | (simp only [AM.DB, List.length_set, List.length_map]; first | done | omega)) only [AM.RB, Nat.reduceAdd, Nat.reduceMul, Nat.reduceEqDiff, reduceCtorEq, b41_PC4, gx8, g38]) | refine AM.build_w ?_))
            generalize hE_ : AHeap.put h8 _ _ = h9; obtain ⟨g9, fr9, n9, l9⟩ := AM.put_get hE_ (by omega); clear hE_
            (repeat' (first | (simp (maxSteps := 1000000) (disch := first | omega | (simp only [AM.DB, List.length_set, List.length_map]; first | done | omega)) only [AM.RB, Nat.reduceAdd, Nat.reduceMul, Nat.reduceEqDiff, reduceCtorEq, b41_PC4, g9]) | refine AM.build_w ?_))
            exact hq _ (errE _ _ m8 (toP.trans fr8) fr9).1 (errE _ _ m8 (toP.trans fr8) fr9).2

end Go.Proofs.YtbaohngkapmhlaaDoor

namespace Go.Proofs.YtbaohngkapmhlaaDoor
open Go.AM
set_option maxRecDepth 8000
theorem b88_PR2 : type_of% (And.intro (@AM.alK_some) (And.intro (@al_59) (And.intro (@AM.bdV_some) (And.intro (@bd_59) (And.intro (@AM.boxK_agg) (And.intro (@AM.boxK_bool) (And.intro (@AM.boxK_func) (And.intro (@AM.boxK_int) (And.intro (@AM.boxK_map) (And.intro (@AM.boxK_pointer) (And.intro (@AM.boxK_slice) (And.intro (@AM.boxK_string) (And.intro (@AM.fa_ptr) (And.intro (@fd_59_0) (And.intro (@fd_59_1) (And.intro (@AM.fillL_cons) (And.intro (@AM.fillL_nil) (And.intro (@AM.fillS_agg) (And.intro (@AM.fillS_bool) (And.intro (@AM.fillS_func) (And.intro (@AM.fillS_int) (And.intro (@AM.fillS_map) (And.intro (@AM.fillS_pointer) (And.intro (@AM.fillS_slice) (And.intro (@AM.fillS_string) (And.intro (@AM.ldO_agg) (And.intro (@AM.ldO_one) (And.intro (@AM.ld_ptr) (And.intro (@lk_22) (And.intro (@lk_59) (And.intro (@AM.op_alloc) (And.intro (@AM.op_box) (And.intro (@AM.op_build) (And.intro (@AM.op_call) (And.intro (@AM.op_fieldAddr) (And.intro (@AM.op_load) (And.intro (@AM.op_store) (And.intro (@AM.res_cell) (And.intro (@AM.stO_agg) (And.intro (@AM.stO_bool) (And.intro (@AM.stO_int) (And.intro (@AM.stO_map) (And.intro (@AM.stO_pointer) (And.intro (@AM.stO_slice) (And.intro (@AM.stO_string) (And.intro (@AM.st_ptr) (@sz_59))))))))))))))))))))))))))))))))))))))))))))))) := And.intro (@AM.alK_some) (And.intro (@al_59) (And.intro (@AM.bdV_some) (And.intro (@bd_59) (And.intro (@AM.boxK_agg) (And.intro (@AM.boxK_bool) (And.intro (@AM.boxK_func) (And.intro (@AM.boxK_int) (And.intro (@AM.boxK_map) (And.intro (@AM.boxK_pointer) (And.intro (@AM.boxK_slice) (And.intro (@AM.boxK_string) (And.intro (@AM.fa_ptr) (And.intro (@fd_59_0) (And.intro (@fd_59_1) (And.intro (@AM.fillL_cons) (And.intro (@AM.fillL_nil) (And.intro (@AM.fillS_agg) (And.intro (@AM.fillS_bool) (And.intro (@AM.fillS_func) (And.intro (@AM.fillS_int) (And.intro (@AM.fillS_map) (And.intro (@AM.fillS_pointer) (And.intro (@AM.fillS_slice) (And.intro (@AM.fillS_string) (And.intro (@AM.ldO_agg) (And.intro (@AM.ldO_one) (And.intro (@AM.ld_ptr) (And.intro (@lk_22) (And.intro (@lk_59) (And.intro (@AM.op_alloc) (And.intro (@AM.op_box) (And.intro (@AM.op_build) (And.intro (@AM.op_call) (And.intro (@AM.op_fieldAddr) (And.intro (@AM.op_load) (And.intro (@AM.op_store) (And.intro (@AM.res_cell) (And.intro (@AM.stO_agg) (And.intro (@AM.stO_bool) (And.intro (@AM.stO_int) (And.intro (@AM.stO_map) (And.intro (@AM.stO_pointer) (And.intro (@AM.stO_slice) (And.intro (@AM.stO_string) (And.intro (@AM.st_ptr) (@sz_59))))))))))))))))))))))))))))))))))))))))))))))
theorem b89_PR2 : type_of% (And.intro (@AM.bin_eql) (And.intro (@AM.boxK_agg) (And.intro (@AM.boxK_bool) (And.intro (@AM.boxK_func) (And.intro (@AM.boxK_int) (And.intro (@AM.boxK_map) (And.intro (@AM.boxK_pointer) (And.intro (@AM.boxK_slice) (And.intro (@AM.boxK_string) (And.intro (@AM.fa_ptr) (And.intro (@fd_59_0) (And.intro (@fd_59_1) (And.intro (@fd_65_0) (And.intro (@fd_65_1) (And.intro (@fd_65_2) (And.intro (@AM.iaO_ok) (And.intro (AM.ia_slice el_22) (And.intro (@AM.ldO_agg) (And.intro (@AM.ldO_one) (And.intro (@AM.ld_ptr) (And.intro (@lk_22) (And.intro (@lk_3) (And.intro (@AM.op_binOp) (And.intro (@AM.op_box) (And.intro (@AM.op_fieldAddr) (And.intro (@AM.op_indexAddr) (And.intro (@AM.op_load) (And.intro (@AM.op_store) (And.intro (@AM.stO_agg) (And.intro (@AM.stO_bool) (And.intro (@AM.stO_int) (And.intro (@AM.stO_map) (And.intro (@AM.stO_pointer) (And.intro (@AM.stO_slice) (And.intro (@AM.stO_string) (And.intro (@AM.st_ptr) (@sz_3))))))))))))))))))))))))))))))))))))) := And.intro (@AM.bin_eql) (And.intro (@AM.boxK_agg) (And.intro (@AM.boxK_bool) (And.intro (@AM.boxK_func) (And.intro (@AM.boxK_int) (And.intro (@AM.boxK_map) (And.intro (@AM.boxK_pointer) (And.intro (@AM.boxK_slice) (And.intro (@AM.boxK_string) (And.intro (@AM.fa_ptr) (And.intro (@fd_59_0) (And.intro (@fd_59_1) (And.intro (@fd_65_0) (And.intro (@fd_65_1) (And.intro (@fd_65_2) (And.intro (@AM.iaO_ok) (And.intro (AM.ia_slice el_22) (And.intro (@AM.ldO_agg) (And.intro (@AM.ldO_one) (And.intro (@AM.ld_ptr) (And.intro (@lk_22) (And.intro (@lk_3) (And.intro (@AM.op_binOp) (And.intro (@AM.op_box) (And.intro (@AM.op_fieldAddr) (And.intro (@AM.op_indexAddr) (And.intro (@AM.op_load) (And.intro (@AM.op_store) (And.intro (@AM.stO_agg) (And.intro (@AM.stO_bool) (And.intro (@AM.stO_int) (And.intro (@AM.stO_map) (And.intro (@AM.stO_pointer) (And.intro (@AM.stO_slice) (And.intro (@AM.stO_string) (And.intro (@AM.st_ptr) (@sz_3))))))))))))))))))))))))))))))))))))
theorem b51_PR2 : type_of% (And.intro (@AM.bin_neq) (And.intro (@AM.boxK_agg) (And.intro (@AM.boxK_bool) (And.intro (@AM.boxK_func) (And.intro (@AM.boxK_int) (And.intro (@AM.boxK_map) (And.intro (@AM.boxK_pointer) (And.intro (@AM.boxK_slice) (And.intro (@AM.boxK_string) (And.intro (@AM.ldO_agg) (And.intro (@AM.ldO_one) (And.intro (@AM.ld_ptr) (And.intro (@lk_59) (And.intro (@lk_65) (And.intro (@AM.op_binOp) (And.intro (@AM.op_box) (And.intro (@AM.op_call) (And.intro (@AM.op_load) (And.intro (@AM.op_unOp) (And.intro (@AM.un_neg) (@AM.un_not))))))))))))))))))))) := And.intro (@AM.bin_neq) (And.intro (@AM.boxK_agg) (And.intro (@AM.boxK_bool) (And.intro (@AM.boxK_func) (And.intro (@AM.boxK_int) (And.intro (@AM.boxK_map) (And.intro (@AM.boxK_pointer) (And.intro (@AM.boxK_slice) (And.intro (@AM.boxK_string) (And.intro (@AM.ldO_agg) (And.intro (@AM.ldO_one) (And.intro (@AM.ld_ptr) (And.intro (@lk_59) (And.intro (@lk_65) (And.intro (@AM.op_binOp) (And.intro (@AM.op_box) (And.intro (@AM.op_call) (And.intro (@AM.op_load) (And.intro (@AM.op_unOp) (And.intro (@AM.un_neg) (@AM.un_not))))))))))))))))))))
theorem b50_PR2 : type_of% (And.intro (@AM.alK_some) (And.intro (@al_59) (And.intro (@AM.bdV_some) (And.intro (@bd_59) (And.intro (@AM.bin_neq) (And.intro (@AM.boxK_agg) (And.intro (@AM.boxK_bool) (And.intro (@AM.boxK_func) (And.intro (@AM.boxK_int) (And.intro (@AM.boxK_map) (And.intro (@AM.boxK_pointer) (And.intro (@AM.boxK_slice) (And.intro (@AM.boxK_string) (And.intro (@AM.fillL_cons) (And.intro (@AM.fillL_nil) (And.intro (@AM.fillS_agg) (And.intro (@AM.fillS_bool) (And.intro (@AM.fillS_func) (And.intro (@AM.fillS_int) (And.intro (@AM.fillS_map) (And.intro (@AM.fillS_pointer) (And.intro (@AM.fillS_slice) (And.intro (@AM.fillS_string) (And.intro (@AM.ldO_agg) (And.intro (@AM.ldO_one) (And.intro (@AM.ld_ptr) (And.intro (@lk_59) (And.intro (@lk_65) (And.intro (@AM.op_alloc) (And.intro (@AM.op_binOp) (And.intro (@AM.op_box) (And.intro (@AM.op_build) (And.intro (@AM.op_call) (And.intro (@AM.op_load) (And.intro (@AM.op_store) (And.intro (@AM.resL_two) (And.intro (@AM.res_cell) (And.intro (@AM.stO_agg) (And.intro (@AM.stO_bool) (And.intro (@AM.stO_int) (And.intro (@AM.stO_map) (And.intro (@AM.stO_pointer) (And.intro (@AM.stO_slice) (And.intro (@AM.stO_string) (And.intro (@AM.st_ptr) (@sz_59)))))))))))))))))))))))))))))))))))))))))))))) := And.intro (@AM.alK_some) (And.intro (@al_59) (And.intro (@AM.bdV_some) (And.intro (@bd_59) (And.intro (@AM.bin_neq) (And.intro (@AM.boxK_agg) (And.intro (@AM.boxK_bool) (And.intro (@AM.boxK_func) (And.intro (@AM.boxK_int) (And.intro (@AM.boxK_map) (And.intro (@AM.boxK_pointer) (And.intro (@AM.boxK_slice) (And.intro (@AM.boxK_string) (And.intro (@AM.fillL_cons) (And.intro (@AM.fillL_nil) (And.intro (@AM.fillS_agg) (And.intro (@AM.fillS_bool) (And.intro (@AM.fillS_func) (And.intro (@AM.fillS_int) (And.intro (@AM.fillS_map) (And.intro (@AM.fillS_pointer) (And.intro (@AM.fillS_slice) (And.intro (@AM.fillS_string) (And.intro (@AM.ldO_agg) (And.intro (@AM.ldO_one) (And.intro (@AM.ld_ptr) (And.intro (@lk_59) (And.intro (@lk_65) (And.intro (@AM.op_alloc) (And.intro (@AM.op_binOp) (And.intro (@AM.op_box) (And.intro (@AM.op_build) (And.intro (@AM.op_call) (And.intro (@AM.op_load) (And.intro (@AM.op_store) (And.intro (@AM.resL_two) (And.intro (@AM.res_cell) (And.intro (@AM.stO_agg) (And.intro (@AM.stO_bool) (And.intro (@AM.stO_int) (And.intro (@AM.stO_map) (And.intro (@AM.stO_pointer) (And.intro (@AM.stO_slice) (And.intro (@AM.stO_string) (And.intro (@AM.st_ptr) (@sz_59)))))))))))))))))))))))))))))))))))))))))))))


set_option maxHeartbeats 4000000 in
theorem twin_w {h : AHeap} {v : Value} {s : St} (hs : StR h v s) (hl : h.low ≤ h.next) (hn1 : s.1.length ≤ 4000000) (hn2 : s.2.length ≤ 4000000) {Q : VQ}
    (hq : ∀ a1 m1 c1 a2 m2 c2 h', Fr none' h h' → StO h.next h' (.agg #[.slice a1 m1 c1, .slice a2 m2 c2]) s → Q (.agg #[.slice a1 m1 c1, .slice a2 m2 c2]) h') : W 88 [v] h Q := by
  obtain ⟨a, b, rfl, ra, rb⟩ := hs
  obtain ⟨aa, ac, rfl⟩ := ra.form
  obtain ⟨ba, bc, rfl⟩ := rb.form
  refine AM.enter hp (fn := Tryd.f88) (rs := [.cell 2 59]) (nt := 10) (by kernel_rfl) Tryd.func88 rfl rfl rfl (by kernel_rfl) ?_
  simp (maxSteps := 1000000) (disch := first | omega | (simp only [AM.DB, List.length_set, List.length_map]; first | done | omega)) only [AM.RB, Nat.reduceAdd, Nat.reduceMul, Nat.reduceEqDiff, reduceCtorEq, b88_PR2]
  generalize hE_ : AHeap.alloc h _ = h1; obtain ⟨g1, fr1, n1, l1⟩ := AM.new_get hE_; clear hE_
  generalize hE_ : AHeap.alloc h1 _ = h2; obtain ⟨g2, fr2, n2, l2⟩ := AM.new_get hE_; clear hE_
  rw [n1] at g2
  have g12 := g1.fr0 fr2
  have fr02 := fr1.trans fr2
  have nx2 := fr02.next
  have lw2 := fr02.low
  (repeat' (first | (simp (maxSteps := 1000000) (disch := first | omega | (simp only [AM.DB, List.length_set, List.length_map]; first | done | omega)) only [AM.RB, Nat.reduceAdd, Nat.reduceMul, Nat.reduceEqDiff, reduceCtorEq, b88_PR2, g12]) | refine AM.drawW_loose (id := 1) hp (by kernel_rfl) (by kernel_rfl) ?_ | refine AM.opW_tied (by kernel_rfl) ?_ | refine AM.opW_untied (by kernel_rfl) ?_ | refine AM.build_w ?_))
  refine cloneI_w (ra.fr0 fr02) (by omega) (by omega) fun v3 h3 o3 fr3 hid3 => ?_
  obtain ⟨va, vc, rfl⟩ := o3.form
  have nx3 := fr3.next
  have lw3 := fr3.low
  have g13 := g12.fr0 fr3
  (repeat' (first | (simp (maxSteps := 1000000) (disch := first | omega | (simp only [AM.DB, List.length_set, List.length_map]; first | done | omega)) only [AM.RB, Nat.reduceAdd, Nat.reduceMul, Nat.reduceEqDiff, reduceCtorEq, b88_PR2, g13]) | refine AM.drawW_loose (id := 1) hp (by kernel_rfl) (by kernel_rfl) ?_ | refine AM.opW_tied (by kernel_rfl) ?_ | refine AM.opW_untied (by kernel_rfl) ?_ | refine AM.build_w ?_))
  refine cloneI_w (rb.fr0 (fr02.trans fr3)) (by omega) (by omega) fun v4 h4 o4 fr4 hid4 => ?_
  obtain ⟨wa, wc, rfl⟩ := o4.form
  have nx4 := fr4.next
  have lw4 := fr4.low
  have g14 := g13.fr0 fr4
  have fr24 := fr3.trans fr4
  have g24 := g2.fr0 fr24
  (repeat' (first | (simp (maxSteps := 1000000) (disch := first | omega | (simp only [AM.DB, List.length_set, List.length_map]; first | done | omega)) only [AM.RB, Nat.reduceAdd, Nat.reduceMul, Nat.reduceEqDiff, reduceCtorEq, b88_PR2, g13, g14, g12, g24]) | refine AM.drawW_loose (id := 1) hp (by kernel_rfl) (by kernel_rfl) ?_ | refine AM.opW_tied (by kernel_rfl) ?_ | refine AM.opW_untied (by kernel_rfl) ?_ | refine AM.build_w ?_))
  generalize hE_ : AHeap.put h4 _ _ = h5; obtain ⟨g5, fr5, n5, l5⟩ := AM.put_get hE_ (by omega); clear hE_
  have g15 := fr5.get g14 (show ¬ h.next = h.next + 1 by omega)
  have rb3 := rb.fr0 (fr02.trans fr3)
  refine ⟨AM.looseOk_by [(4, [0, 3])] (by kernel_rfl) ?_, ?_⟩
  · simp (maxSteps := 1000000) (disch := first | omega | (simp only [AM.DB, List.length_set, List.length_map]; first | done | omega)) only [AM.RB, Nat.reduceAdd, Nat.reduceMul, Nat.reduceEqDiff, reduceCtorEq, b88_PR2]
    all_goals ((repeat' apply And.intro) <;> (first | (refine AM.stable_len _ _ _ _ _ _ (fun _ => ?_); (simp (maxSteps := 1000000) (disch := first | omega | (simp only [AM.DB, List.length_set, List.length_map]; first | done | omega)) only [AM.RB, Nat.reduceAdd, Nat.reduceMul, Nat.reduceEqDiff, reduceCtorEq, b88_PR2, g12, g13, g14, g15])) | (refine AM.stable_load _ _ _ _ _ _ ?_; (first | (simp (maxSteps := 1000000) (disch := first | omega | (simp only [AM.DB, List.length_set, List.length_map]; first | done | omega)) only [AM.RB, Nat.reduceAdd, Nat.reduceMul, Nat.reduceEqDiff, reduceCtorEq, b88_PR2, g12, g13, g14, g15]) | skip); (first | (refine AM.stabL_int (by omega) ?_; (simp (maxSteps := 1000000) (disch := first | omega | (simp only [AM.DB, List.length_set, List.length_map]; first | done | omega)) only [AM.RB, Nat.reduceAdd, Nat.reduceMul, Nat.reduceEqDiff, reduceCtorEq, b88_PR2, g12, g13, g14, g15])) | (refine AM.stabL_ptr (by omega) (by omega) ?_; (simp (maxSteps := 1000000) (disch := first | omega | (simp only [AM.DB, List.length_set, List.length_map]; first | done | omega)) only [AM.RB, Nat.reduceAdd, Nat.reduceMul, Nat.reduceEqDiff, reduceCtorEq, b88_PR2, g12, g13, g14, g15])) | (refine AM.stabL_string (by omega) ?_; (simp (maxSteps := 1000000) (disch := first | omega | (simp only [AM.DB, List.length_set, List.length_map]; first | done | omega)) only [AM.RB, Nat.reduceAdd, Nat.reduceMul, Nat.reduceEqDiff, reduceCtorEq, b88_PR2, g12, g13, g14, g15])) | (refine AM.stabL_bool (by omega) ?_; (simp (maxSteps := 1000000) (disch := first | omega | (simp only [AM.DB, List.length_set, List.length_map]; first | done | omega)) only [AM.RB, Nat.reduceAdd, Nat.reduceMul, Nat.reduceEqDiff, reduceCtorEq, b88_PR2, g12, g13, g14, g15])) | (refine AM.stabL_rd rb3 (by omega) (by omega) ?_; (simp (maxSteps := 1000000) (disch := first | omega | (simp only [AM.DB, List.length_set, List.length_map]; first | done | omega)) only [AM.RB, Nat.reduceAdd, Nat.reduceMul, Nat.reduceEqDiff, reduceCtorEq, b88_PR2, g12, g13, g14, g15])) | (refine AM.stabL_elS rb3 (by omega) (by omega) ?_; (simp (maxSteps := 1000000) (disch := first | omega | (simp only [AM.DB, List.length_set, List.length_map]; first | done | omega)) only [AM.RB, Nat.reduceAdd, Nat.reduceMul, Nat.reduceEqDiff, reduceCtorEq, b88_PR2, g12, g13, g14, g15])) | (refine AM.stabL_elI rb3 (by omega) (by omega) ?_; (simp (maxSteps := 1000000) (disch := first | omega | (simp only [AM.DB, List.length_set, List.length_map]; first | done | omega)) only [AM.RB, Nat.reduceAdd, Nat.reduceMul, Nat.reduceEqDiff, reduceCtorEq, b88_PR2, g12, g13, g14, g15]))))))
  (repeat' (first | (simp (maxSteps := 1000000) (disch := first | omega | (simp only [AM.DB, List.length_set, List.length_map]; first | done | omega)) only [AM.RB, Nat.reduceAdd, Nat.reduceMul, Nat.reduceEqDiff, reduceCtorEq, b88_PR2, g5]) | refine AM.drawW_loose (id := 1) hp (by kernel_rfl) (by kernel_rfl) ?_ | refine AM.opW_tied (by kernel_rfl) ?_ | refine AM.opW_untied (by kernel_rfl) ?_ | refine AM.build_w ?_))
  have e1 : ∀ id, h2.next ≤ id → ¬ id = h.next + 1 := fun id q => by omega
  refine hq _ _ _ _ _ _ _ (Fr.fresh (fr02.trans fr24) fr5 (fun id e => by have e : id = h.next + 1 := e; omega)) ⟨_, _, rfl, (o3.fr0 fr4).fr fr5 (fun id q => e1 id (hid3 id q)), o4.fr fr5 (fun id q => e1 id (by have := hid4 id q; omega)), fun id q => ?_, fun id q1 q2 => ?_⟩
  · rcases q with q | q
    · have := hid3 id q; omega
    · have := hid4 id q; omega
  · have := o3.lt q1; have := hid4 id q2; omega
set_option maxHeartbeats 4000000 in
theorem turn_w {h : AHeap} {L : List (List UInt8)} {s : St} {x : Sp} {n : Nat} {a b : Value} (m : May L s x) (hln : s.2.length = L.flatten.length) (st : StO n h (.agg #[a, b]) s) (hl : h.low ≤ h.next) {Q : VQ}
    (hq : ∀ h', StO n h' (.agg #[a, b]) (turnS s x) → Fr (fun id => idOf a id ∨ idOf b id) h h' → Q (.tuple #[]) h') : W 89 [.agg #[a, b], spV x] h Q := by
  obtain ⟨a', b', e, oa, ob, hid, hap⟩ := st
  cases e
  obtain ⟨aa, ac, rfl⟩ := oa.form
  obtain ⟨ba, bc, rfl⟩ := ob.form
  have d01 : decide ((0 : Int) = 1) = false := rfl
  have d02 : decide ((0 : Int) = 2) = false := rfl
  have d03 : decide ((0 : Int) = 3) = false := rfl
  have d21 : decide ((2 : Int) = 1) = false := rfl
  have d31 : decide ((3 : Int) = 1) = false := rfl
  have d32 : decide ((3 : Int) = 2) = false := rfl
  have d11 : decide ((1 : Int) = 1) = true := rfl
  have d22 : decide ((2 : Int) = 2) = true := rfl
  have d33 : decide ((3 : Int) = 3) = true := rfl
  refine AM.enter hp (fn := Tryd.f89) (rs := []) (nt := 31) (by kernel_rfl) Tryd.func89 rfl rfl rfl (by kernel_rfl) ?_
  simp (maxSteps := 1000000) (disch := first | omega | (simp only [AM.DB, List.length_set, List.length_map]; first | done | omega)) only [AM.RB, Nat.reduceAdd, Nat.reduceMul, Nat.reduceEqDiff, reduceCtorEq, b89_PR2]
  generalize hE_ : AHeap.alloc h _ = h1; obtain ⟨g1, fr1, n1, l1⟩ := AM.new_get hE_; clear hE_
  generalize hE_ : AHeap.alloc h1 _ = h2; obtain ⟨g2, fr2, n2, l2⟩ := AM.new_get hE_; clear hE_
  rw [n1] at g2
  have g12 := g1.fr0 fr2
  have fr02 := fr1.trans fr2
  have nx2 := fr02.next
  have lw2 := fr02.low
  have oa2 := oa.fr0 fr02
  have ob2 := ob.fr0 fr02
  cases m with
  | none =>
    (first | (simp (maxSteps := 1000000) (disch := first | omega | (simp only [AM.DB, List.length_set, List.length_map]; first | done | omega)) only [AM.RB, Nat.reduceAdd, Nat.reduceMul, Nat.reduceEqDiff, reduceCtorEq, b89_PR2, g12, g2, d01, d02, d03]) | skip)
    exact hq _ ⟨_, _, rfl, oa2, ob2, hid, hap⟩ (fr02.mono fun _ _ q => q.elim)
  | grant r c hr hf hc hh =>
    (first | (simp (maxSteps := 1000000) (disch := first | omega | (simp only [AM.DB, List.length_set, List.length_map]; first | done | omega)) only [AM.RB, Nat.reduceAdd, Nat.reduceMul, Nat.reduceEqDiff, reduceCtorEq, b89_PR2, g12, g2, d11, ob2.ia el_22, Int.toNat_natCast]) | skip)
    refine ob2.st sz_3 (j := c) (by omega) rfl rfl fun h3 o3 fr3 n3 => ?_
    rw [map_set'] at o3
    (first | (simp (maxSteps := 1000000) (disch := first | omega | (simp only [AM.DB, List.length_set, List.length_map]; first | done | omega)) only [AM.RB, Nat.reduceAdd, Nat.reduceMul, Nat.reduceEqDiff, reduceCtorEq, b89_PR2]) | skip)
    refine hq _ ⟨_, _, rfl, oa2.fr fr3 hap, ?_, hid, hap⟩ ((fr02.mono fun _ _ q => q.elim).trans (fr3.mono fun _ _ q => .inr q))
    have e : (turnS s (1, (r : Int), (c : Int))).2 = s.2.set c r := rfl
    rw [e, List.length_set]; exact o3
  | release r c hr hf hc hh hn =>
    (first | (simp (maxSteps := 1000000) (disch := first | omega | (simp only [AM.DB, List.length_set, List.length_map]; first | done | omega)) only [AM.RB, Nat.reduceAdd, Nat.reduceMul, Nat.reduceEqDiff, reduceCtorEq, b89_PR2, g12, g2, d21, d22, ob2.ia el_22, Int.toNat_natCast]) | skip)
    refine ob2.st sz_3 (j := c) (by omega) rfl rfl fun h3 o3 fr3 n3 => ?_
    rw [map_set'] at o3
    (first | (simp (maxSteps := 1000000) (disch := first | omega | (simp only [AM.DB, List.length_set, List.length_map]; first | done | omega)) only [AM.RB, Nat.reduceAdd, Nat.reduceMul, Nat.reduceEqDiff, reduceCtorEq, b89_PR2]) | skip)
    refine hq _ ⟨_, _, rfl, oa2.fr fr3 hap, ?_, hid, hap⟩ ((fr02.mono fun _ _ q => q.elim).trans (fr3.mono fun _ _ q => .inr q))
    have e : (turnS s (2, (r : Int), (c : Int))).2 = s.2.set c (-1) := rfl
    rw [e, List.length_set]; exact o3
  | move r c hr hf hc hh he =>
    (first | (simp (maxSteps := 1000000) (disch := first | omega | (simp only [AM.DB, List.length_set, List.length_map]; first | done | omega)) only [AM.RB, Nat.reduceAdd, Nat.reduceMul, Nat.reduceEqDiff, reduceCtorEq, b89_PR2, g12, g2, d31, d32, d33, oa2.ia el_22, Int.toNat_natCast]) | skip)
    refine oa2.st sz_3 (j := r) (by omega) rfl rfl fun h3 o3 fr3 n3 => ?_
    rw [map_set'] at o3
    (first | (simp (maxSteps := 1000000) (disch := first | omega | (simp only [AM.DB, List.length_set, List.length_map]; first | done | omega)) only [AM.RB, Nat.reduceAdd, Nat.reduceMul, Nat.reduceEqDiff, reduceCtorEq, b89_PR2]) | skip)
    refine hq _ ⟨_, _, rfl, ?_, ob2.fr fr3 (fun id q1 q2 => hap id q2 q1), hid, hap⟩ ((fr02.mono fun _ _ q => q.elim).trans (fr3.mono fun _ _ q => .inl q))
    have e : (turnS s (3, (r : Int), (c : Int))).1 = s.1.set r c := rfl
    rw [e, List.length_set]; exact o3
set_option maxHeartbeats 4000000 in
theorem pMay_w {h : AHeap} {p : Nat} {L : List (List UInt8)} {B : Nat → Prop} {v : Value} {s : St} (m : Mk h p L B) (f : Fit L) (hw : h.get GW = some (.cells waysC 166 false)) (hgl : GW < h.low) (hl : h.low ≤ h.next) (hs : StR h v s) (x : Sp) {Q : VQ}
    (hq : ∀ h', Mk h' p L B → Fr (fun id => id = p) h h' → Q (.int .i64 (if (chk L.flatten s && may L s x) = true then 0 else 250)) h') : W 51 [pv p, v, spV x] h Q := by
  obtain ⟨a, b, rfl, ra, rb⟩ := id hs
  obtain ⟨aa, ac, rfl⟩ := ra.form
  obtain ⟨ba, bc, rfl⟩ := rb.form
  have d250 : decide ((250 : Int) = 0) = false := rfl
  have d00 : decide ((0 : Int) = 0) = true := rfl
  refine AM.enter hp (fn := Tryd.f51) (rs := [.tmp 6]) (nt := 19) (by kernel_rfl) Tryd.func51 rfl rfl rfl (by kernel_rfl) ?_
  simp (maxSteps := 1000000) (disch := first | omega | (simp only [AM.DB, List.length_set, List.length_map]; first | done | omega)) only [AM.RB, Nat.reduceAdd, Nat.reduceMul, Nat.reduceEqDiff, reduceCtorEq, b51_PR2]
  generalize hE_ : AHeap.alloc h _ = h1; obtain ⟨g1, fr1, n1, l1⟩ := AM.new_get hE_; clear hE_
  generalize hE_ : AHeap.alloc h1 _ = h2; obtain ⟨g2, fr2, n2, l2⟩ := AM.new_get hE_; clear hE_
  rw [n1] at g2
  have g12 := g1.fr0 fr2
  have fr02 := fr1.trans fr2
  have nx2 := fr02.next
  have lw2 := fr02.low
  obtain ⟨_, _, mm2⟩ := (m.fr0 fr02).mp
  (first | (simp (maxSteps := 1000000) (disch := first | omega | (simp only [AM.DB, List.length_set, List.length_map]; first | done | omega)) only [AM.RB, Nat.reduceAdd, Nat.reduceMul, Nat.reduceEqDiff, reduceCtorEq, b51_PR2, g12]) | skip)
  refine check_w mm2 f (hs.fr0 fr02) (by omega) fun h3 fr3 => ?_
  have fr03 := fr02.trans fr3
  have nx3 := fr3.next
  have lw3 := fr3.low
  cases hc : chk L.flatten s
  · rw [hc] at hq
    simp only [Bool.false_and, Bool.false_eq_true, if_false] at hq ⊢
    (first | (simp (maxSteps := 1000000) (disch := first | omega | (simp only [AM.DB, List.length_set, List.length_map]; first | done | omega)) only [AM.RB, Nat.reduceAdd, Nat.reduceMul, Nat.reduceEqDiff, reduceCtorEq, b51_PR2, d250]) | skip)
    exact hq _ (m.fr0 fr03) (fr03.mono fun _ _ q => q.elim)
  rw [hc] at hq
  simp only [Bool.true_and, if_true] at hq ⊢
  have hx_1 := g12.fr0 fr3
  have hx_2 := g2.fr0 fr3
  (first | (simp (maxSteps := 1000000) (disch := first | omega | (simp only [AM.DB, List.length_set, List.length_map]; first | done | omega)) only [AM.RB, Nat.reduceAdd, Nat.reduceMul, Nat.reduceEqDiff, reduceCtorEq, b51_PR2, d00, hx_1, hx_2]) | skip)
  refine pmay_w (m.fr0 fr03) f (hw.fr0 fr03) (by omega) (by omega) (hs.fr0 fr03) (((chk_iff _ _).1 hc).ln) x fun h4 m4 fr4 => ?_
  have toP := (fr03.mono fun _ _ q => q.elim).trans fr4
  cases hm : may L s x
  · rw [hm] at hq
    simp only [Bool.false_eq_true, if_false] at hq
    (first | (simp (maxSteps := 1000000) (disch := first | omega | (simp only [AM.DB, List.length_set, List.length_map]; first | done | omega)) only [AM.RB, Nat.reduceAdd, Nat.reduceMul, Nat.reduceEqDiff, reduceCtorEq, b51_PR2]) | skip)
    exact hq _ m4 toP
  · rw [hm] at hq
    simp only [if_true] at hq
    (first | (simp (maxSteps := 1000000) (disch := first | omega | (simp only [AM.DB, List.length_set, List.length_map]; first | done | omega)) only [AM.RB, Nat.reduceAdd, Nat.reduceMul, Nat.reduceEqDiff, reduceCtorEq, b51_PR2]) | skip)
    exact hq _ m4 toP
set_option maxHeartbeats 4000000 in
theorem pDo_w {h : AHeap} {p : Nat} {L : List (List UInt8)} {B : Nat → Prop} {v : Value} {s : St} (m : Mk h p L B) (f : Fit L) (hw : h.get GW = some (.cells waysC 166 false)) (hgl : GW < h.low) (hl : h.low ≤ h.next) (hs : StR h v s) (hvp : ∀ a b, v = .agg #[a, b] → ∀ id, idOf a id ∨ idOf b id → id ≠ p) (hn1 : s.1.length ≤ 4000000) (hn2 : s.2.length ≤ 4000000) (x : Sp) {Q : VQ}
    (hq : ∀ a1 m1 c1 a2 m2 c2 h', Mk h' p L (fun id => B id ∨ idOf (.slice a1 m1 c1) id ∨ idOf (.slice a2 m2 c2) id) → Fr (fun id => id = p) h h' → ((chk L.flatten s && may L s x) = true → StO h.next h' (.agg #[.slice a1 m1 c1, .slice a2 m2 c2]) (turnS s x)) → Q (.tuple #[.agg #[.slice a1 m1 c1, .slice a2 m2 c2], .int .i64 (if (chk L.flatten s && may L s x) = true then 0 else 250)]) h') : W 50 [pv p, v, spV x] h Q := by
  obtain ⟨a, b, rfl, ra, rb⟩ := id hs
  obtain ⟨aa, ac, rfl⟩ := ra.form
  obtain ⟨ba, bc, rfl⟩ := rb.form
  have hlt := m.lt
  have d250 : decide ((250 : Int) = 0) = false := rfl
  have d00 : decide ((0 : Int) = 0) = true := rfl
  refine AM.enter hp (fn := Tryd.f50) (rs := [.cell 6 59, .tmp 7]) (nt := 24) (by kernel_rfl) Tryd.func50 rfl rfl rfl (by kernel_rfl) ?_
  simp (maxSteps := 1000000) (disch := first | omega | (simp only [AM.DB, List.length_set, List.length_map]; first | done | omega)) only [AM.RB, Nat.reduceAdd, Nat.reduceMul, Nat.reduceEqDiff, reduceCtorEq, b50_PR2]
  generalize hE_ : AHeap.alloc h _ = h1; obtain ⟨g1, fr1, n1, l1⟩ := AM.new_get hE_; clear hE_
  generalize hE_ : AHeap.alloc h1 _ = h2; obtain ⟨g2, fr2, n2, l2⟩ := AM.new_get hE_; clear hE_
  rw [n1] at g2
  generalize hE_ : AHeap.alloc h2 _ = h3; obtain ⟨g3, fr3, n3, l3⟩ := AM.new_get hE_; clear hE_
  rw [n2, n1] at g3
  have fr03 := (fr1.trans fr2).trans fr3
  have g13 := (g1.fr0 fr2).fr0 fr3
  have g23 := g2.fr0 fr3
  have nx3 := fr03.next
  have lw3 := fr03.low
  have m3 := m.fresh fr03
  (repeat' (first | (simp (maxSteps := 1000000) (disch := first | omega | (simp only [AM.DB, List.length_set, List.length_map]; first | done | omega)) only [AM.RB, Nat.reduceAdd, Nat.reduceMul, Nat.reduceEqDiff, reduceCtorEq, b50_PR2, g13, g23]) | refine AM.build_w ?_))
  refine pMay_w m3 f (hw.fr0 fr03) (by omega) (by omega) (hs.fr0 fr03) x fun h4 m4 fr4 => ?_
  have nx4 := fr4.next
  have lw4 := fr4.low
  have g14 := fr4.get g13 (show ¬ h.next = p by omega)
  have g24 := fr4.get g23 (show ¬ h.next + 1 = p by omega)
  have g34 := fr4.get g3 (show ¬ h.next + 1 + 1 = p by omega)
  have toP := (fr03.mono (T := fun id => id = p) fun _ _ q => q.elim).trans fr4
  cases hb : (chk L.flatten s && may L s x)
  · rw [hb] at hq
    simp only [Bool.false_eq_true, if_false] at hq ⊢
    (repeat' (first | (simp (maxSteps := 1000000) (disch := first | omega | (simp only [AM.DB, List.length_set, List.length_map]; first | done | omega)) only [AM.RB, Nat.reduceAdd, Nat.reduceMul, Nat.reduceEqDiff, reduceCtorEq, b50_PR2, d250, g34]) | refine AM.build_w ?_))
    generalize hE_ : AHeap.put h4 _ _ = h5; obtain ⟨g5, fr5, n5, l5⟩ := AM.put_get hE_ (by omega); clear hE_
    (repeat' (first | (simp (maxSteps := 1000000) (disch := first | omega | (simp only [AM.DB, List.length_set, List.length_map]; first | done | omega)) only [AM.RB, Nat.reduceAdd, Nat.reduceMul, Nat.reduceEqDiff, reduceCtorEq, b50_PR2, g5]) | refine AM.build_w ?_))
    refine hq _ _ _ _ _ _ _ (((m4.frB fr5 (fun id e => .inr (by have e : id = h.next + 1 + 1 := e; omega))).sub fun id q => ?_)) (toP.then fr5 (fun id q1 e => by have e : id = h.next + 1 + 1 := e; omega)) (fun e => by cases e)
    rcases q with q | q | q
    · exact .inl q
    · exact q.elim
    · exact q.elim
  rw [hb] at hq
  simp only [if_true] at hq ⊢
  have hs4 : StR h4 (.agg #[.slice aa s.1.length ac, .slice ba s.2.length bc]) s := (hs.fr0 fr03).frp (fun x y e => by
    cases e
    exact ⟨fun id q => hvp _ _ rfl id (.inl q), fun id q => hvp _ _ rfl id (.inr q)⟩) fr4
  (repeat' (first | (simp (maxSteps := 1000000) (disch := first | omega | (simp only [AM.DB, List.length_set, List.length_map]; first | done | omega)) only [AM.RB, Nat.reduceAdd, Nat.reduceMul, Nat.reduceEqDiff, reduceCtorEq, b50_PR2, d00, g14]) | refine AM.build_w ?_))
  refine twin_w hs4 (by omega) (by omega) (by omega) fun a1 m1 c1 a2 m2 c2 h5 fr5 st5 => ?_
  have nx5 := fr5.next
  have lw5 := fr5.low
  have g25 := g24.fr0 fr5
  have g35 := g34.fr0 fr5
  have m5 := m4.fresh fr5
  rw [Bool.and_eq_true] at hb
  have ch := (chk_iff _ _).1 hb.1
  have my := (may_iff _ _ _).1 hb.2
  (repeat' (first | (simp (maxSteps := 1000000) (disch := first | omega | (simp only [AM.DB, List.length_set, List.length_map]; first | done | omega)) only [AM.RB, Nat.reduceAdd, Nat.reduceMul, Nat.reduceEqDiff, reduceCtorEq, b50_PR2, g25]) | refine AM.build_w ?_))
  generalize hE_ : AHeap.put (AHeap.alloc h5 _) _ _ = h6; obtain ⟨g6, fr6, n6, l6⟩ := AM.box_get hE_ (by omega); clear hE_
  have nx6 := fr6.next
  have lw6 := fr6.low
  have m6 := m5.fresh fr6
  have hx_3 := g25.fr0 fr6
  (repeat' (first | (simp (maxSteps := 1000000) (disch := first | omega | (simp only [AM.DB, List.length_set, List.length_map]; first | done | omega)) only [AM.RB, Nat.reduceAdd, Nat.reduceMul, Nat.reduceEqDiff, reduceCtorEq, b50_PR2, g6, hx_3]) | refine AM.build_w ?_))
  have hlt5 : ∀ id, idOf (.slice a1 m1 c1) id ∨ idOf (.slice a2 m2 c2) id → h4.next ≤ id ∧ id < h5.next := fun id q => by
    obtain ⟨x1, x2, e, o1, o2, hid, _⟩ := st5
    cases e
    refine ⟨hid id q, ?_⟩
    rcases q with q | q
    · exact o1.lt q
    · exact o2.lt q
  refine turn_w my ch.ln (st5.fr0 fr6) (by omega) fun h7 st7 fr7 => ?_
  have nx7 := fr7.next
  have lw7 := fr7.low
  have g67 := fr7.get g6 (fun q => by have := hlt5 _ q; omega)
  have g37 := fr7.get (g35.fr0 fr6) (fun q => by have := hlt5 _ q; omega)
  have m7 := m6.frB fr7 (fun id q => .inl (.inr (hlt5 id q)))
  (repeat' (first | (simp (maxSteps := 1000000) (disch := first | omega | (simp only [AM.DB, List.length_set, List.length_map]; first | done | omega)) only [AM.RB, Nat.reduceAdd, Nat.reduceMul, Nat.reduceEqDiff, reduceCtorEq, b50_PR2, g67, g37]) | refine AM.build_w ?_))
  generalize hE_ : AHeap.put h7 _ _ = h8; obtain ⟨g8, fr8, n8, l8⟩ := AM.put_get hE_ (by omega); clear hE_
  (repeat' (first | (simp (maxSteps := 1000000) (disch := first | omega | (simp only [AM.DB, List.length_set, List.length_map]; first | done | omega)) only [AM.RB, Nat.reduceAdd, Nat.reduceMul, Nat.reduceEqDiff, reduceCtorEq, b50_PR2, g8]) | refine AM.build_w ?_))
  have frF := (((toP.trans ((fr5.trans fr6).mono fun _ _ q => q.elim)).then fr7 (fun id q1 q2 => by have := (hlt5 id q2).1; omega)).then fr8 (fun id q1 e => by have e : id = h.next + 1 + 1 := e; omega))
  refine hq _ _ _ _ _ _ _ ((m7.frB fr8 (fun id e => .inl (.inl (.inr (by have e : id = h.next + 1 + 1 := e; omega))))).sub fun id q => ?_) frF (fun _ => ((st7.fr fr8 (fun id q e => by have e : id = h.next + 1 + 1 := e; omega)).weak (by omega)))
  rcases q with q | q
  · exact .inl (.inl (.inl q))
  · exact .inl (.inr (hlt5 id q))

end Go.Proofs.YtbaohngkapmhlaaDoor

namespace Go.Proofs.YtbaohngkapmhlaaDoor
open Go.AM
set_option maxRecDepth 8000
theorem b47_PR3 : type_of% (And.intro (@AM.alK_some) (And.intro (@al_59) (And.intro (@AM.bdV_some) (And.intro (@bd_59) (And.intro (@AM.bin_add) (And.intro (@AM.bin_lss) (And.intro (@AM.bin_neq) (And.intro (AM.bsW_int bs_22) (And.intro (AM.bsW_nil bs_22) (And.intro (AM.bsW_slice bs_22) (And.intro (AM.bsW_string bs_22) (And.intro (@AM.fa_ptr) (And.intro (@fd_59_1) (And.intro (@AM.fillL_cons) (And.intro (@AM.fillL_nil) (And.intro (@AM.fillS_agg) (And.intro (@AM.fillS_bool) (And.intro (@AM.fillS_func) (And.intro (@AM.fillS_int) (And.intro (@AM.fillS_map) (And.intro (@AM.fillS_pointer) (And.intro (@AM.fillS_slice) (And.intro (@AM.fillS_string) (And.intro (@AM.iaO_ok) (And.intro (AM.ia_slice el_22) (And.intro (@AM.ldO_agg) (And.intro (@AM.ldO_one) (And.intro (@AM.ld_ptr) (And.intro (AM.len_slice ul_22) (And.intro (@lk_22) (And.intro (@lk_3) (And.intro (@lk_59) (And.intro (@AM.op_alloc) (And.intro (@AM.op_binOp) (And.intro (@AM.op_build) (And.intro (@AM.op_buildSlice) (And.intro (@AM.op_call) (And.intro (@AM.op_fieldAddr) (And.intro (@AM.op_indexAddr) (And.intro (@AM.op_len) (And.intro (@AM.op_load) (And.intro (@AM.op_store) (And.intro (@AM.op_unOp) (And.intro (@AM.resL_two) (And.intro (@AM.res_cell) (And.intro (@AM.stO_agg) (And.intro (@AM.stO_bool) (And.intro (@AM.stO_int) (And.intro (@AM.stO_map) (And.intro (@AM.stO_pointer) (And.intro (@AM.stO_slice) (And.intro (@AM.stO_string) (And.intro (@AM.st_ptr) (And.intro (@sz_3) (And.intro (@sz_59) (And.intro (@AM.un_neg) (@AM.un_not))))))))))))))))))))))))))))))))))))))))))))))))))))))))) := And.intro (@AM.alK_some) (And.intro (@al_59) (And.intro (@AM.bdV_some) (And.intro (@bd_59) (And.intro (@AM.bin_add) (And.intro (@AM.bin_lss) (And.intro (@AM.bin_neq) (And.intro (AM.bsW_int bs_22) (And.intro (AM.bsW_nil bs_22) (And.intro (AM.bsW_slice bs_22) (And.intro (AM.bsW_string bs_22) (And.intro (@AM.fa_ptr) (And.intro (@fd_59_1) (And.intro (@AM.fillL_cons) (And.intro (@AM.fillL_nil) (And.intro (@AM.fillS_agg) (And.intro (@AM.fillS_bool) (And.intro (@AM.fillS_func) (And.intro (@AM.fillS_int) (And.intro (@AM.fillS_map) (And.intro (@AM.fillS_pointer) (And.intro (@AM.fillS_slice) (And.intro (@AM.fillS_string) (And.intro (@AM.iaO_ok) (And.intro (AM.ia_slice el_22) (And.intro (@AM.ldO_agg) (And.intro (@AM.ldO_one) (And.intro (@AM.ld_ptr) (And.intro (AM.len_slice ul_22) (And.intro (@lk_22) (And.intro (@lk_3) (And.intro (@lk_59) (And.intro (@AM.op_alloc) (And.intro (@AM.op_binOp) (And.intro (@AM.op_build) (And.intro (@AM.op_buildSlice) (And.intro (@AM.op_call) (And.intro (@AM.op_fieldAddr) (And.intro (@AM.op_indexAddr) (And.intro (@AM.op_len) (And.intro (@AM.op_load) (And.intro (@AM.op_store) (And.intro (@AM.op_unOp) (And.intro (@AM.resL_two) (And.intro (@AM.res_cell) (And.intro (@AM.stO_agg) (And.intro (@AM.stO_bool) (And.intro (@AM.stO_int) (And.intro (@AM.stO_map) (And.intro (@AM.stO_pointer) (And.intro (@AM.stO_slice) (And.intro (@AM.stO_string) (And.intro (@AM.st_ptr) (And.intro (@sz_3) (And.intro (@sz_59) (And.intro (@AM.un_neg) (@AM.un_not))))))))))))))))))))))))))))))))))))))))))))))))))))))))
set_option maxHeartbeats 8000000 in
theorem start_w {h : AHeap} {p : Nat} {L : List (List UInt8)} {B : Nat → Prop} {v : Value} {P : List Int} (m : Mk h p L B) (f : Fit L) (hP : Rd h 3 1 v P.length (P.map (.int .i64))) (hn : P.length ≤ 4000000) (hl : h.low ≤ h.next) {Q : VQ}
    (hq : ∀ a1 m1 c1 a2 m2 c2 h', Mk h' p L (fun id => B id ∨ idOf (.slice a1 m1 c1) id ∨ idOf (.slice a2 m2 c2) id) → Fr none' h h' → (chk L.flatten (startS L.flatten P) = true → StO h.next h' (.agg #[.slice a1 m1 c1, .slice a2 m2 c2]) (startS L.flatten P)) → (chk L.flatten (startS L.flatten P) = false → Value.agg #[.slice a1 m1 c1, .slice a2 m2 c2] = Value.agg #[.slice none 0 0, .slice none 0 0]) → Q (.tuple #[.agg #[.slice a1 m1 c1, .slice a2 m2 c2], .int .i64 (if chk L.flatten (startS L.flatten P) = true then 0 else 250)]) h') : W 47 [pv p, v] h Q := by
  obtain ⟨pa, pc, rfl⟩ := hP.form
  have hK := f.k1024
  have flen := f.len
  have hbd : L.length ≤ 4000000 ∧ (L.getD 0 []).length ≤ 4000000 := by have := f.r32; have := f.c32; omega
  have hpos : 0 < L.length * (L.getD 0 []).length := Nat.mul_pos f.rows f.cols
  have d250 : decide ((250 : Int) = 0) = false := rfl
  have d00 : decide ((0 : Int) = 0) = true := rfl
  refine AM.enter hp (fn := Tryd.f47) (rs := [.cell 4 59, .tmp 5]) (nt := 54) (by kernel_rfl) Tryd.func47 rfl rfl rfl (by kernel_rfl) ?_
  simp (maxSteps := 1000000) (disch := first | omega | (simp only [AM.DB, List.length_set, List.length_map]; first | done | omega)) only [AM.RB, Nat.reduceAdd, Nat.reduceMul, Nat.reduceEqDiff, reduceCtorEq, b47_PR3]
  generalize hE_ : AHeap.alloc h _ = h1; obtain ⟨g1, fr1, n1, l1⟩ := AM.new_get hE_; clear hE_
  obtain ⟨kv, tl, mm1⟩ := (m.fr0 fr1).mp
  (repeat' (first | (simp (maxSteps := 1000000) (disch := first | omega | (simp only [AM.DB, List.length_set, List.length_map]; first | done | omega)) only [AM.RB, Nat.reduceAdd, Nat.reduceMul, Nat.reduceEqDiff, reduceCtorEq, b47_PR3]) | refine AM.build_w ?_))
  refine pnone_w mm1 f ?_
  (repeat' (first | (simp (maxSteps := 1000000) (disch := first | omega | (simp only [AM.DB, List.length_set, List.length_map]; first | done | omega)) only [AM.RB, Nat.reduceAdd, Nat.reduceMul, Nat.reduceEqDiff, reduceCtorEq, b47_PR3]) | refine AM.build_w ?_))
  refine cloneI_w (hP.fr0 fr1) (by omega) (by omega) fun va h2 o2 fr2 hid2 => ?_
  obtain ⟨vaa, vac, rfl⟩ := o2.form
  have nx2 := fr2.next
  have lw2 := fr2.low
  (repeat' (first | (simp (maxSteps := 1000000) (disch := first | omega | (simp only [AM.DB, List.length_set, List.length_map]; first | done | omega)) only [AM.RB, Nat.reduceAdd, Nat.reduceMul, Nat.reduceEqDiff, reduceCtorEq, b47_PR3]) | refine AM.build_w ?_))
  generalize hE_ : AHeap.alloc h2 _ = h3; obtain ⟨g3, fr3, n3, l3⟩ := AM.new_get hE_; clear hE_
  have fr13 := fr2.trans fr3
  refine cells_w (mm1.fr0 fr13) f.rows hbd _ ?_
  (repeat' (first | (simp (maxSteps := 1000000) (disch := first | omega | (simp only [AM.DB, List.length_set, List.length_map]; first | done | omega)) only [AM.RB, Nat.reduceAdd, Nat.reduceMul, Nat.reduceEqDiff, reduceCtorEq, b47_PR3]) | refine AM.build_w ?_))
  refine repeat_w (x := -1) (AM.Rd.whole (n := 1) (c := [.int .i64 (-1)]) g3 rfl) hpos (by omega) (by omega) fun wa h4 o4 fr4 hid4 => ?_
  obtain ⟨waa, wac, rfl⟩ := o4.form
  have nx4 := fr4.next
  have lw4 := fr4.low
  have lt2 : ∀ id, idOf (.slice vaa P.length vac) id → h1.next ≤ id ∧ id < h2.next := fun id q => ⟨hid2 id q, o2.lt q⟩
  (repeat' (first | (simp (maxSteps := 1000000) (disch := first | omega | (simp only [AM.DB, List.length_set, List.length_map]; first | done | omega)) only [AM.RB, Nat.reduceAdd, Nat.reduceMul, Nat.reduceEqDiff, reduceCtorEq, b47_PR3]) | refine AM.build_w ?_))
  generalize hE_ : AHeap.put (AHeap.alloc h4 _) _ _ = h5; obtain ⟨g5, fr5, n5, l5⟩ := AM.box_get hE_ (by omega); clear hE_
  have nx5 := fr5.next
  have lw5 := fr5.low
  have fr15 := (fr13.trans fr4).trans fr5
  have fr05 := fr1.trans fr15
  have o25 := o2.fr0 ((fr3.trans fr4).trans fr5)
  have o45 := o4.fr0 fr5
  rw [← flen] at o45
  have st5 : StO h.next h5 (.agg #[.slice vaa P.length vac, .slice waa L.flatten.length wac]) (P, hoS L.flatten.length P 0) := ⟨_, _, rfl, o25, by
    show Ow h5 _ 1 _ (List.replicate L.flatten.length (-1 : Int)).length ((List.replicate L.flatten.length (-1 : Int)).map (.int .i64))
    rw [List.length_replicate]; exact o45, fun id q => by
      rcases q with q | q
      · have := lt2 id q; omega
      · have := hid4 id (by rw [← flen]; exact q); omega, fun id q1 q2 => by
      have := lt2 id q1; have := hid4 id (by rw [← flen]; exact q2); omega⟩
  have lt45 : h4.next < h5.next := AM.get_some_lt g5
  have hw45 : ∀ id, idOf (.slice waa L.flatten.length wac) id → h2.next + 1 ≤ id ∧ id < h4.next := fun id q => by
    rw [flen] at q
    have := hid4 id q
    have := o4.lt q
    omega
  have g15 := g1.fr0 fr15
  rw [← flen] at *
  (repeat' (first | (simp (maxSteps := 1000000) (disch := first | omega | (simp only [AM.DB, List.length_set, List.length_map]; first | done | omega)) only [AM.RB, Nat.reduceAdd, Nat.reduceMul, Nat.reduceEqDiff, reduceCtorEq, b47_PR3]) | refine AM.build_w ?_))
  refine AM.loop_w hp 54 (fun i : Nat => [(0, pv p), (4, pv h.next), (6, pv h4.next), (20, .slice pa P.length pc), (21, .int .i64 P.length), (22, .int .i64 i)])
    (fun i h' => i ≤ P.length ∧ Fr (idOf (.slice waa L.flatten.length wac)) h5 h' ∧ StO h.next h' (.agg #[.slice vaa P.length vac, .slice waa L.flatten.length wac]) (P, hoS L.flatten.length P i) ∧ ∀ j, j < i → freeP L.flatten (P.getD j 0) = true) (fun i => P.length - i) (by kernel_rfl) 0 ?_ ?_ ?_
  · simp (maxSteps := 1000000) (disch := first | omega | (simp only [AM.DB, List.length_set, List.length_map]; first | done | omega)) only [AM.RB, Nat.reduceAdd, Nat.reduceMul, Nat.reduceEqDiff, reduceCtorEq, b47_PR3]
    first | rfl | skip
  · exact ⟨Nat.zero_le _, Fr.refl _ _, st5, fun j hj => by omega⟩
  rintro i h6 ρ ⟨hi, fr6, st6, hfree⟩
  have nx6 := fr6.next
  have lw6 := fr6.low
  have fr06 : Fr none' h h6 := Fr.fresh fr05 fr6 (fun id q => by have := hw45 id q; omega)
  have fr16 : Fr none' h1 h6 := Fr.fresh fr15 fr6 (fun id q => by have := hw45 id q; omega)
  have g16 := fr6.get g15 (fun q => by have := hw45 _ q; omega)
  have g56 := fr6.get g5 (fun q => by have := hw45 _ q; omega)
  have mm6 := mm1.fr0 fr16
  have hP6 := hP.fr0 fr06
  have m6 := m.fresh fr06
  have hPlt : ∀ id, idOf (.slice vaa P.length vac) id → h.next ≤ id ∧ id < h6.next := fun id q => by have := lt2 id q; omega
  have hWlt : ∀ id, idOf (.slice waa L.flatten.length wac) id → h.next ≤ id ∧ id < h6.next := fun id q => by have := hw45 id q; omega
  have errEnd : ∀ h7, Fr (fun id => id = h.next) h6 h7 → chk L.flatten (startS L.flatten P) = false → Q (.tuple #[.agg #[.slice none 0 0, .slice none 0 0], .int .i64 250]) h7 := fun h7 fr7 e => by
    rw [e] at hq
    refine hq _ _ _ _ _ _ _ ((m6.frB fr7 (fun id e => .inr (by have e : id = h.next := e; omega))).sub fun id q => ?_) (Fr.fresh fr06 fr7 (fun id e => by have e : id = h.next := e; omega)) (fun e => by cases e) (fun _ => rfl)
    rcases q with q | q | q
    · exact .inl q
    · exact q.elim
    · exact q.elim
  simp (maxSteps := 1000000) (disch := first | omega | (simp only [AM.DB, List.length_set, List.length_map]; first | done | omega)) only [AM.RB, Nat.reduceAdd, Nat.reduceMul, Nat.reduceEqDiff, reduceCtorEq, b47_PR3]
  refine AM.condV_split (fun hlt => ?_) (fun hlt => ?_)
  · have hil : i < P.length := by omega
    obtain ⟨x, hx⟩ : ∃ x, P.getD i 0 = x := ⟨_, rfl⟩
    (repeat' (first | (simp (maxSteps := 1000000) (disch := first | omega | (simp only [AM.DB, List.length_set, List.length_map]; first | done | omega)) only [AM.RB, Nat.reduceAdd, Nat.reduceMul, Nat.reduceEqDiff, reduceCtorEq, b47_PR3, hP6.ia el_22, Rd.ldi hP6 lk_3, Int.toNat_natCast, hx]) | refine AM.build_w ?_))
    refine free_w mm6 f.rows x _ ?_
    cases hfx : freeP L.flatten x
    · have e := start_free hil (by rw [hx]; exact hfx)
      (repeat' (first | (simp (maxSteps := 1000000) (disch := first | omega | (simp only [AM.DB, List.length_set, List.length_map]; first | done | omega)) only [AM.RB, Nat.reduceAdd, Nat.reduceMul, Nat.reduceEqDiff, reduceCtorEq, b47_PR3, g16]) | refine AM.build_w ?_))
      generalize hE_ : AHeap.put h6 _ _ = h7; obtain ⟨g7, fr7, n7, l7⟩ := AM.put_get hE_ (by omega); clear hE_
      (repeat' (first | (simp (maxSteps := 1000000) (disch := first | omega | (simp only [AM.DB, List.length_set, List.length_map]; first | done | omega)) only [AM.RB, Nat.reduceAdd, Nat.reduceMul, Nat.reduceEqDiff, reduceCtorEq, b47_PR3, g7]) | refine AM.build_w ?_))
      exact errEnd _ fr7 e
    obtain ⟨x1, x2⟩ := freeP_in hfx
    obtain ⟨c, rfl⟩ := Int.eq_ofNat_of_zero_le x1
    obtain ⟨_, _, est, oa6, ow6, hid6, hap6⟩ := id st6
    cases est
    have hcl : c < L.flatten.length := by omega
    have hwl : (hoS L.flatten.length P i).length = L.flatten.length := hoS_len _ _ _
    simp only [hwl] at ow6
    have r6 := ow6.rd
    obtain ⟨y, hy⟩ : ∃ y, (hoS L.flatten.length P i).getD c 0 = y := ⟨_, rfl⟩
    by_cases ey : y = -1
    case neg =>
      have e := start_dup hil hfree (by rw [hx]; exact hfx) (by rw [hx, Int.toNat_natCast, hy]; exact ey)
      (repeat' (first | (simp (maxSteps := 1000000) (disch := first | omega | (simp only [AM.DB, List.length_set, List.length_map]; first | done | omega)) only [AM.RB, Nat.reduceAdd, Nat.reduceMul, Nat.reduceEqDiff, reduceCtorEq, b47_PR3, g16, g56, r6.ia el_22, Rd.ldi r6 lk_3, Int.toNat_natCast, hy, decide_eq_false ey]) | refine AM.build_w ?_))
      generalize hE_ : AHeap.put h6 _ _ = h7; obtain ⟨g7, fr7, n7, l7⟩ := AM.put_get hE_ (by omega); clear hE_
      (repeat' (first | (simp (maxSteps := 1000000) (disch := first | omega | (simp only [AM.DB, List.length_set, List.length_map]; first | done | omega)) only [AM.RB, Nat.reduceAdd, Nat.reduceMul, Nat.reduceEqDiff, reduceCtorEq, b47_PR3, g7]) | refine AM.build_w ?_))
      exact errEnd _ fr7 e
    (repeat' (first | (simp (maxSteps := 1000000) (disch := first | omega | (simp only [AM.DB, List.length_set, List.length_map]; first | done | omega)) only [AM.RB, Nat.reduceAdd, Nat.reduceMul, Nat.reduceEqDiff, reduceCtorEq, b47_PR3, g56, r6.ia el_22, Rd.ldi r6 lk_3, Int.toNat_natCast, hy, decide_eq_true ey]) | refine AM.build_w ?_))
    refine ow6.st sz_3 (j := c) (by omega) rfl rfl fun h7 o7 fr7 n7 => ?_
    rw [map_set'] at o7
    (repeat' (first | (simp (maxSteps := 1000000) (disch := first | omega | (simp only [AM.DB, List.length_set, List.length_map]; first | done | omega)) only [AM.RB, Nat.reduceAdd, Nat.reduceMul, Nat.reduceEqDiff, reduceCtorEq, b47_PR3, AM.wrap_i64]) | refine AM.build_w ?_))
    refine ⟨i + 1, by omega, congrArg _ (by omega), by omega, fr6.trans fr7, ⟨_, _, rfl, oa6.fr fr7 hap6, ?_, hid6, hap6⟩, fun j hj => ?_⟩
    · have e : hoS L.flatten.length P (i + 1) = (hoS L.flatten.length P i).set c i := by rw [hoS, hx, Int.toNat_natCast]
      show Ow h7 _ 1 _ (hoS L.flatten.length P (i + 1)).length ((hoS L.flatten.length P (i + 1)).map (.int .i64))
      rw [hoS_len, e]; exact o7
    · by_cases ej : j = i
      · subst ej; rw [hx]; exact hfx
      · exact hfree j (by omega)
  have ei : i = P.length := by omega
  subst ei
  have est : (P, hoS L.flatten.length P P.length) = startS L.flatten P := by unfold startS; rw [hoS_ref hfree]
  rw [est] at st6
  (repeat' (first | (simp (maxSteps := 1000000) (disch := first | omega | (simp only [AM.DB, List.length_set, List.length_map]; first | done | omega)) only [AM.RB, Nat.reduceAdd, Nat.reduceMul, Nat.reduceEqDiff, reduceCtorEq, b47_PR3, g56]) | refine AM.build_w ?_))
  refine check_w mm6 f st6.rd (by omega) fun h7 fr7 => ?_
  have nx7 := fr7.next
  have lw7 := fr7.low
  have g17 := g16.fr0 fr7
  have g57 := g56.fr0 fr7
  cases hc : chk L.flatten (startS L.flatten P)
  · simp only [Bool.false_eq_true, if_false]
    (repeat' (first | (simp (maxSteps := 1000000) (disch := first | omega | (simp only [AM.DB, List.length_set, List.length_map]; first | done | omega)) only [AM.RB, Nat.reduceAdd, Nat.reduceMul, Nat.reduceEqDiff, reduceCtorEq, b47_PR3, d250, g17]) | refine AM.build_w ?_))
    generalize hE_ : AHeap.put h7 _ _ = h8; obtain ⟨g8, fr8, n8, l8⟩ := AM.put_get hE_ (by omega); clear hE_
    (repeat' (first | (simp (maxSteps := 1000000) (disch := first | omega | (simp only [AM.DB, List.length_set, List.length_map]; first | done | omega)) only [AM.RB, Nat.reduceAdd, Nat.reduceMul, Nat.reduceEqDiff, reduceCtorEq, b47_PR3, g8]) | refine AM.build_w ?_))
    exact errEnd _ ((fr7.mono fun _ _ q => q.elim).trans fr8) hc
  · rw [hc] at hq
    simp only [if_true] at hq ⊢
    (repeat' (first | (simp (maxSteps := 1000000) (disch := first | omega | (simp only [AM.DB, List.length_set, List.length_map]; first | done | omega)) only [AM.RB, Nat.reduceAdd, Nat.reduceMul, Nat.reduceEqDiff, reduceCtorEq, b47_PR3, d00, g57, g17]) | refine AM.build_w ?_))
    generalize hE_ : AHeap.put h7 _ _ = h8; obtain ⟨g8, fr8, n8, l8⟩ := AM.put_get hE_ (by omega); clear hE_
    (repeat' (first | (simp (maxSteps := 1000000) (disch := first | omega | (simp only [AM.DB, List.length_set, List.length_map]; first | done | omega)) only [AM.RB, Nat.reduceAdd, Nat.reduceMul, Nat.reduceEqDiff, reduceCtorEq, b47_PR3, g8]) | refine AM.build_w ?_))
    refine hq _ _ _ _ _ _ _ ((((m6.fr0 fr7).frB fr8 (fun id e => .inr (by have e : id = h.next := e; omega))).sub fun id q => ?_)) (Fr.fresh (fr06.trans fr7) fr8 (fun id e => by have e : id = h.next := e; omega)) (fun _ => ?_) (fun e => by cases e)
    · rcases q with q | q | q
      · exact .inl q
      · exact .inr (hPlt id q)
      · exact .inr (hWlt id q)
    · obtain ⟨_, _, e, oa6, ow6, hid6, hap6⟩ := st6
      cases e
      exact ⟨_, _, rfl, (oa6.fr0 fr7).fr fr8 (fun id q e => by have e : id = h.next := e; have := lt2 id q; omega), (ow6.fr0 fr7).fr fr8 (fun id q e => by have e : id = h.next := e; have := hw45 id q; omega), hid6, hap6⟩
end Go.Proofs.YtbaohngkapmhlaaDoor

namespace Go.Proofs.YtbaohngkapmhlaaDoor
open Go.AM
set_option maxRecDepth 8000
theorem b52_PR4 : type_of% (And.intro (@AM.alK_some) (And.intro (@al_59) (And.intro (@al_65) (And.intro (@AM.bdV_some) (And.intro (@bd_59) (And.intro (@AM.bin_add) (And.intro (@AM.bin_lss) (And.intro (@AM.bin_neq) (And.intro (@AM.boxK_agg) (And.intro (@AM.boxK_bool) (And.intro (@AM.boxK_func) (And.intro (@AM.boxK_int) (And.intro (@AM.boxK_map) (And.intro (@AM.boxK_pointer) (And.intro (@AM.boxK_slice) (And.intro (@AM.boxK_string) (And.intro (@AM.fillL_cons) (And.intro (@AM.fillL_nil) (And.intro (@AM.fillS_agg) (And.intro (@AM.fillS_bool) (And.intro (@AM.fillS_func) (And.intro (@AM.fillS_int) (And.intro (@AM.fillS_map) (And.intro (@AM.fillS_pointer) (And.intro (@AM.fillS_slice) (And.intro (@AM.fillS_string) (And.intro (@AM.iaO_ok) (And.intro (AM.ia_slice el_70) (And.intro (@AM.ldO_agg) (And.intro (@AM.ldO_one) (And.intro (@AM.ld_ptr) (And.intro (AM.len_slice ul_70) (And.intro (@lk_59) (And.intro (@lk_65) (And.intro (@AM.op_alloc) (And.intro (@AM.op_binOp) (And.intro (@AM.op_box) (And.intro (@AM.op_build) (And.intro (@AM.op_call) (And.intro (@AM.op_indexAddr) (And.intro (@AM.op_len) (And.intro (@AM.op_load) (And.intro (@AM.op_store) (And.intro (@AM.op_unOp) (And.intro (@AM.resL_three) (And.intro (@AM.res_cell) (And.intro (@AM.stO_agg) (And.intro (@AM.stO_bool) (And.intro (@AM.stO_int) (And.intro (@AM.stO_map) (And.intro (@AM.stO_pointer) (And.intro (@AM.stO_slice) (And.intro (@AM.stO_string) (And.intro (@AM.st_ptr) (And.intro (@sz_59) (And.intro (@sz_65) (And.intro (@AM.un_neg) (@AM.un_not)))))))))))))))))))))))))))))))))))))))))))))))))))))))))) := And.intro (@AM.alK_some) (And.intro (@al_59) (And.intro (@al_65) (And.intro (@AM.bdV_some) (And.intro (@bd_59) (And.intro (@AM.bin_add) (And.intro (@AM.bin_lss) (And.intro (@AM.bin_neq) (And.intro (@AM.boxK_agg) (And.intro (@AM.boxK_bool) (And.intro (@AM.boxK_func) (And.intro (@AM.boxK_int) (And.intro (@AM.boxK_map) (And.intro (@AM.boxK_pointer) (And.intro (@AM.boxK_slice) (And.intro (@AM.boxK_string) (And.intro (@AM.fillL_cons) (And.intro (@AM.fillL_nil) (And.intro (@AM.fillS_agg) (And.intro (@AM.fillS_bool) (And.intro (@AM.fillS_func) (And.intro (@AM.fillS_int) (And.intro (@AM.fillS_map) (And.intro (@AM.fillS_pointer) (And.intro (@AM.fillS_slice) (And.intro (@AM.fillS_string) (And.intro (@AM.iaO_ok) (And.intro (AM.ia_slice el_70) (And.intro (@AM.ldO_agg) (And.intro (@AM.ldO_one) (And.intro (@AM.ld_ptr) (And.intro (AM.len_slice ul_70) (And.intro (@lk_59) (And.intro (@lk_65) (And.intro (@AM.op_alloc) (And.intro (@AM.op_binOp) (And.intro (@AM.op_box) (And.intro (@AM.op_build) (And.intro (@AM.op_call) (And.intro (@AM.op_indexAddr) (And.intro (@AM.op_len) (And.intro (@AM.op_load) (And.intro (@AM.op_store) (And.intro (@AM.op_unOp) (And.intro (@AM.resL_three) (And.intro (@AM.res_cell) (And.intro (@AM.stO_agg) (And.intro (@AM.stO_bool) (And.intro (@AM.stO_int) (And.intro (@AM.stO_map) (And.intro (@AM.stO_pointer) (And.intro (@AM.stO_slice) (And.intro (@AM.stO_string) (And.intro (@AM.st_ptr) (And.intro (@sz_59) (And.intro (@sz_65) (And.intro (@AM.un_neg) (@AM.un_not)))))))))))))))))))))))))))))))))))))))))))))))))))))))))


/-- The state behind so many steps. -/
def runK (s : St) (l : List Sp) : Nat → St
  | 0 => s
  | i + 1 => turnS (runK s l i) (l.getD i (0, 0, 0))
theorem runK_len (s : St) (l : List Sp) : ∀ i, (runK s l i).1.length = s.1.length ∧ (runK s l i).2.length = s.2.length
  | 0 => ⟨rfl, rfl⟩
  | i + 1 => by
    have h := runK_len s l i
    have h2 := turnS_len (runK s l i) (l.getD i (0, 0, 0))
    rw [runK]
    exact ⟨h2.1.trans h.1, h2.2.trans h.2⟩
theorem runK_chk {L : List (List UInt8)} {s : St} {l : List Sp} (h : Chk L.flatten s) : ∀ i, (∀ j, j < i → may L (runK s l j) (l.getD j (0, 0, 0)) = true) → Chk L.flatten (runK s l i)
  | 0, _ => h
  | i + 1, hm => (runK_chk h i fun j hj => hm j (by omega)).turn ((may_iff _ _ _).1 (hm i (by omega)))
/-- So far the steps may be. -/
def Runs (L : List (List UInt8)) (s : St) (l : List Sp) (k : Nat) : Prop := k ≤ l.length ∧ (∀ j, j < k → may L (runK s l j) (l.getD j (0, 0, 0)) = true) ∧ (k < l.length → may L (runK s l k) (l.getD k (0, 0, 0)) = false)
set_option maxHeartbeats 8000000 in
theorem run_w {h : AHeap} {p : Nat} {L : List (List UInt8)} {B : Nat → Prop} {v lv : Value} {s : St} {l : List Sp} {k : Nat} (m : Mk h p L B) (f : Fit L) (hw : h.get GW = some (.cells waysC 166 false)) (hgl : GW < h.low) (hl : h.low ≤ h.next) (hs : StR h v s) (hc : chk L.flatten s = true)
    (hlv : Rd h 65 3 lv l.length (l.flatMap encS)) (hll : l.length ≤ 4000000) (hlp : ∀ id, idOf lv id → id ≠ p) (hr : Runs L s l k) {Q : VQ}
    (hq : ∀ a1 m1 c1 a2 m2 c2 h', Mk h' p L B → Fr (fun id => id = p) h h' → StO h.next h' (.agg #[.slice a1 m1 c1, .slice a2 m2 c2]) (runK s l k) → Q (.tuple #[.agg #[.slice a1 m1 c1, .slice a2 m2 c2], .int .i64 k, .int .i64 (if k = l.length then 0 else 250)]) h') : W 52 [pv p, v, lv] h Q := by
  obtain ⟨a, b, rfl, ra, rb⟩ := id hs
  obtain ⟨aa, ac, rfl⟩ := ra.form
  obtain ⟨ba, bc, rfl⟩ := rb.form
  obtain ⟨la, lc, rfl⟩ := hlv.form
  obtain ⟨hk, hall, hend⟩ := hr
  have ch := (chk_iff _ _).1 hc
  have hK := f.k1024
  have hln := ch.ln
  have hl64 := ch.l64
  have hplt := m.lt
  have plow : h.low ≤ p := by obtain ⟨_, _, mm⟩ := m.mp; exact mm.2.2.2.1
  have d00 : decide ((0 : Int) = 0) = true := rfl
  refine AM.enter hp (fn := Tryd.f52) (rs := [.cell 6 59, .tmp 7, .tmp 8]) (nt := 43) (by kernel_rfl) Tryd.func52 rfl rfl rfl (by kernel_rfl) ?_
  simp (maxSteps := 1000000) (disch := first | omega | (simp only [AM.DB, List.length_set, List.length_map]; first | done | omega)) only [AM.RB, Nat.reduceAdd, Nat.reduceMul, Nat.reduceEqDiff, reduceCtorEq, b52_PR4]
  generalize hE_ : AHeap.alloc h _ = h1; obtain ⟨g1, fr1, n1, l1⟩ := AM.new_get hE_; clear hE_
  generalize hE_ : AHeap.alloc h1 _ = h2; obtain ⟨g2, fr2, n2, l2⟩ := AM.new_get hE_; clear hE_
  rw [n1] at g2
  have g12 := g1.fr0 fr2
  have fr02 := fr1.trans fr2
  have nx2 := fr02.next
  have lw2 := fr02.low
  obtain ⟨_, _, mm2⟩ := (m.fr0 fr02).mp
  (repeat' (first | (simp (maxSteps := 1000000) (disch := first | omega | (simp only [AM.DB, List.length_set, List.length_map]; first | done | omega)) only [AM.RB, Nat.reduceAdd, Nat.reduceMul, Nat.reduceEqDiff, reduceCtorEq, b52_PR4, g12]) | refine AM.build_w ?_))
  refine check_w mm2 f (hs.fr0 fr02) (by omega) fun h3 fr3 => ?_
  rw [hc]
  simp only [if_true]
  have fr03 := fr02.trans fr3
  have nx3 := fr3.next
  have lw3 := fr3.low
  have hx_1 := g12.fr0 fr3
  (repeat' (first | (simp (maxSteps := 1000000) (disch := first | omega | (simp only [AM.DB, List.length_set, List.length_map]; first | done | omega)) only [AM.RB, Nat.reduceAdd, Nat.reduceMul, Nat.reduceEqDiff, reduceCtorEq, b52_PR4, d00, hx_1]) | refine AM.build_w ?_))
  refine twin_w (hs.fr0 fr03) (by omega) (by omega) (by omega) fun a1 m1 c1 a2 m2 c2 h4 fr4 st4 => ?_
  have nx4 := fr4.next
  have lw4 := fr4.low
  (repeat' (first | (simp (maxSteps := 1000000) (disch := first | omega | (simp only [AM.DB, List.length_set, List.length_map]; first | done | omega)) only [AM.RB, Nat.reduceAdd, Nat.reduceMul, Nat.reduceEqDiff, reduceCtorEq, b52_PR4]) | refine AM.build_w ?_))
  generalize hE_ : AHeap.put (AHeap.alloc h4 _) _ _ = h5; obtain ⟨g5, fr5, n5, l5⟩ := AM.box_get hE_ (by omega); clear hE_
  have nx5 := fr5.next
  have lw5 := fr5.low
  have lt5 := AM.get_some_lt g5
  have fr05 := (fr03.trans fr4).trans fr5
  have g25 := ((g2.fr0 fr3).fr0 fr4).fr0 fr5
  have m5 := m.fresh fr05
  have hst : ∀ id, idOf (.slice a1 m1 c1) id ∨ idOf (.slice a2 m2 c2) id → h3.next ≤ id ∧ id < h4.next := fun id q => by
    obtain ⟨x1, x2, e, o1, o2, hid, _⟩ := st4
    cases e
    refine ⟨hid id q, ?_⟩
    rcases q with q | q
    · exact o1.lt q
    · exact o2.lt q
  have r5 := hlv.fr0 fr05
  (repeat' (first | (simp (maxSteps := 1000000) (disch := first | omega | (simp only [AM.DB, List.length_set, List.length_map]; first | done | omega)) only [AM.RB, Nat.reduceAdd, Nat.reduceMul, Nat.reduceEqDiff, reduceCtorEq, b52_PR4]) | refine AM.build_w ?_))
  refine AM.loop_w hp 43 (fun i : Nat => [(0, pv p), (2, .slice la l.length lc), (6, pv (h.next + 1)), (10, pv h4.next), (22, .slice la l.length lc), (23, .int .i64 l.length), (24, .int .i64 i)])
    (fun i h' => i ≤ k ∧ Fr (fun id => id = p ∨ idOf (.slice a1 m1 c1) id ∨ idOf (.slice a2 m2 c2) id) h5 h' ∧ Mk h' p L (fun id => B id ∨ (h.next ≤ id ∧ id < h5.next)) ∧ StO h3.next h' (.agg #[.slice a1 m1 c1, .slice a2 m2 c2]) (runK s l i)) (fun i => k - i) (by kernel_rfl) 0 ?_ ?_ ?_
  · simp (maxSteps := 1000000) (disch := first | omega | (simp only [AM.DB, List.length_set, List.length_map]; first | done | omega)) only [AM.RB, Nat.reduceAdd, Nat.reduceMul, Nat.reduceEqDiff, reduceCtorEq, b52_PR4]
    first | rfl | skip
  · exact ⟨Nat.zero_le _, Fr.refl _ _, m5, st4.fr0 fr5⟩
  rintro i h6 ρ ⟨hi, fr6, m6, st6⟩
  have nx6 := fr6.next
  have lw6 := fr6.low
  have g26 := fr6.get g25 (fun q => by rcases q with q | q; omega; have := hst _ q; omega)
  have g56 := fr6.get g5 (fun q => by rcases q with q | q; omega; have := hst _ q; omega)
  have hw6 := fr6.get (hw.fr0 fr05) (fun q => by rcases q with q | q; omega; have := hst _ q; omega)
  have r6 := r5.fr fr6 (fun id q1 q2 => by
    have := hlv.lt q1
    rcases q2 with q2 | q2
    · exact hlp id q1 q2
    · have := hst _ q2; omega)
  have frh6 : Fr (fun id => id = p) h h6 := (fr05.mono fun _ _ q => q.elim).then fr6 (fun id q1 q2 => by
    rcases q2 with q2 | q2
    · exact q2
    · have := hst _ q2; omega)
  have rl := runK_len s l i
  have rch := runK_chk ch i (l := l) (fun j hj => hall j (by omega))
  have stop : ∀ h7, Mk h7 p L (fun id => B id ∨ (h.next ≤ id ∧ id < h5.next)) → Fr (fun id => id = h.next + 1) h6 h7 → Mk h7 p L B ∧ Fr (fun id => id = p) h h7 ∧ StO h.next h7 (.agg #[.slice a1 m1 c1, .slice a2 m2 c2]) (runK s l i) := fun h7 m7 fr7 =>
    ⟨m7.sub fun id q => .inl q, frh6.then fr7 (fun id q1 e => by have e : id = h.next + 1 := e; omega), (st6.fr fr7 (fun id q e => by have e : id = h.next + 1 := e; omega)).weak (by omega)⟩
  simp (maxSteps := 1000000) (disch := first | omega | (simp only [AM.DB, List.length_set, List.length_map]; first | done | omega)) only [AM.RB, Nat.reduceAdd, Nat.reduceMul, Nat.reduceEqDiff, reduceCtorEq, b52_PR4]
  refine AM.condV_split (fun hlt => ?_) (fun hlt => ?_)
  · have hil : i < l.length := by omega
    obtain ⟨x, hx⟩ : ∃ x, l.getD i (0, 0, 0) = x := ⟨_, rfl⟩
    have ld := Rd.lds (f := encS) encS_len r6 lk_65 rfl (0, 0, 0) i hil
    rw [hx] at ld
    (repeat' (first | (simp (maxSteps := 1000000) (disch := first | omega | (simp only [AM.DB, List.length_set, List.length_map]; first | done | omega)) only [AM.RB, Nat.reduceAdd, Nat.reduceMul, Nat.reduceEqDiff, reduceCtorEq, b52_PR4, g56, r6.ia el_70, ld, Int.toNat_natCast]) | refine AM.build_w ?_))
    generalize hE_ : AHeap.put (AHeap.alloc h6 _) _ _ = h7; obtain ⟨g7, fr7, n7, l7⟩ := AM.box_get hE_ (by omega); clear hE_
    have nx7 := fr7.next
    have lw7 := fr7.low
    have g57 := g56.fr0 fr7
    (repeat' (first | (simp (maxSteps := 1000000) (disch := first | omega | (simp only [AM.DB, List.length_set, List.length_map]; first | done | omega)) only [AM.RB, Nat.reduceAdd, Nat.reduceMul, Nat.reduceEqDiff, reduceCtorEq, b52_PR4, g57, g7]) | refine AM.build_w ?_))
    refine pmay_w (m6.fr0 fr7) f (hw6.fr0 fr7) (by omega) (by omega) (st6.rd.fr0 fr7) rch.ln x fun h8 m8 fr8 => ?_
    have nx8 := fr8.next
    have lw8 := fr8.low
    have pl := m6.lt
    have g58 := fr8.get g57 (show ¬ h4.next = p by omega)
    have g28 := fr8.get (g26.fr0 fr7) (show ¬ h.next + 1 = p by omega)
    have g78 := fr8.get g7 (show ¬ h6.next = p by omega)
    have st8 := (st6.fr0 fr7).fr fr8 (fun id q e => by have e : id = p := e; omega)
    cases hm : may L (runK s l i) x
    · have hik : i = k := by
        by_cases e : i = k
        · exact e
        · have := hall i (by omega)
          rw [hx, hm] at this; cases this
      subst hik
      have hne : ¬ i = l.length := by omega
      rw [if_neg hne] at hq
      (repeat' (first | (simp (maxSteps := 1000000) (disch := first | omega | (simp only [AM.DB, List.length_set, List.length_map]; first | done | omega)) only [AM.RB, Nat.reduceAdd, Nat.reduceMul, Nat.reduceEqDiff, reduceCtorEq, b52_PR4, g58, g28]) | refine AM.build_w ?_))
      generalize hE_ : AHeap.put h8 _ _ = h9; obtain ⟨g9, fr9, n9, l9⟩ := AM.put_get hE_ (by omega); clear hE_
      (repeat' (first | (simp (maxSteps := 1000000) (disch := first | omega | (simp only [AM.DB, List.length_set, List.length_map]; first | done | omega)) only [AM.RB, Nat.reduceAdd, Nat.reduceMul, Nat.reduceEqDiff, reduceCtorEq, b52_PR4, g9]) | refine AM.build_w ?_))
      refine hq _ _ _ _ _ _ _ ((m8.frB fr9 (fun id e => .inr (by have e : id = h.next + 1 := e; omega))).sub fun id q => .inl q) (((frh6.trans (fr7.mono fun _ _ q => q.elim)).trans fr8).then fr9 (fun id q1 e => by have e : id = h.next + 1 := e; omega)) ((st8.fr fr9 (fun id q e => by have e : id = h.next + 1 := e; omega)).weak (by omega))
    · have hik : i < k := by
        by_cases e : i < k
        · exact e
        · have : i = k := by omega
          subst this
          have := hend hil
          rw [hx, hm] at this; cases this
      (repeat' (first | (simp (maxSteps := 1000000) (disch := first | omega | (simp only [AM.DB, List.length_set, List.length_map]; first | done | omega)) only [AM.RB, Nat.reduceAdd, Nat.reduceMul, Nat.reduceEqDiff, reduceCtorEq, b52_PR4, g58, g78]) | refine AM.build_w ?_))
      refine turn_w ((may_iff _ _ _).1 hm) rch.ln st8 (by omega) fun h9 st9 fr9 => ?_
      have nx9 := fr9.next
      have lw9 := fr9.low
      (repeat' (first | (simp (maxSteps := 1000000) (disch := first | omega | (simp only [AM.DB, List.length_set, List.length_map]; first | done | omega)) only [AM.RB, Nat.reduceAdd, Nat.reduceMul, Nat.reduceEqDiff, reduceCtorEq, b52_PR4, AM.wrap_i64]) | refine AM.build_w ?_))
      refine ⟨i + 1, by omega, congrArg _ (by omega), by omega, ?_, m8.frB fr9 (fun id q => .inr (by have := hst id q; omega)), by rw [runK, hx]; exact st9⟩
      exact ((fr6.trans (fr7.mono fun _ _ q => q.elim)).trans (fr8.mono fun _ _ q => .inl q)).trans (fr9.mono fun _ _ q => .inr q)
  · have hik : i = k := by omega
    have hkl : k = l.length := by omega
    subst hik
    rw [if_pos hkl] at hq
    (repeat' (first | (simp (maxSteps := 1000000) (disch := first | omega | (simp only [AM.DB, List.length_set, List.length_map]; first | done | omega)) only [AM.RB, Nat.reduceAdd, Nat.reduceMul, Nat.reduceEqDiff, reduceCtorEq, b52_PR4, g56, g26]) | refine AM.build_w ?_))
    generalize hE_ : AHeap.put h6 _ _ = h7; obtain ⟨g7, fr7, n7, l7⟩ := AM.put_get hE_ (by omega); clear hE_
    (repeat' (first | (simp (maxSteps := 1000000) (disch := first | omega | (simp only [AM.DB, List.length_set, List.length_map]; first | done | omega)) only [AM.RB, Nat.reduceAdd, Nat.reduceMul, Nat.reduceEqDiff, reduceCtorEq, b52_PR4, g7]) | refine AM.build_w ?_))
    have := stop _ (m6.frB fr7 (fun id e => .inr (by have e : id = h.next + 1 := e; omega))) fr7
    rw [← hkl]
    exact hq _ _ _ _ _ _ _ this.1 this.2.1 this.2.2

end Go.Proofs.YtbaohngkapmhlaaDoor

namespace Go.Proofs.YtbaohngkapmhlaaDoor
open Go.AM
set_option maxRecDepth 8000
end Go.Proofs.YtbaohngkapmhlaaDoor

namespace Go.Proofs.YtbaohngkapmhlaaDoor
open Go.AM
set_option maxRecDepth 8000
end Go.Proofs.YtbaohngkapmhlaaDoor

namespace Go.Proofs.YtbaohngkapmhlaaDoor
open Go.AM

end Go.Proofs.YtbaohngkapmhlaaDoor

namespace Go.Proofs.YtbaohngkapmhlaaDoor
open Go.AM
set_option maxRecDepth 8000
theorem b38_PC11 : type_of% (And.intro (@AM.bin_gtr) (And.intro (@AM.bin_mul) (And.intro (@AM.bin_neq) (And.intro (@AM.ex_tuple) (And.intro (@AM.op_binOp) (And.intro (@AM.op_call) (And.intro (@AM.op_extract) (And.intro (@AM.op_len) (And.intro (@AM.resL_two) (AM.str_len ul_9)))))))))) := And.intro (@AM.bin_gtr) (And.intro (@AM.bin_mul) (And.intro (@AM.bin_neq) (And.intro (@AM.ex_tuple) (And.intro (@AM.op_binOp) (And.intro (@AM.op_call) (And.intro (@AM.op_extract) (And.intro (@AM.op_len) (And.intro (@AM.resL_two) (AM.str_len ul_9)))))))))


theorem both_w (l : List UInt8) (M : Nat) (hM : M ≤ 1000) {h : AHeap} (hl : h.low ≤ h.next) {Q : VQ}
    (hno : ∀ h', Fr none' h h' → Q (.tuple #[.pointer none, .pointer none]) h')
    (hok : ∀ L p kv q lv h', verd l = .ok L → L.flatten.length ≤ M → Mp h' p kv L.length (L.getD 0 []).length L.flatten tl0 → Rp h' q lv L → Fr none' h h' → h.next ≤ p → (∀ id, idOf kv id → h.next ≤ id) → q ≠ p → (∀ id, idOf lv id → id ≠ p) → Q (.tuple #[pv p, pv q]) h') : W 38 [strV l, .int .i64 M] h Q := by
  have d100 : decide ((10 : Int) = 0) = false := rfl
  have d00 : decide ((0 : Int) = 0) = true := rfl
  refine AM.enter hp (fn := Tryd.f38) (rs := [.tmp 4, .tmp 5]) (nt := 46) (by kernel_rfl) Tryd.func38 rfl rfl rfl (by kernel_rfl) ?_
  by_cases hlen : (2 * M : Int) < l.length
  · (first | (simp (maxSteps := 1000000) (disch := first | omega | (simp only [AM.DB, List.length_set, List.length_map]; first | done | omega)) only [AM.RB, Nat.reduceAdd, Nat.reduceMul, Nat.reduceEqDiff, reduceCtorEq, b38_PC11, AM.wrap_i64, decide_eq_true hlen]) | skip)
    exact hno _ (Fr.refl _ _)
  (first | (simp (maxSteps := 1000000) (disch := first | omega | (simp only [AM.DB, List.length_set, List.length_map]; first | done | omega)) only [AM.RB, Nat.reduceAdd, Nat.reduceMul, Nat.reduceEqDiff, reduceCtorEq, b38_PC11, AM.wrap_i64, decide_eq_false hlen]) | skip)
  refine refV_w l (by omega) hl (fun a' b' hv h1 fr1 => ?_) (fun L hv q lv h1 r1 fr1 hq1 hid1 => ?_)
  · (first | (simp (maxSteps := 1000000) (disch := first | omega | (simp only [AM.DB, List.length_set, List.length_map]; first | done | omega)) only [AM.RB, Nat.reduceAdd, Nat.reduceMul, Nat.reduceEqDiff, reduceCtorEq, b38_PC11, d100]) | skip)
    exact hno _ fr1
  have G := verd_good hv
  have hbd : L.length ≤ 4000000 ∧ (L.getD 0 []).length ≤ 4000000 := by have := G.fit.r32; have := G.fit.c32; omega
  have flen := G.fit.len
  have nx1 := fr1.next
  have lw1 := fr1.low
  (first | (simp (maxSteps := 1000000) (disch := first | omega | (simp only [AM.DB, List.length_set, List.length_map]; first | done | omega)) only [AM.RB, Nat.reduceAdd, Nat.reduceMul, Nat.reduceEqDiff, reduceCtorEq, b38_PC11, d00]) | skip)
  refine refCells_w r1 G.rows hbd ?_
  by_cases hc : (M : Int) < ((L.length * (L.getD 0 []).length : Nat) : Int)
  · (first | (simp (maxSteps := 1000000) (disch := first | omega | (simp only [AM.DB, List.length_set, List.length_map]; first | done | omega)) only [AM.RB, Nat.reduceAdd, Nat.reduceMul, Nat.reduceEqDiff, reduceCtorEq, b38_PC11, decide_eq_true hc]) | skip)
    exact hno _ fr1
  (first | (simp (maxSteps := 1000000) (disch := first | omega | (simp only [AM.DB, List.length_set, List.length_map]; first | done | omega)) only [AM.RB, Nat.reduceAdd, Nat.reduceMul, Nat.reduceEqDiff, reduceCtorEq, b38_PC11, decide_eq_false hc]) | skip)
  refine parseV_w l (by omega) (by omega) (fun a' b' hv' h2 fr2 => by rw [hv] at hv'; cases hv') (fun L' hv' p kv h2 m2 fr2 hp2 hid2 => ?_)
  rw [hv] at hv'
  cases hv'
  (first | (simp (maxSteps := 1000000) (disch := first | omega | (simp only [AM.DB, List.length_set, List.length_map]; first | done | omega)) only [AM.RB, Nat.reduceAdd, Nat.reduceMul, Nat.reduceEqDiff, reduceCtorEq, b38_PC11, d00]) | skip)
  have ltq := AM.get_some_lt r1.1
  exact hok L p kv q lv h2 hv (by omega) m2 (r1.fr0 fr2) (fr1.trans fr2) (by omega) (fun id q => by have := hid2 id q; omega) (by omega) (fun id q => by have := r1.2.1.lt q; omega)

end Go.Proofs.YtbaohngkapmhlaaDoor

namespace Go.Proofs.YtbaohngkapmhlaaDoor
open Go.AM
set_option maxRecDepth 8000
theorem b90_PU1 : type_of% (And.intro (@AM.alK_some) (And.intro (@al_59) (And.intro (AM.bsW_int bs_22) (And.intro (AM.bsW_int2 bs_22) (And.intro (AM.bsW_nil bs_22) (And.intro (AM.bsW_slice bs_22) (And.intro (AM.bsW_string bs_22) (And.intro (@AM.ex_tuple) (And.intro (@AM.ldO_agg) (And.intro (@AM.ldO_one) (And.intro (@AM.ld_ptr) (And.intro (@lk_59) (And.intro (@AM.op_alloc) (And.intro (@AM.op_buildSlice) (And.intro (@AM.op_call) (And.intro (@AM.op_extract) (And.intro (@AM.op_load) (And.intro (@AM.op_store) (And.intro (@AM.resL_two) (And.intro (@AM.res_cell) (And.intro (@AM.stO_agg) (And.intro (@AM.stO_bool) (And.intro (@AM.stO_int) (And.intro (@AM.stO_map) (And.intro (@AM.stO_pointer) (And.intro (@AM.stO_slice) (And.intro (@AM.stO_string) (And.intro (@AM.st_ptr) (@sz_59))))))))))))))))))))))))))))) := And.intro (@AM.alK_some) (And.intro (@al_59) (And.intro (AM.bsW_int bs_22) (And.intro (AM.bsW_int2 bs_22) (And.intro (AM.bsW_nil bs_22) (And.intro (AM.bsW_slice bs_22) (And.intro (AM.bsW_string bs_22) (And.intro (@AM.ex_tuple) (And.intro (@AM.ldO_agg) (And.intro (@AM.ldO_one) (And.intro (@AM.ld_ptr) (And.intro (@lk_59) (And.intro (@AM.op_alloc) (And.intro (@AM.op_buildSlice) (And.intro (@AM.op_call) (And.intro (@AM.op_extract) (And.intro (@AM.op_load) (And.intro (@AM.op_store) (And.intro (@AM.resL_two) (And.intro (@AM.res_cell) (And.intro (@AM.stO_agg) (And.intro (@AM.stO_bool) (And.intro (@AM.stO_int) (And.intro (@AM.stO_map) (And.intro (@AM.stO_pointer) (And.intro (@AM.stO_slice) (And.intro (@AM.stO_string) (And.intro (@AM.st_ptr) (@sz_59))))))))))))))))))))))))))))
theorem b53_PU1 : type_of% (And.intro (@AM.alK_some) (And.intro (@al_59) (And.intro (@AM.andO_some) (And.intro (@AM.bdV_some) (And.intro (@bd_59) (And.intro (@bd_65) (And.intro (AM.bin_agg_eql se_65) (And.intro (@AM.bin_eql) (And.intro (AM.bsW_agg bs_70) (And.intro (AM.bsW_int bs_22) (And.intro (AM.bsW_int2 bs_22) (And.intro (AM.bsW_int3 bs_22) (And.intro (AM.bsW_nil bs_22) (And.intro (AM.bsW_nil bs_70) (And.intro (AM.bsW_slice bs_22) (And.intro (AM.bsW_string bs_22) (And.intro (@AM.eqL_cons) (And.intro (@AM.eqL_nil) (And.intro (@AM.eqS_bool) (And.intro (@AM.eqS_int) (And.intro (@AM.eqS_string) (And.intro (@AM.ex_tuple) (And.intro (@AM.fillL_cons) (And.intro (@AM.fillL_nil) (And.intro (@AM.fillS_agg) (And.intro (@AM.fillS_bool) (And.intro (@AM.fillS_func) (And.intro (@AM.fillS_int) (And.intro (@AM.fillS_map) (And.intro (@AM.fillS_pointer) (And.intro (@AM.fillS_slice) (And.intro (@AM.fillS_string) (And.intro (@AM.iaO_ok) (And.intro (AM.ia_slice el_70) (And.intro (@AM.ldO_agg) (And.intro (@AM.ldO_one) (And.intro (@AM.ld_ptr) (And.intro (AM.len_slice ul_70) (And.intro (@lk_59) (And.intro (@lk_65) (And.intro (@AM.op_alloc) (And.intro (@AM.op_binOp) (And.intro (@AM.op_build) (And.intro (@AM.op_buildSlice) (And.intro (@AM.op_call) (And.intro (@AM.op_extract) (And.intro (@AM.op_indexAddr) (And.intro (@AM.op_len) (And.intro (@AM.op_load) (And.intro (@AM.op_store) (And.intro (@AM.stO_agg) (And.intro (@AM.stO_bool) (And.intro (@AM.stO_int) (And.intro (@AM.stO_map) (And.intro (@AM.stO_pointer) (And.intro (@AM.stO_slice) (And.intro (@AM.stO_string) (And.intro (@AM.st_ptr) (@sz_59))))))))))))))))))))))))))))))))))))))))))))))))))))))))))) := And.intro (@AM.alK_some) (And.intro (@al_59) (And.intro (@AM.andO_some) (And.intro (@AM.bdV_some) (And.intro (@bd_59) (And.intro (@bd_65) (And.intro (AM.bin_agg_eql se_65) (And.intro (@AM.bin_eql) (And.intro (AM.bsW_agg bs_70) (And.intro (AM.bsW_int bs_22) (And.intro (AM.bsW_int2 bs_22) (And.intro (AM.bsW_int3 bs_22) (And.intro (AM.bsW_nil bs_22) (And.intro (AM.bsW_nil bs_70) (And.intro (AM.bsW_slice bs_22) (And.intro (AM.bsW_string bs_22) (And.intro (@AM.eqL_cons) (And.intro (@AM.eqL_nil) (And.intro (@AM.eqS_bool) (And.intro (@AM.eqS_int) (And.intro (@AM.eqS_string) (And.intro (@AM.ex_tuple) (And.intro (@AM.fillL_cons) (And.intro (@AM.fillL_nil) (And.intro (@AM.fillS_agg) (And.intro (@AM.fillS_bool) (And.intro (@AM.fillS_func) (And.intro (@AM.fillS_int) (And.intro (@AM.fillS_map) (And.intro (@AM.fillS_pointer) (And.intro (@AM.fillS_slice) (And.intro (@AM.fillS_string) (And.intro (@AM.iaO_ok) (And.intro (AM.ia_slice el_70) (And.intro (@AM.ldO_agg) (And.intro (@AM.ldO_one) (And.intro (@AM.ld_ptr) (And.intro (AM.len_slice ul_70) (And.intro (@lk_59) (And.intro (@lk_65) (And.intro (@AM.op_alloc) (And.intro (@AM.op_binOp) (And.intro (@AM.op_build) (And.intro (@AM.op_buildSlice) (And.intro (@AM.op_call) (And.intro (@AM.op_extract) (And.intro (@AM.op_indexAddr) (And.intro (@AM.op_len) (And.intro (@AM.op_load) (And.intro (@AM.op_store) (And.intro (@AM.stO_agg) (And.intro (@AM.stO_bool) (And.intro (@AM.stO_int) (And.intro (@AM.stO_map) (And.intro (@AM.stO_pointer) (And.intro (@AM.stO_slice) (And.intro (@AM.stO_string) (And.intro (@AM.st_ptr) (@sz_59))))))))))))))))))))))))))))))))))))))))))))))))))))))))))


/-! ### The chapter's examples -/
def pxT : List UInt8 := [46, 46, 46, 10]
def pxL : List (List UInt8) := [[46, 46, 46]]
def pxS : St := ([0, 2], [0, -1, 1])
def pxX : List Sp := [(1, 0, 1), (3, 0, 1), (2, 0, 0), (3, 0, 2)]
theorem px_verd : verd pxT = .ok pxL := by kernel_rfl
theorem px_start : startS pxL.flatten [0, 2] = pxS := by kernel_rfl
theorem px_chk : chk pxL.flatten pxS = true := by kernel_rfl
theorem px_steps : stepsL pxL pxS = [(1, 0, 1), (1, 1, 1)] := by kernel_rfl
theorem px_runs : Runs pxL pxS pxX 3 := by
  refine ⟨by decide, fun j hj => ?_, fun _ => by kernel_rfl⟩
  match j, hj with
  | 0, _ => exact (by kernel_rfl : may pxL (runK pxS pxX 0) (pxX.getD 0 (0, 0, 0)) = true)
  | 1, _ => exact (by kernel_rfl : may pxL (runK pxS pxX 1) (pxX.getD 1 (0, 0, 0)) = true)
  | 2, _ => exact (by kernel_rfl : may pxL (runK pxS pxX 2) (pxX.getD 2 (0, 0, 0)) = true)
theorem bsW_agg4 {P : Program} {ty e : TypeId} {sz : Nat} (hb : bsI P ty = some (e, sz)) (h : AHeap) (K : VQ) (l1 l2 l3 l4 : List Value) (e1 : l1.length = sz) (e2 : l2.length = sz) (e3 : l3.length = sz) (e4 : l4.length = sz) (hz : sz ≤ 200000) (h1 : (l1 ++ (l2 ++ (l3 ++ l4))).all (·.oneCell') = true) :
    bsW P ty 4 [(0, .agg l1.toArray), (1, .agg l2.toArray), (2, .agg l3.toArray), (3, .agg l4.toArray)] h K = K (.slice (some ⟨h.next, 0, none⟩) 4 4) (h.alloc (.cells (l1 ++ (l2 ++ (l3 ++ l4))) e false)) :=
  bsW_of hb rfl (by omega) (by rw [flatP_agg _ _ _ _ e1, flatP_agg _ _ _ _ e2, flatP_agg _ _ _ _ e3, flatP_agg _ _ _ _ e4, flatP_nil]; simp) h1
theorem px_run : runK pxS pxX 3 = ([1, 2], [-1, 0, 1]) := by kernel_rfl
set_option maxHeartbeats 4000000 in
theorem psome_w {h : AHeap} (hl : h.low ≤ h.next) {Q : VQ} (hq : ∀ p a1 m1 c1 a2 m2 c2 h', Mk h' p pxL (fun id => id < h.next ∨ idOf (.slice a1 m1 c1) id ∨ idOf (.slice a2 m2 c2) id) → Fr none' h h' → h.next ≤ p → StO h.next h' (.agg #[.slice a1 m1 c1, .slice a2 m2 c2]) pxS → Q (.tuple #[pv p, .agg #[.slice a1 m1 c1, .slice a2 m2 c2]]) h') : W 90 [] h Q := by
  have G := verd_good px_verd
  have f := G.fit
  refine AM.enter hp (fn := Tryd.f90) (rs := [.tmp 0, .cell 1 59]) (nt := 22) (by kernel_rfl) Tryd.func90 rfl rfl rfl (by kernel_rfl) ?_
  simp (maxSteps := 1000000) (disch := first | omega | (simp only [AM.DB, List.length_set, List.length_map]; first | done | omega)) only [AM.RB, Nat.reduceAdd, Nat.reduceMul, Nat.reduceEqDiff, reduceCtorEq, b90_PU1]
  generalize hE_ : AHeap.alloc h _ = h1; obtain ⟨g1, fr1, n1, l1⟩ := AM.new_get hE_; clear hE_
  (repeat' (first | (simp (maxSteps := 1000000) (disch := first | omega | (simp only [AM.DB, List.length_set, List.length_map]; first | done | omega)) only [AM.RB, Nat.reduceAdd, Nat.reduceMul, Nat.reduceEqDiff, reduceCtorEq, b90_PU1]) | refine AM.drawW_fine hp (by kernel_rfl) (by kernel_rfl) (by kernel_rfl) ?_ | refine AM.opW_tied (by kernel_rfl) ?_ | refine AM.opW_untied (by kernel_rfl) ?_))
  refine parseV_w pxT (by decide) (by omega) (fun a b hv => by rw [px_verd] at hv; cases hv) (fun L hv p kv h2 m2 fr2 hp2 hid2 => ?_)
  rw [px_verd] at hv
  cases hv
  have nx2 := fr2.next
  have lw2 := fr2.low
  have fr02 := fr1.trans fr2
  have k2 : Mk h2 p pxL (fun id => id < h1.next) := Mk.start m2 hp2 hid2 (by omega) (fun id q => q)
  (repeat' (first | (simp (maxSteps := 1000000) (disch := first | omega | (simp only [AM.DB, List.length_set, List.length_map]; first | done | omega)) only [AM.RB, Nat.reduceAdd, Nat.reduceMul, Nat.reduceEqDiff, reduceCtorEq, b90_PU1]) | refine AM.drawW_fine hp (by kernel_rfl) (by kernel_rfl) (by kernel_rfl) ?_ | refine AM.opW_tied (by kernel_rfl) ?_ | refine AM.opW_untied (by kernel_rfl) ?_))
  generalize hE_ : AHeap.alloc h2 _ = h3; obtain ⟨g3, fr3, n3, l3⟩ := AM.new_get hE_; clear hE_
  refine start_w (P := [0, 2]) (k2.fr0 fr3) f (AM.Rd.whole (n := 2) g3 rfl) (by decide) (by omega) fun a1 m1 c1 a2 m2 c2 h4 k4 fr4 st4 _ => ?_
  rw [px_start] at st4 ⊢
  have st4 := st4 px_chk
  rw [px_chk]
  simp only [if_true]
  have nx3 := fr3.next
  have lw3 := fr3.low
  have nx4 := fr4.next
  have lw4 := fr4.low
  have fr34 := fr3.trans fr4
  have g14 := (g1.fr0 fr2).fr0 fr34
  have frh4 := fr02.trans fr34
  (repeat' (first | (simp (maxSteps := 1000000) (disch := first | omega | (simp only [AM.DB, List.length_set, List.length_map]; first | done | omega)) only [AM.RB, Nat.reduceAdd, Nat.reduceMul, Nat.reduceEqDiff, reduceCtorEq, b90_PU1, g14]) | refine AM.drawW_fine hp (by kernel_rfl) (by kernel_rfl) (by kernel_rfl) ?_ | refine AM.opW_tied (by kernel_rfl) ?_ | refine AM.opW_untied (by kernel_rfl) ?_))
  generalize hE_ : AHeap.put (AHeap.alloc h4 _) _ _ = h5; obtain ⟨g5, fr5, n5, l5⟩ := AM.box_get hE_ (by omega); clear hE_
  generalize hE_ : AHeap.put h5 _ _ = h6; obtain ⟨g6, fr6, n6, l6⟩ := AM.put_get hE_ (by omega); clear hE_
  (repeat' (first | (simp (maxSteps := 1000000) (disch := first | omega | (simp only [AM.DB, List.length_set, List.length_map]; first | done | omega)) only [AM.RB, Nat.reduceAdd, Nat.reduceMul, Nat.reduceEqDiff, reduceCtorEq, b90_PU1, g6]) | refine AM.drawW_fine hp (by kernel_rfl) (by kernel_rfl) (by kernel_rfl) ?_ | refine AM.opW_tied (by kernel_rfl) ?_ | refine AM.opW_untied (by kernel_rfl) ?_))
  have st6 := ((st4.fr0 fr5).fr fr6 (fun id q e => by have e : id = h.next := e; omega)).weak (show h.next ≤ h3.next by omega)
  refine hq _ _ _ _ _ _ _ _ (((k4.fr0 fr5).frB fr6 (fun id e => .inl (by have e : id = h.next := e; omega))).sub fun id q => ?_) (Fr.fresh (frh4.trans fr5) fr6 (fun id e => by have e : id = h.next := e; omega)) (by omega) st6
  rcases q with q | q
  · exact .inl (by omega)
  · exact .inr q
set_option maxHeartbeats 8000000 in
theorem palive_w {h : AHeap} (hw : h.get GW = some (.cells waysC 166 false)) (hgl : GW < h.low) (hl : h.low ≤ h.next) {Q : VQ} (hq : ∀ h', Fr none' h h' → Q (.bool true) h') : W 53 [] h Q := by
  have G := verd_good px_verd
  have f := G.fit
  have d22 : decide ((([(1, 0, 1), (1, 1, 1)] : List Sp).length : Int) = 2) = true := rfl
  have d33 : decide (((3 : Nat) : Int) = 3) = true := rfl
  have d250 : decide ((250 : Int) = 250) = true := rfl
  refine AM.enter hp (fn := Tryd.f53) (rs := [.tmp 0]) (nt := 65) (by kernel_rfl) Tryd.func53 rfl rfl rfl (by kernel_rfl) ?_
  (repeat' (first | (simp (maxSteps := 1000000) (disch := first | omega | (simp only [AM.DB, List.length_set, List.length_map]; first | done | omega)) only [AM.RB, Nat.reduceAdd, Nat.reduceMul, Nat.reduceEqDiff, reduceCtorEq, b53_PU1]) | refine AM.build_w ?_))
  refine psome_w hl fun p a1 m1 c1 a2 m2 c2 h1 k1 fr1 hp1 st1 => ?_
  have nx1 := fr1.next
  have lw1 := fr1.low
  have plt := k1.lt
  (repeat' (first | (simp (maxSteps := 1000000) (disch := first | omega | (simp only [AM.DB, List.length_set, List.length_map]; first | done | omega)) only [AM.RB, Nat.reduceAdd, Nat.reduceMul, Nat.reduceEqDiff, reduceCtorEq, b53_PU1]) | refine AM.build_w ?_))
  generalize hE_ : AHeap.put (AHeap.alloc h1 _) _ _ = h2; obtain ⟨g2, fr2, n2, l2⟩ := AM.box_get hE_ (by omega); clear hE_
  have nx2 := fr2.next
  have lw2 := fr2.low
  have hw2 := hw.fr0 (fr1.trans fr2)
  have st2 := st1.fr0 fr2
  have nsp : ∀ {h' h''}, Fr (fun id => id = p) h' h'' → StR h' (.agg #[.slice a1 m1 c1, .slice a2 m2 c2]) pxS → StR h'' (.agg #[.slice a1 m1 c1, .slice a2 m2 c2]) pxS := fun fr s => s.frp (fun a b e => by
    cases e
    obtain ⟨⟨S, mt, hB⟩, _⟩ := k1
    exact ⟨fun id q e => by have e : id = p := e; subst e; exact hB id (.inr (.inl q)) mt.self, fun id q e => by have e : id = p := e; subst e; exact hB id (.inr (.inr q)) mt.self⟩) fr
  (repeat' (first | (simp (maxSteps := 1000000) (disch := first | omega | (simp only [AM.DB, List.length_set, List.length_map]; first | done | omega)) only [AM.RB, Nat.reduceAdd, Nat.reduceMul, Nat.reduceEqDiff, reduceCtorEq, b53_PU1, g2]) | refine AM.build_w ?_))
  refine steps_w (k1.fr0 fr2) f hw2 (by omega) (by omega) st2.rd (fun a b e id q => by cases e; exact .inr q) fun v3 h3 o3 k3 fr3 hid3 => ?_
  rw [px_chk] at o3
  simp only [if_true, px_steps] at o3
  obtain ⟨va, vc, rfl⟩ := o3.form
  have nx3 := fr3.next
  have lw3 := fr3.low
  have st3 := nsp fr3 st2.rd
  have g23 := fr3.get g2 (show ¬ h1.next = p by omega)
  have hgp : ¬ GW = p := by omega
  have hw3 := fr3.get hw2 hgp
  have frh3 : Fr none' h h3 := Fr.fresh (fr1.trans fr2) fr3 (fun id e => by have e : id = p := e; omega)
  (repeat' (first | (simp (maxSteps := 1000000) (disch := first | omega | (simp only [AM.DB, List.length_set, List.length_map]; first | done | omega)) only [AM.RB, Nat.reduceAdd, Nat.reduceMul, Nat.reduceEqDiff, reduceCtorEq, b53_PU1, g23]) | refine AM.build_w ?_))
  rw [bsW_agg4 bs_70 h3 _ (encS (1, 0, 1)) (encS (3, 0, 1)) (encS (2, 0, 0)) (encS (3, 0, 2)) rfl rfl rfl rfl (by omega) rfl]
  generalize hE_ : AHeap.alloc h3 _ = h4; obtain ⟨g4, fr4, n4, l4⟩ := AM.new_get hE_; clear hE_
  have nx4 := fr4.next
  have lw4 := fr4.low
  have r4 : Rd h4 65 3 (.slice (some ⟨h3.next, 0, none⟩) 4 4) pxX.length (pxX.flatMap encS) := AM.Rd.whole (n := 4) g4 rfl
  (repeat' (first | (simp (maxSteps := 1000000) (disch := first | omega | (simp only [AM.DB, List.length_set, List.length_map]; first | done | omega)) only [AM.RB, Nat.reduceAdd, Nat.reduceMul, Nat.reduceEqDiff, reduceCtorEq, b53_PU1]) | refine AM.build_w ?_))
  refine run_w (s := pxS) (l := pxX) (k := 3) (k3.fr0 fr4) f (hw3.fr0 fr4) (by omega) (by omega) (st3.fr0 fr4) px_chk r4 (by decide) (fun id q e => by have q : id = h3.next := q; omega) px_runs fun y1 y2 y3 y4 y5 y6 h5 k5 fr5 st5 => ?_
  rw [px_run] at st5
  rw [if_neg (show ¬ 3 = pxX.length by decide)]
  have nx5 := fr5.next
  have lw5 := fr5.low
  have g25 := fr5.get (g23.fr0 fr4) (show ¬ h1.next = p by omega)
  have o5 := (o3.fr0 fr4).fr fr5 (fun id q e => by have := hid3 id q; have e : id = p := e; omega)
  have st35 := nsp fr5 (st3.fr0 fr4)
  have frh5 : Fr none' h h5 := Fr.fresh (frh3.trans fr4) fr5 (fun id e => by have e : id = p := e; omega)
  (repeat' (first | (simp (maxSteps := 1000000) (disch := first | omega | (simp only [AM.DB, List.length_set, List.length_map]; first | done | omega)) only [AM.RB, Nat.reduceAdd, Nat.reduceMul, Nat.reduceEqDiff, reduceCtorEq, b53_PU1, g25]) | refine AM.build_w ?_))
  generalize hE_ : AHeap.put (AHeap.alloc h5 _) _ _ = h6; obtain ⟨g6, fr6, n6, l6⟩ := AM.box_get hE_ (by omega); clear hE_
  generalize hE_ : AHeap.alloc h6 _ = h7; obtain ⟨g7, fr7, n7, l7⟩ := AM.new_get hE_; clear hE_
  generalize hE_ : AHeap.alloc h7 _ = h8; obtain ⟨g8, fr8, n8, l8⟩ := AM.new_get hE_; clear hE_
  have nx6 := fr6.next
  have nx7 := fr7.next
  have nx8 := fr8.next
  have fr58 := (fr6.trans fr7).trans fr8
  have rx1 : Rd h8 3 1 (.slice (some ⟨h6.next, 0, none⟩) 2 2) 2 (([0, 2] : List Int).map (.int .i64)) := AM.Rd.whole (n := 2) (g7.fr0 fr8) rfl
  have rx2 : Rd h8 3 1 (.slice (some ⟨h7.next, 0, none⟩) 3 3) 3 (([0, -1, 1] : List Int).map (.int .i64)) := AM.Rd.whole (n := 3) g8 rfl
  rw [← n6, ← n7]
  refine refSame_w (b := pxS) (st35.fr0 fr58) ⟨_, _, rfl, rx1, rx2⟩ (by decide) (by decide) fun h9 fr9 => ?_
  rw [decide_eq_true (rfl : pxS = pxS)]
  have fr59 := fr58.trans fr9
  have nx9 := fr9.next
  have r9 := (o5.fr0 fr59).rd
  have t0 : (0 : Int).toNat = 0 := rfl
  have t1 : (1 : Int).toNat = 1 := rfl
  have d3 : decide ((3 : Int) = 3) = true := rfl
  have d2 : decide ((2 : Int) = 2) = true := rfl
  have d1 : decide ((1 : Int) = 1) = true := rfl
  have d0 : decide ((0 : Int) = 0) = true := rfl
  have i0 : aIndexAddr Tryd.prog 70 (.slice va 2 vc) (.int .i64 0) = some (elP (.slice va 2 vc) 3 0) := r9.ia el_70 .i64 0 (by decide) (by decide)
  have i1 : aIndexAddr Tryd.prog 70 (.slice va 2 vc) (.int .i64 1) = some (elP (.slice va 2 vc) 3 1) := r9.ia el_70 .i64 1 (by decide) (by decide)
  have ld0 : aLoad Tryd.prog h9 65 (elP (.slice va 2 vc) 3 0) = some (.agg #[.int .i64 1, .int .i64 0, .int .i64 1]) := Rd.lds (f := encS) encS_len r9 lk_65 rfl (0, 0, 0) 0 (by decide)
  have ld1 : aLoad Tryd.prog h9 65 (elP (.slice va 2 vc) 3 1) = some (.agg #[.int .i64 1, .int .i64 1, .int .i64 1]) := Rd.lds (f := encS) encS_len r9 lk_65 rfl (0, 0, 0) 1 (by decide)
  have fr69 := (fr7.trans fr8).trans fr9
  have g69 := g6.fr0 fr69
  (repeat' (first | (simp (maxSteps := 1000000) (disch := first | omega | (simp only [AM.DB, List.length_set, List.length_map]; first | done | omega)) only [AM.RB, Nat.reduceAdd, Nat.reduceMul, Nat.reduceEqDiff, reduceCtorEq, b53_PU1, d0, d1, d2, d3, d250, i0, i1, ld0, ld1, eqself, Bool.true_and, Bool.and_true, g69]) | refine AM.build_w ?_))
  generalize hE_ : AHeap.alloc h9 _ = h10; obtain ⟨g10, fr10, n10, l10⟩ := AM.new_get hE_; clear hE_
  generalize hE_ : AHeap.alloc h10 _ = h11; obtain ⟨g11, fr11, n11, l11⟩ := AM.new_get hE_; clear hE_
  have nx10 := fr10.next
  have nx11 := fr11.next
  have ry1 : Rd h11 3 1 (.slice (some ⟨h9.next, 0, none⟩) 2 2) 2 (([1, 2] : List Int).map (.int .i64)) := AM.Rd.whole (n := 2) (g10.fr0 fr11) rfl
  have ry2 : Rd h11 3 1 (.slice (some ⟨h10.next, 0, none⟩) 3 3) 3 (([-1, 0, 1] : List Int).map (.int .i64)) := AM.Rd.whole (n := 3) g11 rfl
  rw [← n10]
  refine refSame_w (a := ([1, 2], [-1, 0, 1])) (b := ([1, 2], [-1, 0, 1])) (st5.rd.fr0 ((fr59.trans fr10).trans fr11)) ⟨_, _, rfl, ry1, ry2⟩ (by decide) (by decide) fun h12 fr12 => ?_
  rw [decide_eq_true (rfl : (([1, 2], [-1, 0, 1]) : St) = ([1, 2], [-1, 0, 1]))]
  (repeat' (first | (simp (maxSteps := 1000000) (disch := first | omega | (simp only [AM.DB, List.length_set, List.length_map]; first | done | omega)) only [AM.RB, Nat.reduceAdd, Nat.reduceMul, Nat.reduceEqDiff, reduceCtorEq, b53_PU1]) | refine AM.build_w ?_))
  exact hq _ (frh5.trans (((fr59.trans fr10).trans fr11).trans fr12))

end Go.Proofs.YtbaohngkapmhlaaDoor

namespace Go.Proofs.YtbaohngkapmhlaaDoor
open Go.AM
set_option maxRecDepth 8000
/-- A state in a box, which the map owns nothing of. -/
def Sx (h : AHeap) (b p : Nat) (L : List (List UInt8)) (B N : Nat → Prop) (s : St) : Prop := ∃ x1 n1 c1 x2 n2 c2, h.get b = some (.cells [.slice x1 n1 c1, .slice x2 n2 c2] 59 false) ∧ StR h (.agg #[.slice x1 n1 c1, .slice x2 n2 c2]) s ∧ (∀ id, idOf (.slice x1 n1 c1) id ∨ idOf (.slice x2 n2 c2) id → ¬ N id) ∧ Mk h p L (fun id => B id ∨ idOf (.slice x1 n1 c1) id ∨ idOf (.slice x2 n2 c2) id)
theorem stepsL_chk {L : List (List UInt8)} {s : St} (c : Chk L.flatten s) (f : Fit L) : (stepsL L s).length ≤ 3 * (64 * 1024) := by
  rw [← stepsKs_3]
  exact Nat.le_trans (stepsKs_len L s 3) (Nat.mul_le_mul_left _ (Nat.mul_le_mul c.l64 f.k1024))
theorem getD_mem {α : Type} (l : List α) (d : α) {i : Nat} (h : i < l.length) : l.getD i d ∈ l := by
  rw [List.getD, List.getElem?_eq_getElem h]; exact List.getElem_mem h
/-- The rest of a draw by how many there are. -/
theorem rem_idx {u : Int} {n : Nat} (h0 : 0 ≤ u) (h1 : u < 65536) (hn : 0 < n) (hn2 : n ≤ 4000000) : ∃ j : Nat, Int.tmod u n = j ∧ j < n := by
  obtain ⟨a, rfl⟩ := Int.eq_ofNat_of_zero_le h0
  refine ⟨a % n, ?_, Nat.mod_lt _ hn⟩
  have e : Int.tmod (a : Int) (n : Int) = ((a % n : Nat) : Int) := by
    rw [Int.tmod_eq_emod_of_nonneg (by omega)]; rfl
  exact e
end Go.Proofs.YtbaohngkapmhlaaDoor
