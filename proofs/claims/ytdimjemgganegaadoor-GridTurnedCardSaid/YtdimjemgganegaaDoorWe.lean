/- Walks of this claim's functions, and plain laws. -/
import Derived.Test.YtdimjemgganegaaDoorWd
set_option linter.unusedSimpArgs false
set_option linter.unusedVariables false
namespace Go.Proofs.YtdimjemgganegaaDoor
open Go.AM
set_option maxRecDepth 8000
theorem b4_G32 : type_of% (And.intro (@AM.bin_add) (And.intro (@AM.bin_eql) (And.intro (@AM.bin_geq) (And.intro (@AM.bin_gtr) (And.intro (@AM.bin_lss) (And.intro (@AM.bin_mul) (And.intro (@AM.bin_neq) (And.intro (@AM.bin_quo) (And.intro (@AM.bin_rem) (And.intro (@AM.bin_sub) (And.intro (AM.bsW_int bs_34) (And.intro (AM.bsW_nil bs_34) (And.intro (AM.bsW_slice bs_34) (And.intro (AM.bsW_string bs_34) (And.intro (@AM.ex_tuple) (And.intro (@AM.iaO_ok) (And.intro (AM.ia_slice el_29) (And.intro (@AM.ldO_agg) (And.intro (@AM.ldO_one) (And.intro (@AM.ld_ptr) (And.intro (AM.len_slice ul_29) (And.intro (@lk_3) (And.intro (@AM.op_binOp) (And.intro (@AM.op_buildSlice) (And.intro (@AM.op_call) (And.intro (@AM.op_convert) (And.intro (@AM.op_extract) (And.intro (@AM.op_indexAddr) (And.intro (@AM.op_len) (And.intro (@AM.op_load) (And.intro (@AM.op_unOp) (And.intro (@AM.str_add) (And.intro (AM.str_len ul_9) (And.intro (@AM.un_neg) (@AM.un_not))))))))))))))))))))))))))))))))))) := And.intro (@AM.bin_add) (And.intro (@AM.bin_eql) (And.intro (@AM.bin_geq) (And.intro (@AM.bin_gtr) (And.intro (@AM.bin_lss) (And.intro (@AM.bin_mul) (And.intro (@AM.bin_neq) (And.intro (@AM.bin_quo) (And.intro (@AM.bin_rem) (And.intro (@AM.bin_sub) (And.intro (AM.bsW_int bs_34) (And.intro (AM.bsW_nil bs_34) (And.intro (AM.bsW_slice bs_34) (And.intro (AM.bsW_string bs_34) (And.intro (@AM.ex_tuple) (And.intro (@AM.iaO_ok) (And.intro (AM.ia_slice el_29) (And.intro (@AM.ldO_agg) (And.intro (@AM.ldO_one) (And.intro (@AM.ld_ptr) (And.intro (AM.len_slice ul_29) (And.intro (@lk_3) (And.intro (@AM.op_binOp) (And.intro (@AM.op_buildSlice) (And.intro (@AM.op_call) (And.intro (@AM.op_convert) (And.intro (@AM.op_extract) (And.intro (@AM.op_indexAddr) (And.intro (@AM.op_len) (And.intro (@AM.op_load) (And.intro (@AM.op_unOp) (And.intro (@AM.str_add) (And.intro (AM.str_len ul_9) (And.intro (@AM.un_neg) (@AM.un_not))))))))))))))))))))))))))))))))))


theorem bs_one (x : Int) (c : UInt8) (h : x = (c.toNat : Int)) : bsOf [x] = ⟨[c].toArray⟩ := by
  subst h
  unfold bsOf
  simp only [List.foldl_cons, List.foldl_nil, Int.toNat_natCast, UInt8.ofNat_toNat]
  rfl
set_option maxHeartbeats 8000000 in
theorem turnLaw_w (s : List UInt8) {h : AHeap} (hw0 : h.get GW = some (.cells waysC 89 false)) (hl0 : h.low = h.next) : W 4 [strV s] h fun v _ => v = .bool true := by
  have hgl : GW < h.low := by have := AM.get_some_lt hw0; omega
  refine AM.enter hp (fn := Tryd.f4) (rs := [.tmp 2]) (nt := 148) (by kernel_rfl) Tryd.func4 rfl rfl rfl (by kernel_rfl) ?_
  (first | (simp (maxSteps := 1000000) (disch := first | omega | (simp only [AM.DB, List.length_set, List.length_map]; first | done | omega)) only [AM.RB, Nat.reduceAdd, Nat.reduceMul, Nat.reduceEqDiff, reduceCtorEq, b4_G32]) | skip); (repeat' ((first | refine AM.drawW_fine (id := 32) hp (by kernel_rfl) (by kernel_rfl) ?_ | refine AM.drawW_loose (id := 33) hp (by kernel_rfl) ?_ | refine AM.opW_tied (by kernel_rfl) ?_ | refine AM.opW_untied (by kernel_rfl) ?_ | refine AM.build_w ?_); simp (maxSteps := 1000000) (disch := first | omega | (simp only [AM.DB, List.length_set, List.length_map]; first | done | omega)) only [AM.RB, Nat.reduceAdd, Nat.reduceMul, Nat.reduceEqDiff, reduceCtorEq, b4_G32]))
  refine alive_w hw0 hgl (by omega) fun h0 fr0 => ?_
  have hw00 := hw0.fr0 fr0
  have lw0 := fr0.low
  have nx0 := fr0.next
  have d100 : decide ((10 : Int) = 0) = false := rfl
  by_cases hlen : (600 : Int) < s.length
  · (first | (simp (maxSteps := 1000000) (disch := first | omega | (simp only [AM.DB, List.length_set, List.length_map]; first | done | omega)) only [AM.RB, Nat.reduceAdd, Nat.reduceMul, Nat.reduceEqDiff, reduceCtorEq, b4_G32, decide_eq_true hlen]) | skip); (repeat' ((first | refine AM.drawW_fine (id := 32) hp (by kernel_rfl) (by kernel_rfl) ?_ | refine AM.drawW_loose (id := 33) hp (by kernel_rfl) ?_ | refine AM.opW_tied (by kernel_rfl) ?_ | refine AM.opW_untied (by kernel_rfl) ?_ | refine AM.build_w ?_); simp (maxSteps := 1000000) (disch := first | omega | (simp only [AM.DB, List.length_set, List.length_map]; first | done | omega)) only [AM.RB, Nat.reduceAdd, Nat.reduceMul, Nat.reduceEqDiff, reduceCtorEq, b4_G32, decide_eq_true hlen]))
  (first | (simp (maxSteps := 1000000) (disch := first | omega | (simp only [AM.DB, List.length_set, List.length_map]; first | done | omega)) only [AM.RB, Nat.reduceAdd, Nat.reduceMul, Nat.reduceEqDiff, reduceCtorEq, b4_G32, decide_eq_false hlen]) | skip); (repeat' ((first | refine AM.drawW_fine (id := 32) hp (by kernel_rfl) (by kernel_rfl) ?_ | refine AM.drawW_loose (id := 33) hp (by kernel_rfl) ?_ | refine AM.opW_tied (by kernel_rfl) ?_ | refine AM.opW_untied (by kernel_rfl) ?_ | refine AM.build_w ?_); simp (maxSteps := 1000000) (disch := first | omega | (simp only [AM.DB, List.length_set, List.length_map]; first | done | omega)) only [AM.RB, Nat.reduceAdd, Nat.reduceMul, Nat.reduceEqDiff, reduceCtorEq, b4_G32, decide_eq_false hlen]))
  refine parseV_w s (by omega) (by omega) (fun a' b' hv h1 fr1 => ?_) (fun L hv p kv h1 m0 fr1 hp1 hid1 => ?_)
  · (first | (simp (maxSteps := 1000000) (disch := first | omega | (simp only [AM.DB, List.length_set, List.length_map]; first | done | omega)) only [AM.RB, Nat.reduceAdd, Nat.reduceMul, Nat.reduceEqDiff, reduceCtorEq, b4_G32, d100]) | skip); (repeat' ((first | refine AM.drawW_fine (id := 32) hp (by kernel_rfl) (by kernel_rfl) ?_ | refine AM.drawW_loose (id := 33) hp (by kernel_rfl) ?_ | refine AM.opW_tied (by kernel_rfl) ?_ | refine AM.opW_untied (by kernel_rfl) ?_ | refine AM.build_w ?_); simp (maxSteps := 1000000) (disch := first | omega | (simp only [AM.DB, List.length_set, List.length_map]; first | done | omega)) only [AM.RB, Nat.reduceAdd, Nat.reduceMul, Nat.reduceEqDiff, reduceCtorEq, b4_G32, d100]))
  have G := verd_good hv
  have f := G.fit
  have hK := f.k1024
  have hbd : L.length ≤ 4000000 ∧ (L.getD 0 []).length ≤ 4000000 := by have := f.r32; have := f.c32; omega
  have flen := f.len
  have hC := f.cols
  have hR := f.rows
  have hw1 := hw00.fr0 fr1
  have lw1 := fr1.low
  have nx1 := fr1.next
  have hall := G.rows'.all
  have vt := turn_verd G
  have Gt := verd_good vt
  have ft := Gt.fit
  have tl := turn_len L
  have tcols : ((turn L).getD 0 []).length = (L.getD 0 []).length := turn_cols hall f.rows
  have r32 := f.r32
  have c32 := f.c32
  have trow : ∀ j, j < L.length → ((turn L).getD j []).length = (L.getD 0 []).length := fun j hj => by
    have : (turn L).getD j [] = (turn L)[j]'(by omega) := by simp [List.getD, show j < (turn L).length by omega]
    rw [this]; exact turn_all hall _ (List.getElem_mem _)
  have tlenj : ∀ j, (textL ((turn L).take j)).length ≤ 32 * 33 := fun j => by
    rw [text_len (C := colsL L) fun T hT => turn_all hall T (List.mem_of_mem_take hT), List.length_take]
    have : colsL L = (L.getD 0 []).length := rfl
    exact Nat.mul_le_mul (by omega) (by omega)
  (first | (simp (maxSteps := 1000000) (disch := first | omega | (simp only [AM.DB, List.length_set, List.length_map]; first | done | omega)) only [AM.RB, Nat.reduceAdd, Nat.reduceMul, Nat.reduceEqDiff, reduceCtorEq, b4_G32]) | skip); (repeat' ((first | refine AM.drawW_fine (id := 32) hp (by kernel_rfl) (by kernel_rfl) ?_ | refine AM.drawW_loose (id := 33) hp (by kernel_rfl) ?_ | refine AM.opW_tied (by kernel_rfl) ?_ | refine AM.opW_untied (by kernel_rfl) ?_ | refine AM.build_w ?_); simp (maxSteps := 1000000) (disch := first | omega | (simp only [AM.DB, List.length_set, List.length_map]; first | done | omega)) only [AM.RB, Nat.reduceAdd, Nat.reduceMul, Nat.reduceEqDiff, reduceCtorEq, b4_G32]))
  refine rows_w m0 f.rows _ ?_
  (first | (simp (maxSteps := 1000000) (disch := first | omega | (simp only [AM.DB, List.length_set, List.length_map]; first | done | omega)) only [AM.RB, Nat.reduceAdd, Nat.reduceMul, Nat.reduceEqDiff, reduceCtorEq, b4_G32, AM.wrap_i64]) | skip); (repeat' ((first | refine AM.drawW_fine (id := 32) hp (by kernel_rfl) (by kernel_rfl) ?_ | refine AM.drawW_loose (id := 33) hp (by kernel_rfl) ?_ | refine AM.opW_tied (by kernel_rfl) ?_ | refine AM.opW_untied (by kernel_rfl) ?_ | refine AM.build_w ?_); simp (maxSteps := 1000000) (disch := first | omega | (simp only [AM.DB, List.length_set, List.length_map]; first | done | omega)) only [AM.RB, Nat.reduceAdd, Nat.reduceMul, Nat.reduceEqDiff, reduceCtorEq, b4_G32, AM.wrap_i64]))
  refine AM.loop_w hp 148 (fun j : Nat => [(2, .bool false), (3, .bool true), (4, pv p), (8, strV (textL ((turn L).take j))), (9, .int .i64 ((L.length : Int) - 1 - j))])
    (fun j h' => j ≤ L.length ∧ Fr none' h1 h') (fun j => L.length - j) (by kernel_rfl) 0 ?_ ?_ ?_
  · simp (maxSteps := 1000000) (disch := first | omega | (simp only [AM.DB, List.length_set, List.length_map]; first | done | omega)) only [AM.RB, Nat.reduceAdd, Nat.reduceMul, Nat.reduceEqDiff, reduceCtorEq, b4_G32]
    exact ⟨rfl, congrArg _ (by omega)⟩
  · exact ⟨Nat.zero_le _, Fr.refl _ _⟩
  rintro j h2 ρ ⟨hj, fr2⟩
  simp (maxSteps := 1000000) (disch := first | omega | (simp only [AM.DB, List.length_set, List.length_map]; first | done | omega)) only [AM.RB, Nat.reduceAdd, Nat.reduceMul, Nat.reduceEqDiff, reduceCtorEq, b4_G32]
  refine AM.condV_split (fun hlt => ?_) (fun hlt => ?_)
  · have hjl : j < L.length := by omega
    obtain ⟨rr, hrr⟩ : ∃ rr : Nat, (L.length : Int) - 1 - j = rr := ⟨L.length - 1 - j, by omega⟩
    have hrr' : rr = L.length - 1 - j := by omega
    rw [hrr]
    have hjl' := trow j hjl
    have htg := turn_get L hjl
    rw [← hrr'] at htg
    have tj := tlenj j
    have hrC : rr * (L.getD 0 []).length ≤ 32 * 32 := Nat.mul_le_mul (by omega) (by omega)
    have hrCi : (rr : Int) * ((L.getD 0 []).length : Int) = ((rr * (L.getD 0 []).length : Nat) : Int) := (Int.natCast_mul _ _).symm
    (first | (simp (maxSteps := 1000000) (disch := first | omega | (simp only [AM.DB, List.length_set, List.length_map]; first | done | omega)) only [AM.RB, Nat.reduceAdd, Nat.reduceMul, Nat.reduceEqDiff, reduceCtorEq, b4_G32]) | skip); (repeat' ((first | refine AM.drawW_fine (id := 32) hp (by kernel_rfl) (by kernel_rfl) ?_ | refine AM.drawW_loose (id := 33) hp (by kernel_rfl) ?_ | refine AM.opW_tied (by kernel_rfl) ?_ | refine AM.opW_untied (by kernel_rfl) ?_ | refine AM.build_w ?_); simp (maxSteps := 1000000) (disch := first | omega | (simp only [AM.DB, List.length_set, List.length_map]; first | done | omega)) only [AM.RB, Nat.reduceAdd, Nat.reduceMul, Nat.reduceEqDiff, reduceCtorEq, b4_G32]))
    refine AM.loop_w hp 148 (fun c : Nat => [(2, .bool false), (3, .bool true), (4, pv p), (8, strV (textL ((turn L).take j) ++ ((turn L).getD j []).take c)), (9, .int .i64 rr), (10, .int .i64 c)])
      (fun c h' => c ≤ (L.getD 0 []).length ∧ Fr none' h1 h') (fun c => (L.getD 0 []).length - c) (by kernel_rfl) 0 ?_ ?_ ?_
    · simp (maxSteps := 1000000) (disch := first | omega | (simp only [AM.DB, List.length_set, List.length_map]; first | done | omega)) only [AM.RB, Nat.reduceAdd, Nat.reduceMul, Nat.reduceEqDiff, reduceCtorEq, b4_G32]
    · exact ⟨Nat.zero_le _, fr2⟩
    rintro c h3 ρ ⟨hc, fr3⟩
    have m3 := m0.fr0 fr3
    have nx3 := fr3.next
    have lw3 := fr3.low
    (first | (simp (maxSteps := 1000000) (disch := first | omega | (simp only [AM.DB, List.length_set, List.length_map]; first | done | omega)) only [AM.RB, Nat.reduceAdd, Nat.reduceMul, Nat.reduceEqDiff, reduceCtorEq, b4_G32]) | skip); (repeat' ((first | refine AM.drawW_fine (id := 32) hp (by kernel_rfl) (by kernel_rfl) ?_ | refine AM.drawW_loose (id := 33) hp (by kernel_rfl) ?_ | refine AM.opW_tied (by kernel_rfl) ?_ | refine AM.opW_untied (by kernel_rfl) ?_ | refine AM.build_w ?_); simp (maxSteps := 1000000) (disch := first | omega | (simp only [AM.DB, List.length_set, List.length_map]; first | done | omega)) only [AM.RB, Nat.reduceAdd, Nat.reduceMul, Nat.reduceEqDiff, reduceCtorEq, b4_G32]))
    refine cols_w m3 f.rows _ ?_
    (first | (simp (maxSteps := 1000000) (disch := first | omega | (simp only [AM.DB, List.length_set, List.length_map]; first | done | omega)) only [AM.RB, Nat.reduceAdd, Nat.reduceMul, Nat.reduceEqDiff, reduceCtorEq, b4_G32]) | skip); (repeat' ((first | refine AM.drawW_fine (id := 32) hp (by kernel_rfl) (by kernel_rfl) ?_ | refine AM.drawW_loose (id := 33) hp (by kernel_rfl) ?_ | refine AM.opW_tied (by kernel_rfl) ?_ | refine AM.opW_untied (by kernel_rfl) ?_ | refine AM.build_w ?_); simp (maxSteps := 1000000) (disch := first | omega | (simp only [AM.DB, List.length_set, List.length_map]; first | done | omega)) only [AM.RB, Nat.reduceAdd, Nat.reduceMul, Nat.reduceEqDiff, reduceCtorEq, b4_G32]))
    refine AM.condV_split (fun hltc => ?_) (fun hltc => ?_)
    · have hcl : c < (L.getD 0 []).length := by omega
      (first | (simp (maxSteps := 1000000) (disch := first | omega | (simp only [AM.DB, List.length_set, List.length_map]; first | done | omega)) only [AM.RB, Nat.reduceAdd, Nat.reduceMul, Nat.reduceEqDiff, reduceCtorEq, b4_G32]) | skip); (repeat' ((first | refine AM.drawW_fine (id := 32) hp (by kernel_rfl) (by kernel_rfl) ?_ | refine AM.drawW_loose (id := 33) hp (by kernel_rfl) ?_ | refine AM.opW_tied (by kernel_rfl) ?_ | refine AM.opW_untied (by kernel_rfl) ?_ | refine AM.build_w ?_); simp (maxSteps := 1000000) (disch := first | omega | (simp only [AM.DB, List.length_set, List.length_map]; first | done | omega)) only [AM.RB, Nat.reduceAdd, Nat.reduceMul, Nat.reduceEqDiff, reduceCtorEq, b4_G32]))
      refine cols_w m3 f.rows _ ?_
      (first | (simp (maxSteps := 1000000) (disch := first | omega | (simp only [AM.DB, List.length_set, List.length_map]; first | done | omega)) only [AM.RB, Nat.reduceAdd, Nat.reduceMul, Nat.reduceEqDiff, reduceCtorEq, b4_G32, hrCi, AM.wrap_i64]) | skip); (repeat' ((first | refine AM.drawW_fine (id := 32) hp (by kernel_rfl) (by kernel_rfl) ?_ | refine AM.drawW_loose (id := 33) hp (by kernel_rfl) ?_ | refine AM.opW_tied (by kernel_rfl) ?_ | refine AM.opW_untied (by kernel_rfl) ?_ | refine AM.build_w ?_); simp (maxSteps := 1000000) (disch := first | omega | (simp only [AM.DB, List.length_set, List.length_map]; first | done | omega)) only [AM.RB, Nat.reduceAdd, Nat.reduceMul, Nat.reduceEqDiff, reduceCtorEq, b4_G32, hrCi, AM.wrap_i64]))
      refine kind_w m3 f.rows _ _ ?_
      have hcn : rr * (L.getD 0 []).length + c < L.length * (L.getD 0 []).length := by
        have h1 : rr * (L.getD 0 []).length + (L.getD 0 []).length ≤ L.length * (L.getD 0 []).length := by
          rw [← Nat.succ_mul]; exact Nat.mul_le_mul_right _ (by omega)
        omega
      have hk : kindP L.flatten (((rr * (L.getD 0 []).length : Nat) : Int) + (c : Int)) = (L.getD rr []).getD c 0 := by
        unfold kindP
        rw [if_pos (by omega), show (((rr * (L.getD 0 []).length : Nat) : Int) + (c : Int)).toNat = (L.getD 0 []).length * rr + c by rw [Nat.mul_comm]; omega, flat_get hall hC (by rw [Nat.mul_comm (L.getD 0 []).length]; exact hcn), Nat.mul_add_div hC, Nat.div_eq_of_lt hcl, Nat.mul_add_mod, Nat.mod_eq_of_lt hcl, Nat.add_zero]
      rw [hk]
      have htc : ((turn L).getD j []).getD c 0 = tw ((L.getD rr []).getD c 0) := by
        rw [htg]
        rw [htg, List.length_map] at hjl'
        generalize L.getD rr [] = T at *
        rw [List.getD, List.getD, List.getElem?_map, List.getElem?_eq_getElem (by omega)]; rfl
      have hts := take_succ' ((turn L).getD j []) (c := c) (by omega)
      rw [htc] at hts
      have htn := tw_nat ((L.getD rr []).getD c 0)
      generalize (L.getD rr []).getD c 0 = kk at *
      have hsl : (textL ((turn L).take j) ++ ((turn L).getD j []).take c).length + [tw kk].length ≤ 1099511627776 := by
        rw [List.length_append, List.length_take, List.length_singleton]; omega
      have happ : textL ((turn L).take j) ++ ((turn L).getD j []).take c ++ [tw kk] = textL ((turn L).take j) ++ ((turn L).getD j []).take (c + 1) := by rw [hts, List.append_assoc]
      by_cases h94 : (kk.toNat : Int) = 94
      case' pos =>
        have ek : (118 : Int) = ((tw kk).toNat : Int) := by rw [htn, if_pos (by omega)]; rfl
        (first | (simp (maxSteps := 1000000) (disch := first | omega | (simp only [AM.DB, List.length_set, List.length_map]; first | done | omega)) only [AM.RB, Nat.reduceAdd, Nat.reduceMul, Nat.reduceEqDiff, reduceCtorEq, b4_G32, decide_eq_true h94]) | skip); (repeat' ((first | refine AM.drawW_fine (id := 32) hp (by kernel_rfl) (by kernel_rfl) ?_ | refine AM.drawW_loose (id := 33) hp (by kernel_rfl) ?_ | refine AM.opW_tied (by kernel_rfl) ?_ | refine AM.opW_untied (by kernel_rfl) ?_ | refine AM.build_w ?_); simp (maxSteps := 1000000) (disch := first | omega | (simp only [AM.DB, List.length_set, List.length_map]; first | done | omega)) only [AM.RB, Nat.reduceAdd, Nat.reduceMul, Nat.reduceEqDiff, reduceCtorEq, b4_G32, decide_eq_true h94]))
      case' neg =>
        by_cases h118 : (kk.toNat : Int) = 118
        case' pos =>
          have ek : (94 : Int) = ((tw kk).toNat : Int) := by rw [htn, if_neg (by omega), if_pos (by omega)]; rfl
          (first | (simp (maxSteps := 1000000) (disch := first | omega | (simp only [AM.DB, List.length_set, List.length_map]; first | done | omega)) only [AM.RB, Nat.reduceAdd, Nat.reduceMul, Nat.reduceEqDiff, reduceCtorEq, b4_G32, decide_eq_false h94, decide_eq_true h118]) | skip); (repeat' ((first | refine AM.drawW_fine (id := 32) hp (by kernel_rfl) (by kernel_rfl) ?_ | refine AM.drawW_loose (id := 33) hp (by kernel_rfl) ?_ | refine AM.opW_tied (by kernel_rfl) ?_ | refine AM.opW_untied (by kernel_rfl) ?_ | refine AM.build_w ?_); simp (maxSteps := 1000000) (disch := first | omega | (simp only [AM.DB, List.length_set, List.length_map]; first | done | omega)) only [AM.RB, Nat.reduceAdd, Nat.reduceMul, Nat.reduceEqDiff, reduceCtorEq, b4_G32, decide_eq_false h94, decide_eq_true h118]))
        case' neg =>
          have ek : (kk.toNat : Int) = ((tw kk).toNat : Int) := by rw [htn, if_neg (by omega), if_neg (by omega)]
          (first | (simp (maxSteps := 1000000) (disch := first | omega | (simp only [AM.DB, List.length_set, List.length_map]; first | done | omega)) only [AM.RB, Nat.reduceAdd, Nat.reduceMul, Nat.reduceEqDiff, reduceCtorEq, b4_G32, decide_eq_false h94, decide_eq_false h118]) | skip); (repeat' ((first | refine AM.drawW_fine (id := 32) hp (by kernel_rfl) (by kernel_rfl) ?_ | refine AM.drawW_loose (id := 33) hp (by kernel_rfl) ?_ | refine AM.opW_tied (by kernel_rfl) ?_ | refine AM.opW_untied (by kernel_rfl) ?_ | refine AM.build_w ?_); simp (maxSteps := 1000000) (disch := first | omega | (simp only [AM.DB, List.length_set, List.length_map]; first | done | omega)) only [AM.RB, Nat.reduceAdd, Nat.reduceMul, Nat.reduceEqDiff, reduceCtorEq, b4_G32, decide_eq_false h94, decide_eq_false h118]))
      all_goals (
        generalize hE_ : AHeap.alloc h3 _ = h4; obtain ⟨g4, fr4, n4, l4⟩ := AM.new_get hE_; clear hE_
        have cv := AM.cv_bytes ul_34 ul_5 ul_9 (l := [_]) (AM.Rd.whole (n := 1) (c := _) g4 rfl)
        rw [bs_one _ (tw kk) ek] at cv
        (first | (simp (maxSteps := 1000000) (disch := first | omega | (simp only [AM.DB, List.length_set, List.length_map]; first | done | omega)) only [AM.RB, Nat.reduceAdd, Nat.reduceMul, Nat.reduceEqDiff, reduceCtorEq, b4_G32, cv, AM.str_add _ hsl, happ, AM.wrap_i64]) | skip); (repeat' ((first | refine AM.drawW_fine (id := 32) hp (by kernel_rfl) (by kernel_rfl) ?_ | refine AM.drawW_loose (id := 33) hp (by kernel_rfl) ?_ | refine AM.opW_tied (by kernel_rfl) ?_ | refine AM.opW_untied (by kernel_rfl) ?_ | refine AM.build_w ?_); simp (maxSteps := 1000000) (disch := first | omega | (simp only [AM.DB, List.length_set, List.length_map]; first | done | omega)) only [AM.RB, Nat.reduceAdd, Nat.reduceMul, Nat.reduceEqDiff, reduceCtorEq, b4_G32, cv, AM.str_add _ hsl, happ, AM.wrap_i64]))
        exact ⟨c + 1, by omega, ⟨rfl, congrArg _ (by omega)⟩, by omega, fr3.trans fr4⟩)
    · obtain rfl : c = (L.getD 0 []).length := by omega
      have hsl : (textL ((turn L).take j) ++ (turn L).getD j []).length + [(10 : UInt8)].length ≤ 1099511627776 := by
        rw [List.length_append, List.length_singleton]; omega
      have htk : ((turn L).getD j []).take (L.getD 0 []).length = (turn L).getD j [] := List.take_of_length_le (by omega)
      have hts := text_succ (turn L) (j := j) (by omega)
      rw [htk]
      (first | (simp (maxSteps := 1000000) (disch := first | omega | (simp only [AM.DB, List.length_set, List.length_map]; first | done | omega)) only [AM.RB, Nat.reduceAdd, Nat.reduceMul, Nat.reduceEqDiff, reduceCtorEq, b4_G32, AM.str_add _ hsl, ← hts, AM.wrap_i64]) | skip); (repeat' ((first | refine AM.drawW_fine (id := 32) hp (by kernel_rfl) (by kernel_rfl) ?_ | refine AM.drawW_loose (id := 33) hp (by kernel_rfl) ?_ | refine AM.opW_tied (by kernel_rfl) ?_ | refine AM.opW_untied (by kernel_rfl) ?_ | refine AM.build_w ?_); simp (maxSteps := 1000000) (disch := first | omega | (simp only [AM.DB, List.length_set, List.length_map]; first | done | omega)) only [AM.RB, Nat.reduceAdd, Nat.reduceMul, Nat.reduceEqDiff, reduceCtorEq, b4_G32, AM.str_add _ hsl, ← hts, AM.wrap_i64]))
      exact ⟨j + 1, by omega, ⟨rfl, congrArg _ (by omega)⟩, by omega, fr3⟩
  obtain rfl : j = L.length := by omega
  have nx2 := fr2.next
  have lw2 := fr2.low
  have htk : (turn L).take L.length = turn L := List.take_of_length_le (by omega)
  have tlen : (textL (turn L)).length ≤ 32 * 33 := by have := tlenj L.length; rwa [htk] at this
  rw [htk]
  (first | (simp (maxSteps := 1000000) (disch := first | omega | (simp only [AM.DB, List.length_set, List.length_map]; first | done | omega)) only [AM.RB, Nat.reduceAdd, Nat.reduceMul, Nat.reduceEqDiff, reduceCtorEq, b4_G32]) | skip); (repeat' ((first | refine AM.drawW_fine (id := 32) hp (by kernel_rfl) (by kernel_rfl) ?_ | refine AM.drawW_loose (id := 33) hp (by kernel_rfl) ?_ | refine AM.opW_tied (by kernel_rfl) ?_ | refine AM.opW_untied (by kernel_rfl) ?_ | refine AM.build_w ?_); simp (maxSteps := 1000000) (disch := first | omega | (simp only [AM.DB, List.length_set, List.length_map]; first | done | omega)) only [AM.RB, Nat.reduceAdd, Nat.reduceMul, Nat.reduceEqDiff, reduceCtorEq, b4_G32]))
  refine parseV_w _ (by omega) (by omega) (fun a' b' hv' h3 fr3 => by rw [vt] at hv'; cases hv') (fun L' hv' pw kvw h3 m3 fr3 hp3 hid3 => ?_)
  rw [vt] at hv'
  cases hv'
  have nx3 := fr3.next
  have lw3 := fr3.low
  have hw3 := (hw1.fr0 fr2).fr0 fr3
  have ltp := AM.get_some_lt m0.1
  have ltw := AM.get_some_lt m3.1
  have kp2 : Mk h2 p L (fun _ => False) := Mk.start (m0.fr0 fr2) hp1 hid1 (by omega) (fun _ q => q.elim)
  have km3 : Mk h3 p L (fun id => id = pw) := kp2.more fr3 fun id q => .inr (by omega)
  have kw3 : Mk h3 pw (turn L) (fun id => id = p) := Mk.start m3 hp3 hid3 (by omega) fun id q => by omega
  have gp : GW ≠ p := by omega
  have gw : GW ≠ pw := by omega
  (first | (simp (maxSteps := 1000000) (disch := first | omega | (simp only [AM.DB, List.length_set, List.length_map]; first | done | omega)) only [AM.RB, Nat.reduceAdd, Nat.reduceMul, Nat.reduceEqDiff, reduceCtorEq, b4_G32]) | skip); (repeat' ((first | refine AM.drawW_fine (id := 32) hp (by kernel_rfl) (by kernel_rfl) ?_ | refine AM.drawW_loose (id := 33) hp (by kernel_rfl) ?_ | refine AM.opW_tied (by kernel_rfl) ?_ | refine AM.opW_untied (by kernel_rfl) ?_ | refine AM.build_w ?_); simp (maxSteps := 1000000) (disch := first | omega | (simp only [AM.DB, List.length_set, List.length_map]; first | done | omega)) only [AM.RB, Nat.reduceAdd, Nat.reduceMul, Nat.reduceEqDiff, reduceCtorEq, b4_G32]))
  refine edgesK_w kw3 ft hw3 (by omega) (by omega) fun h5 kw5 fr5 => ?_
  have nx5 := fr5.next
  have lw5 := fr5.low
  have hw5 := fr5.get hw3 gw
  have km5 := km3.frB fr5 fun id q => q
  (first | (simp (maxSteps := 1000000) (disch := first | omega | (simp only [AM.DB, List.length_set, List.length_map]; first | done | omega)) only [AM.RB, Nat.reduceAdd, Nat.reduceMul, Nat.reduceEqDiff, reduceCtorEq, b4_G32]) | skip); (repeat' ((first | refine AM.drawW_fine (id := 32) hp (by kernel_rfl) (by kernel_rfl) ?_ | refine AM.drawW_loose (id := 33) hp (by kernel_rfl) ?_ | refine AM.opW_tied (by kernel_rfl) ?_ | refine AM.opW_untied (by kernel_rfl) ?_ | refine AM.build_w ?_); simp (maxSteps := 1000000) (disch := first | omega | (simp only [AM.DB, List.length_set, List.length_map]; first | done | omega)) only [AM.RB, Nat.reduceAdd, Nat.reduceMul, Nat.reduceEqDiff, reduceCtorEq, b4_G32]))
  refine edgesK_w km5 f hw5 (by omega) (by omega) fun h6 km6 fr6 => ?_
  have nx6 := fr6.next
  have lw6 := fr6.low
  have hw6 := fr6.get hw5 gp
  have kw6 := kw5.frB fr6 fun id q => q
  rw [turn_out f hall ft]
  (first | (simp (maxSteps := 1000000) (disch := first | omega | (simp only [AM.DB, List.length_set, List.length_map]; first | done | omega)) only [AM.RB, Nat.reduceAdd, Nat.reduceMul, Nat.reduceEqDiff, reduceCtorEq, b4_G32, decide_eq_true (rfl : (outN L L.flatten.length : Int) = outN L L.flatten.length)]) | skip); (repeat' ((first | refine AM.drawW_fine (id := 32) hp (by kernel_rfl) (by kernel_rfl) ?_ | refine AM.drawW_loose (id := 33) hp (by kernel_rfl) ?_ | refine AM.opW_tied (by kernel_rfl) ?_ | refine AM.opW_untied (by kernel_rfl) ?_ | refine AM.build_w ?_); simp (maxSteps := 1000000) (disch := first | omega | (simp only [AM.DB, List.length_set, List.length_map]; first | done | omega)) only [AM.RB, Nat.reduceAdd, Nat.reduceMul, Nat.reduceEqDiff, reduceCtorEq, b4_G32, decide_eq_true (rfl : (outN L L.flatten.length : Int) = outN L L.flatten.length)]))
  refine AM.loop_w hp 148 (fun a : Nat => [(2, .bool false), (3, .bool true), (4, pv p), (12, pv pw), (16, .int .i64 a)])
    (fun a h' => a ≤ L.flatten.length ∧ h3.next ≤ h'.next ∧ h'.low = h3.low ∧ h'.get GW = some (.cells waysC 89 false) ∧ Mk h' p L (fun id => id = pw) ∧ Mk h' pw (turn L) (fun id => id = p)) (fun a => L.flatten.length - a) (by kernel_rfl) 0 ?_ ?_ ?_
  · simp (maxSteps := 1000000) (disch := first | omega | (simp only [AM.DB, List.length_set, List.length_map]; first | done | omega)) only [AM.RB, Nat.reduceAdd, Nat.reduceMul, Nat.reduceEqDiff, reduceCtorEq, b4_G32]
  · exact ⟨Nat.zero_le _, by omega, by omega, hw6, km6, kw6⟩
  rintro a h11 ρ ⟨ha, nx11, lw11, hw11, km11, kw11⟩
  obtain ⟨kvm11, tlm11, mm11⟩ := km11.mp
  (first | (simp (maxSteps := 1000000) (disch := first | omega | (simp only [AM.DB, List.length_set, List.length_map]; first | done | omega)) only [AM.RB, Nat.reduceAdd, Nat.reduceMul, Nat.reduceEqDiff, reduceCtorEq, b4_G32]) | skip); (repeat' ((first | refine AM.drawW_fine (id := 32) hp (by kernel_rfl) (by kernel_rfl) ?_ | refine AM.drawW_loose (id := 33) hp (by kernel_rfl) ?_ | refine AM.opW_tied (by kernel_rfl) ?_ | refine AM.opW_untied (by kernel_rfl) ?_ | refine AM.build_w ?_); simp (maxSteps := 1000000) (disch := first | omega | (simp only [AM.DB, List.length_set, List.length_map]; first | done | omega)) only [AM.RB, Nat.reduceAdd, Nat.reduceMul, Nat.reduceEqDiff, reduceCtorEq, b4_G32]))
  refine cells_w mm11 f.rows hbd _ ?_
  (first | (simp (maxSteps := 1000000) (disch := first | omega | (simp only [AM.DB, List.length_set, List.length_map]; first | done | omega)) only [AM.RB, Nat.reduceAdd, Nat.reduceMul, Nat.reduceEqDiff, reduceCtorEq, b4_G32]) | skip); (repeat' ((first | refine AM.drawW_fine (id := 32) hp (by kernel_rfl) (by kernel_rfl) ?_ | refine AM.drawW_loose (id := 33) hp (by kernel_rfl) ?_ | refine AM.opW_tied (by kernel_rfl) ?_ | refine AM.opW_untied (by kernel_rfl) ?_ | refine AM.build_w ?_); simp (maxSteps := 1000000) (disch := first | omega | (simp only [AM.DB, List.length_set, List.length_map]; first | done | omega)) only [AM.RB, Nat.reduceAdd, Nat.reduceMul, Nat.reduceEqDiff, reduceCtorEq, b4_G32]))
  refine AM.condV_split (fun hlt => ?_) (fun hlt => ?_)
  · have hal : a < L.flatten.length := by omega
    have hnl := nextL_len f a
    (first | (simp (maxSteps := 1000000) (disch := first | omega | (simp only [AM.DB, List.length_set, List.length_map]; first | done | omega)) only [AM.RB, Nat.reduceAdd, Nat.reduceMul, Nat.reduceEqDiff, reduceCtorEq, b4_G32]) | skip); (repeat' ((first | refine AM.drawW_fine (id := 32) hp (by kernel_rfl) (by kernel_rfl) ?_ | refine AM.drawW_loose (id := 33) hp (by kernel_rfl) ?_ | refine AM.opW_tied (by kernel_rfl) ?_ | refine AM.opW_untied (by kernel_rfl) ?_ | refine AM.build_w ?_); simp (maxSteps := 1000000) (disch := first | omega | (simp only [AM.DB, List.length_set, List.length_map]; first | done | omega)) only [AM.RB, Nat.reduceAdd, Nat.reduceMul, Nat.reduceEqDiff, reduceCtorEq, b4_G32]))
    refine nextK_w km11 f hw11 (by omega) (by omega) a fun x h12 km12 o12 fr12 hid12 => ?_
    obtain ⟨xa, xc, rfl⟩ := o12.form
    have nx12 := fr12.next
    have lw12 := fr12.low
    have hw12 := fr12.get hw11 gp
    have kw12 := kw11.frB fr12 fun id q => q
    have ltw12 := kw11.lt
    have hxp : ∀ id, idOf (.slice xa (nextL L a).length xc) id → id ≠ pw := fun id q => by have := hid12 id q; omega
    (first | (simp (maxSteps := 1000000) (disch := first | omega | (simp only [AM.DB, List.length_set, List.length_map]; first | done | omega)) only [AM.RB, Nat.reduceAdd, Nat.reduceMul, Nat.reduceEqDiff, reduceCtorEq, b4_G32]) | skip); (repeat' ((first | refine AM.drawW_fine (id := 32) hp (by kernel_rfl) (by kernel_rfl) ?_ | refine AM.drawW_loose (id := 33) hp (by kernel_rfl) ?_ | refine AM.opW_tied (by kernel_rfl) ?_ | refine AM.opW_untied (by kernel_rfl) ?_ | refine AM.build_w ?_); simp (maxSteps := 1000000) (disch := first | omega | (simp only [AM.DB, List.length_set, List.length_map]; first | done | omega)) only [AM.RB, Nat.reduceAdd, Nat.reduceMul, Nat.reduceEqDiff, reduceCtorEq, b4_G32]))
    refine AM.loop_w hp 148 (fun i : Nat => [(2, .bool false), (3, .bool true), (4, pv p), (12, pv pw), (16, .int .i64 a), (17, .slice xa (nextL L a).length xc), (18, .int .i64 i)])
      (fun i h' => i ≤ (nextL L a).length ∧ h3.next ≤ h'.next ∧ h'.low = h3.low ∧ h'.get GW = some (.cells waysC 89 false) ∧ Ow h' 3 1 (.slice xa (nextL L a).length xc) (nextL L a).length ((nextL L a).map (.int .i64)) ∧ Mk h' p L (fun id => id = pw) ∧ Mk h' pw (turn L) (fun id => id = p)) (fun i => (nextL L a).length - i) (by kernel_rfl) 0 ?_ ?_ ?_
    · simp (maxSteps := 1000000) (disch := first | omega | (simp only [AM.DB, List.length_set, List.length_map]; first | done | omega)) only [AM.RB, Nat.reduceAdd, Nat.reduceMul, Nat.reduceEqDiff, reduceCtorEq, b4_G32]
    · exact ⟨Nat.zero_le _, by omega, by omega, hw12, o12, km12, kw12⟩
    rintro i h13 ρ ⟨hi, nx13, lw13, hw13, o13, km13, kw13⟩
    have r13 := o13.rd
    obtain ⟨kvm13, tlm13, mm13⟩ := km13.mp
    simp (maxSteps := 1000000) (disch := first | omega | (simp only [AM.DB, List.length_set, List.length_map]; first | done | omega)) only [AM.RB, Nat.reduceAdd, Nat.reduceMul, Nat.reduceEqDiff, reduceCtorEq, b4_G32]
    refine AM.condV_split (fun hli => ?_) (fun hli => ?_)
    · have hil : i < (nextL L a).length := by omega
      have he := nextL_at f a hil
      obtain ⟨bi, hb⟩ : ∃ b, (nextL L a).getD i 0 = b := ⟨_, rfl⟩
      rw [hb] at he
      obtain ⟨hein, _, _, _⟩ := edgeL_facts he
      obtain ⟨b, rfl⟩ := Int.eq_ofNat_of_zero_le hein.2.1
      have hte := turn_edge f hall ft he
      have dv (n : Nat) (hn : n < L.flatten.length) : n / (L.getD 0 []).length < L.length := by rw [Nat.div_lt_iff_lt_mul hC, ← flen]; exact hn
      have da := dv a hal
      have db := dv b (by omega)
      have e1 := tdiv_nat a (L.getD 0 []).length
      have e2 := tdiv_nat b (L.getD 0 []).length
      have e3 := tmod_nat a (L.getD 0 []).length
      have e4 := tmod_nat b (L.getD 0 []).length
      have ma := Nat.mod_lt a hC
      have mb := Nat.mod_lt b hC
      unfold sig colsL at hte
      have hC' : ((L.getD 0 []).length : Int) ≠ 0 := by omega
      generalize a / (L.getD 0 []).length = ra at *
      generalize b / (L.getD 0 []).length = rb at *
      generalize a % (L.getD 0 []).length = ca at *
      generalize b % (L.getD 0 []).length = cb at *
      have pa1 : (L.length - 1 - ra) * (L.getD 0 []).length ≤ 32 * 32 := Nat.mul_le_mul (by omega) (by omega)
      have pb1 : (L.length - 1 - rb) * (L.getD 0 []).length ≤ 32 * 32 := Nat.mul_le_mul (by omega) (by omega)
      have w1 := wrap_nat (n := ra) (by omega)
      have w2 := wrap_nat (n := rb) (by omega)
      have w3 := wrap_nat (n := ca) (by omega)
      have w4 := wrap_nat (n := cb) (by omega)
      have s1 : ((L.length : Int) - 1 - ra) = ((L.length - 1 - ra : Nat) : Int) := by omega
      have s2 : ((L.length : Int) - 1 - rb) = ((L.length - 1 - rb : Nat) : Int) := by omega
      have p1 : ((L.length - 1 - ra : Nat) : Int) * ((L.getD 0 []).length : Int) = (((L.length - 1 - ra) * (L.getD 0 []).length : Nat) : Int) := (Int.natCast_mul _ _).symm
      have p2 : ((L.length - 1 - rb : Nat) : Int) * ((L.getD 0 []).length : Int) = (((L.length - 1 - rb) * (L.getD 0 []).length : Nat) : Int) := (Int.natCast_mul _ _).symm
      generalize (L.length - 1 - ra) * (L.getD 0 []).length = ya at *
      generalize (L.length - 1 - rb) * (L.getD 0 []).length = yb at *
      (first | (simp (maxSteps := 1000000) (disch := first | omega | (simp only [AM.DB, List.length_set, List.length_map]; first | done | omega)) only [AM.RB, Nat.reduceAdd, Nat.reduceMul, Nat.reduceEqDiff, reduceCtorEq, b4_G32]) | skip); (repeat' ((first | refine AM.drawW_fine (id := 32) hp (by kernel_rfl) (by kernel_rfl) ?_ | refine AM.drawW_loose (id := 33) hp (by kernel_rfl) ?_ | refine AM.opW_tied (by kernel_rfl) ?_ | refine AM.opW_untied (by kernel_rfl) ?_ | refine AM.build_w ?_); simp (maxSteps := 1000000) (disch := first | omega | (simp only [AM.DB, List.length_set, List.length_map]; first | done | omega)) only [AM.RB, Nat.reduceAdd, Nat.reduceMul, Nat.reduceEqDiff, reduceCtorEq, b4_G32]))
      refine rows_w mm13 f.rows _ ?_
      (first | (simp (maxSteps := 1000000) (disch := first | omega | (simp only [AM.DB, List.length_set, List.length_map]; first | done | omega)) only [AM.RB, Nat.reduceAdd, Nat.reduceMul, Nat.reduceEqDiff, reduceCtorEq, b4_G32]) | skip); (repeat' ((first | refine AM.drawW_fine (id := 32) hp (by kernel_rfl) (by kernel_rfl) ?_ | refine AM.drawW_loose (id := 33) hp (by kernel_rfl) ?_ | refine AM.opW_tied (by kernel_rfl) ?_ | refine AM.opW_untied (by kernel_rfl) ?_ | refine AM.build_w ?_); simp (maxSteps := 1000000) (disch := first | omega | (simp only [AM.DB, List.length_set, List.length_map]; first | done | omega)) only [AM.RB, Nat.reduceAdd, Nat.reduceMul, Nat.reduceEqDiff, reduceCtorEq, b4_G32]))
      refine cols_w mm13 f.rows _ ?_
      (first | (simp (maxSteps := 1000000) (disch := first | omega | (simp only [AM.DB, List.length_set, List.length_map]; first | done | omega)) only [AM.RB, Nat.reduceAdd, Nat.reduceMul, Nat.reduceEqDiff, reduceCtorEq, b4_G32, e1, w1]) | skip); (repeat' ((first | refine AM.drawW_fine (id := 32) hp (by kernel_rfl) (by kernel_rfl) ?_ | refine AM.drawW_loose (id := 33) hp (by kernel_rfl) ?_ | refine AM.opW_tied (by kernel_rfl) ?_ | refine AM.opW_untied (by kernel_rfl) ?_ | refine AM.build_w ?_); simp (maxSteps := 1000000) (disch := first | omega | (simp only [AM.DB, List.length_set, List.length_map]; first | done | omega)) only [AM.RB, Nat.reduceAdd, Nat.reduceMul, Nat.reduceEqDiff, reduceCtorEq, b4_G32, e1, w1]))
      refine cols_w mm13 f.rows _ ?_
      (first | (simp (maxSteps := 1000000) (disch := first | omega | (simp only [AM.DB, List.length_set, List.length_map]; first | done | omega)) only [AM.RB, Nat.reduceAdd, Nat.reduceMul, Nat.reduceEqDiff, reduceCtorEq, b4_G32, e1, w1]) | skip); (repeat' ((first | refine AM.drawW_fine (id := 32) hp (by kernel_rfl) (by kernel_rfl) ?_ | refine AM.drawW_loose (id := 33) hp (by kernel_rfl) ?_ | refine AM.opW_tied (by kernel_rfl) ?_ | refine AM.opW_untied (by kernel_rfl) ?_ | refine AM.build_w ?_); simp (maxSteps := 1000000) (disch := first | omega | (simp only [AM.DB, List.length_set, List.length_map]; first | done | omega)) only [AM.RB, Nat.reduceAdd, Nat.reduceMul, Nat.reduceEqDiff, reduceCtorEq, b4_G32, e1, w1]))
      refine cols_w mm13 f.rows _ ?_
      (first | (simp (maxSteps := 1000000) (disch := first | omega | (simp only [AM.DB, List.length_set, List.length_map]; first | done | omega)) only [AM.RB, Nat.reduceAdd, Nat.reduceMul, Nat.reduceEqDiff, reduceCtorEq, b4_G32, e3, w3, AM.wrap_i64, s1, p1]) | skip); (repeat' ((first | refine AM.drawW_fine (id := 32) hp (by kernel_rfl) (by kernel_rfl) ?_ | refine AM.drawW_loose (id := 33) hp (by kernel_rfl) ?_ | refine AM.opW_tied (by kernel_rfl) ?_ | refine AM.opW_untied (by kernel_rfl) ?_ | refine AM.build_w ?_); simp (maxSteps := 1000000) (disch := first | omega | (simp only [AM.DB, List.length_set, List.length_map]; first | done | omega)) only [AM.RB, Nat.reduceAdd, Nat.reduceMul, Nat.reduceEqDiff, reduceCtorEq, b4_G32, e3, w3, AM.wrap_i64, s1, p1]))
      refine rows_w mm13 f.rows _ ?_
      (first | (simp (maxSteps := 1000000) (disch := first | omega | (simp only [AM.DB, List.length_set, List.length_map]; first | done | omega)) only [AM.RB, Nat.reduceAdd, Nat.reduceMul, Nat.reduceEqDiff, reduceCtorEq, b4_G32, r13.ia el_29, Rd.ldi r13 lk_3, Int.toNat_natCast, hb]) | skip); (repeat' ((first | refine AM.drawW_fine (id := 32) hp (by kernel_rfl) (by kernel_rfl) ?_ | refine AM.drawW_loose (id := 33) hp (by kernel_rfl) ?_ | refine AM.opW_tied (by kernel_rfl) ?_ | refine AM.opW_untied (by kernel_rfl) ?_ | refine AM.build_w ?_); simp (maxSteps := 1000000) (disch := first | omega | (simp only [AM.DB, List.length_set, List.length_map]; first | done | omega)) only [AM.RB, Nat.reduceAdd, Nat.reduceMul, Nat.reduceEqDiff, reduceCtorEq, b4_G32, r13.ia el_29, Rd.ldi r13 lk_3, Int.toNat_natCast, hb]))
      refine cols_w mm13 f.rows _ ?_
      (first | (simp (maxSteps := 1000000) (disch := first | omega | (simp only [AM.DB, List.length_set, List.length_map]; first | done | omega)) only [AM.RB, Nat.reduceAdd, Nat.reduceMul, Nat.reduceEqDiff, reduceCtorEq, b4_G32, e2, w2]) | skip); (repeat' ((first | refine AM.drawW_fine (id := 32) hp (by kernel_rfl) (by kernel_rfl) ?_ | refine AM.drawW_loose (id := 33) hp (by kernel_rfl) ?_ | refine AM.opW_tied (by kernel_rfl) ?_ | refine AM.opW_untied (by kernel_rfl) ?_ | refine AM.build_w ?_); simp (maxSteps := 1000000) (disch := first | omega | (simp only [AM.DB, List.length_set, List.length_map]; first | done | omega)) only [AM.RB, Nat.reduceAdd, Nat.reduceMul, Nat.reduceEqDiff, reduceCtorEq, b4_G32, e2, w2]))
      refine cols_w mm13 f.rows _ ?_
      (first | (simp (maxSteps := 1000000) (disch := first | omega | (simp only [AM.DB, List.length_set, List.length_map]; first | done | omega)) only [AM.RB, Nat.reduceAdd, Nat.reduceMul, Nat.reduceEqDiff, reduceCtorEq, b4_G32, r13.ia el_29, Rd.ldi r13 lk_3, Int.toNat_natCast, hb]) | skip); (repeat' ((first | refine AM.drawW_fine (id := 32) hp (by kernel_rfl) (by kernel_rfl) ?_ | refine AM.drawW_loose (id := 33) hp (by kernel_rfl) ?_ | refine AM.opW_tied (by kernel_rfl) ?_ | refine AM.opW_untied (by kernel_rfl) ?_ | refine AM.build_w ?_); simp (maxSteps := 1000000) (disch := first | omega | (simp only [AM.DB, List.length_set, List.length_map]; first | done | omega)) only [AM.RB, Nat.reduceAdd, Nat.reduceMul, Nat.reduceEqDiff, reduceCtorEq, b4_G32, r13.ia el_29, Rd.ldi r13 lk_3, Int.toNat_natCast, hb]))
      refine cols_w mm13 f.rows _ ?_
      (first | (simp (maxSteps := 1000000) (disch := first | omega | (simp only [AM.DB, List.length_set, List.length_map]; first | done | omega)) only [AM.RB, Nat.reduceAdd, Nat.reduceMul, Nat.reduceEqDiff, reduceCtorEq, b4_G32, e4, w4, AM.wrap_i64, s2, p2]) | skip); (repeat' ((first | refine AM.drawW_fine (id := 32) hp (by kernel_rfl) (by kernel_rfl) ?_ | refine AM.drawW_loose (id := 33) hp (by kernel_rfl) ?_ | refine AM.opW_tied (by kernel_rfl) ?_ | refine AM.opW_untied (by kernel_rfl) ?_ | refine AM.build_w ?_); simp (maxSteps := 1000000) (disch := first | omega | (simp only [AM.DB, List.length_set, List.length_map]; first | done | omega)) only [AM.RB, Nat.reduceAdd, Nat.reduceMul, Nat.reduceEqDiff, reduceCtorEq, b4_G32, e4, w4, AM.wrap_i64, s2, p2]))
      refine ⟨AM.looseOk_by [(6, [0, 2, 9, 13, 20]), (17, [0, 2, 9, 13, 20])] (by kernel_rfl) ?_, ?_⟩
      · simp (maxSteps := 1000000) (disch := first | omega | (simp only [AM.DB, List.length_set, List.length_map]; first | done | omega)) only [AM.RB, Nat.reduceAdd, Nat.reduceMul, Nat.reduceEqDiff, reduceCtorEq, b4_G32]
        (repeat' apply And.intro) <;> (first | (refine AM.stable_len _ _ _ _ _ _ (fun _ => ?_); (simp (maxSteps := 1000000) (disch := first | omega | (simp only [AM.DB, List.length_set, List.length_map]; first | done | omega)) only [AM.RB, Nat.reduceAdd, Nat.reduceMul, Nat.reduceEqDiff, reduceCtorEq, b4_G32, r13.ia el_29, Rd.ldi r13 lk_3, Int.toNat_natCast, hb])) | (refine AM.stable_load _ _ _ _ _ _ ?_; (first | (simp (maxSteps := 1000000) (disch := first | omega | (simp only [AM.DB, List.length_set, List.length_map]; first | done | omega)) only [AM.RB, Nat.reduceAdd, Nat.reduceMul, Nat.reduceEqDiff, reduceCtorEq, b4_G32, r13.ia el_29, Rd.ldi r13 lk_3, Int.toNat_natCast, hb]) | skip); (first | (refine AM.stabL_int (by omega) ?_; (simp (maxSteps := 1000000) (disch := first | omega | (simp only [AM.DB, List.length_set, List.length_map]; first | done | omega)) only [AM.RB, Nat.reduceAdd, Nat.reduceMul, Nat.reduceEqDiff, reduceCtorEq, b4_G32, r13.ia el_29, Rd.ldi r13 lk_3, Int.toNat_natCast, hb])) | (refine AM.stabL_ptr (by omega) (by omega) ?_; (simp (maxSteps := 1000000) (disch := first | omega | (simp only [AM.DB, List.length_set, List.length_map]; first | done | omega)) only [AM.RB, Nat.reduceAdd, Nat.reduceMul, Nat.reduceEqDiff, reduceCtorEq, b4_G32, r13.ia el_29, Rd.ldi r13 lk_3, Int.toNat_natCast, hb])) | (refine AM.stabL_string (by omega) ?_; (simp (maxSteps := 1000000) (disch := first | omega | (simp only [AM.DB, List.length_set, List.length_map]; first | done | omega)) only [AM.RB, Nat.reduceAdd, Nat.reduceMul, Nat.reduceEqDiff, reduceCtorEq, b4_G32, r13.ia el_29, Rd.ldi r13 lk_3, Int.toNat_natCast, hb])) | (refine AM.stabL_bool (by omega) ?_; (simp (maxSteps := 1000000) (disch := first | omega | (simp only [AM.DB, List.length_set, List.length_map]; first | done | omega)) only [AM.RB, Nat.reduceAdd, Nat.reduceMul, Nat.reduceEqDiff, reduceCtorEq, b4_G32, r13.ia el_29, Rd.ldi r13 lk_3, Int.toNat_natCast, hb])) | (refine AM.stabL_rd r13 (by omega) (by omega) ?_; (simp (maxSteps := 1000000) (disch := first | omega | (simp only [AM.DB, List.length_set, List.length_map]; first | done | omega)) only [AM.RB, Nat.reduceAdd, Nat.reduceMul, Nat.reduceEqDiff, reduceCtorEq, b4_G32, r13.ia el_29, Rd.ldi r13 lk_3, Int.toNat_natCast, hb])) | (refine AM.stabL_elS r13 (by omega) (by omega) ?_; (simp (maxSteps := 1000000) (disch := first | omega | (simp only [AM.DB, List.length_set, List.length_map]; first | done | omega)) only [AM.RB, Nat.reduceAdd, Nat.reduceMul, Nat.reduceEqDiff, reduceCtorEq, b4_G32, r13.ia el_29, Rd.ldi r13 lk_3, Int.toNat_natCast, hb])) | (refine AM.stabL_elI r13 (by omega) (by omega) ?_; (simp (maxSteps := 1000000) (disch := first | omega | (simp only [AM.DB, List.length_set, List.length_map]; first | done | omega)) only [AM.RB, Nat.reduceAdd, Nat.reduceMul, Nat.reduceEqDiff, reduceCtorEq, b4_G32, r13.ia el_29, Rd.ldi r13 lk_3, Int.toNat_natCast, hb])))))
      rw [show (((ya : Nat) : Int) + (ca : Int)) = ((ya + ca : Nat) : Int) from by omega, show (((yb : Nat) : Int) + (cb : Int)) = ((yb + cb : Nat) : Int) from by omega]
      refine edgeK_w kw13 ft hw13 (by omega) (by omega) _ _ fun h14 kw14 fr14 => ?_
      rw [hte]
      have hxw : ∀ id, idOf (.slice xa (nextL L a).length xc) id → id ≠ pw := fun id q => hxp id q
      (first | (simp (maxSteps := 1000000) (disch := first | omega | (simp only [AM.DB, List.length_set, List.length_map]; first | done | omega)) only [AM.RB, Nat.reduceAdd, Nat.reduceMul, Nat.reduceEqDiff, reduceCtorEq, b4_G32, AM.wrap_i64]) | skip); (repeat' ((first | refine AM.drawW_fine (id := 32) hp (by kernel_rfl) (by kernel_rfl) ?_ | refine AM.drawW_loose (id := 33) hp (by kernel_rfl) ?_ | refine AM.opW_tied (by kernel_rfl) ?_ | refine AM.opW_untied (by kernel_rfl) ?_ | refine AM.build_w ?_); simp (maxSteps := 1000000) (disch := first | omega | (simp only [AM.DB, List.length_set, List.length_map]; first | done | omega)) only [AM.RB, Nat.reduceAdd, Nat.reduceMul, Nat.reduceEqDiff, reduceCtorEq, b4_G32, AM.wrap_i64]))
      exact ⟨i + 1, by omega, congrArg _ (by omega), by omega, by have := fr14.next; omega, by have := fr14.low; omega, fr14.get hw13 gw, o13.fr fr14 hxw, km13.frB fr14 fun id q => q, kw14⟩
    · (first | (simp (maxSteps := 1000000) (disch := first | omega | (simp only [AM.DB, List.length_set, List.length_map]; first | done | omega)) only [AM.RB, Nat.reduceAdd, Nat.reduceMul, Nat.reduceEqDiff, reduceCtorEq, b4_G32, AM.wrap_i64]) | skip); (repeat' ((first | refine AM.drawW_fine (id := 32) hp (by kernel_rfl) (by kernel_rfl) ?_ | refine AM.drawW_loose (id := 33) hp (by kernel_rfl) ?_ | refine AM.opW_tied (by kernel_rfl) ?_ | refine AM.opW_untied (by kernel_rfl) ?_ | refine AM.build_w ?_); simp (maxSteps := 1000000) (disch := first | omega | (simp only [AM.DB, List.length_set, List.length_map]; first | done | omega)) only [AM.RB, Nat.reduceAdd, Nat.reduceMul, Nat.reduceEqDiff, reduceCtorEq, b4_G32, AM.wrap_i64]))
      exact ⟨a + 1, by omega, congrArg _ (by omega), by omega, by omega, by omega, hw13, km13, kw13⟩
  · (first | (simp (maxSteps := 1000000) (disch := first | omega | (simp only [AM.DB, List.length_set, List.length_map]; first | done | omega)) only [AM.RB, Nat.reduceAdd, Nat.reduceMul, Nat.reduceEqDiff, reduceCtorEq, b4_G32]) | skip); (repeat' ((first | refine AM.drawW_fine (id := 32) hp (by kernel_rfl) (by kernel_rfl) ?_ | refine AM.drawW_loose (id := 33) hp (by kernel_rfl) ?_ | refine AM.opW_tied (by kernel_rfl) ?_ | refine AM.opW_untied (by kernel_rfl) ?_ | refine AM.build_w ?_); simp (maxSteps := 1000000) (disch := first | omega | (simp only [AM.DB, List.length_set, List.length_map]; first | done | omega)) only [AM.RB, Nat.reduceAdd, Nat.reduceMul, Nat.reduceEqDiff, reduceCtorEq, b4_G32]))

end Go.Proofs.YtdimjemgganegaaDoor
