/- Walks of this claim's functions, and plain laws. -/
import Derived.Test.YtbaohngkapmhlaaDoorWd
import Derived.Test.YtbaohngkapmhlaaDoorAMOps8
import Derived.Test.YtbaohngkapmhlaaDoorAMOps9
set_option linter.unusedSimpArgs false
set_option linter.unusedVariables false
namespace Go.Proofs.YtbaohngkapmhlaaDoor
open Go.AM
set_option maxRecDepth 8000
theorem b57_FW3 : type_of% (And.intro (@AM.bin_geq) (And.intro (@AM.ldO_agg) (And.intro (@AM.ldO_one) (And.intro (@AM.ld_ptr) (And.intro (@lk_25) (And.intro (@AM.op_binOp) (And.intro (@AM.op_call) (@AM.op_load)))))))) := And.intro (@AM.bin_geq) (And.intro (@AM.ldO_agg) (And.intro (@AM.ldO_one) (And.intro (@AM.ld_ptr) (And.intro (@lk_25) (And.intro (@AM.op_binOp) (And.intro (@AM.op_call) (@AM.op_load)))))))
theorem b91_FW3 : type_of% (And.intro (@AM.bin_add) (And.intro (@AM.bin_lss) (And.intro (@AM.iaO_ok) (And.intro (AM.ia_slice el_22) (And.intro (@AM.ldO_agg) (And.intro (@AM.ldO_one) (And.intro (@AM.ld_ptr) (And.intro (AM.len_slice ul_22) (And.intro (@lk_3) (And.intro (@AM.op_binOp) (And.intro (@AM.op_call) (And.intro (@AM.op_indexAddr) (And.intro (@AM.op_len) (@AM.op_load)))))))))))))) := And.intro (@AM.bin_add) (And.intro (@AM.bin_lss) (And.intro (@AM.iaO_ok) (And.intro (AM.ia_slice el_22) (And.intro (@AM.ldO_agg) (And.intro (@AM.ldO_one) (And.intro (@AM.ld_ptr) (And.intro (AM.len_slice ul_22) (And.intro (@lk_3) (And.intro (@AM.op_binOp) (And.intro (@AM.op_call) (And.intro (@AM.op_indexAddr) (And.intro (@AM.op_len) (@AM.op_load)))))))))))))
theorem b55_FW3 : type_of% (And.intro (@AM.bin_add) (And.intro (@AM.bin_eql) (And.intro (@AM.bin_lss) (And.intro (@AM.iaO_ok) (And.intro (AM.ia_slice el_22) (And.intro (@AM.ldO_agg) (And.intro (@AM.ldO_one) (And.intro (@AM.ld_ptr) (And.intro (AM.len_slice ul_22) (And.intro (@lk_3) (And.intro (@AM.op_binOp) (And.intro (@AM.op_call) (And.intro (@AM.op_clear) (And.intro (@AM.op_indexAddr) (And.intro (@AM.op_len) (And.intro (@AM.op_load) (And.intro (@AM.op_slice) (And.intro (@AM.op_store) (And.intro (@AM.op_unOp) (And.intro (@AM.stO_agg) (And.intro (@AM.stO_bool) (And.intro (@AM.stO_int) (And.intro (@AM.stO_map) (And.intro (@AM.stO_pointer) (And.intro (@AM.stO_slice) (And.intro (@AM.stO_string) (And.intro (@AM.st_ptr) (And.intro (@sz_3) (And.intro (@AM.un_neg) (@AM.un_not)))))))))))))))))))))))))))))) := And.intro (@AM.bin_add) (And.intro (@AM.bin_eql) (And.intro (@AM.bin_lss) (And.intro (@AM.iaO_ok) (And.intro (AM.ia_slice el_22) (And.intro (@AM.ldO_agg) (And.intro (@AM.ldO_one) (And.intro (@AM.ld_ptr) (And.intro (AM.len_slice ul_22) (And.intro (@lk_3) (And.intro (@AM.op_binOp) (And.intro (@AM.op_call) (And.intro (@AM.op_clear) (And.intro (@AM.op_indexAddr) (And.intro (@AM.op_len) (And.intro (@AM.op_load) (And.intro (@AM.op_slice) (And.intro (@AM.op_store) (And.intro (@AM.op_unOp) (And.intro (@AM.stO_agg) (And.intro (@AM.stO_bool) (And.intro (@AM.stO_int) (And.intro (@AM.stO_map) (And.intro (@AM.stO_pointer) (And.intro (@AM.stO_slice) (And.intro (@AM.stO_string) (And.intro (@AM.st_ptr) (And.intro (@sz_3) (And.intro (@AM.un_neg) (@AM.un_not)))))))))))))))))))))))))))))


/-! ### Cells that are open -/
def pWho (P : List Int) (c : Int) : Bool := decide (0 ≤ whoL P c)
def kWho (P : List Int) (c : Int) : Bool := decide (whoL P c < 0)
theorem kWho_eq (P : List Int) (c : Int) : kWho P c = !pWho P c := by
  unfold kWho pWho
  by_cases h : 0 ≤ whoL P c
  · rw [decide_eq_true h, decide_eq_false (by omega)]; rfl
  · rw [decide_eq_false h, decide_eq_true (by omega)]; rfl
/-- What the closure reads. -/
structure Clo (h : AHeap) (w q p : Nat) (aa : Option Addr) (ac : Nat) (P : List Int) (mv : Value) : Prop where
  gw : h.get w = some (.cells [pv q] 25 false)
  gq : h.get q = some (.cells [pv p, .slice aa P.length ac, mv] 91 false)
  rd : Rd h 3 1 (.slice aa P.length ac) P.length (P.map (.int .i64))
theorem Clo.fr {h h' : AHeap} {w q p : Nat} {aa : Option Addr} {ac : Nat} {P : List Int} {mv : Value} {T : Nat → Prop} (x : Clo h w q p aa ac P mv) (fr : Fr T h h') (hT : ∀ id, T id → id ≠ w ∧ id ≠ q ∧ ¬ idOf (.slice aa P.length ac) id) : Clo h' w q p aa ac P mv :=
  ⟨fr.get x.gw (fun t => (hT _ t).1 rfl), fr.get x.gq (fun t => (hT _ t).2.1 rfl), x.rd.fr fr (fun id a t => (hT _ t).2.2 a)⟩
theorem Clo.fr0 {h h' : AHeap} {w q p : Nat} {aa : Option Addr} {ac : Nat} {P : List Int} {mv : Value} (x : Clo h w q p aa ac P mv) (fr : Fr none' h h') : Clo h' w q p aa ac P mv := x.fr fr fun _ t => t.elim
theorem open1_w {h : AHeap} {w q p : Nat} {aa : Option Addr} {ac : Nat} {P : List Int} {mv : Value} (x : Clo h w q p aa ac P mv) (hn : P.length ≤ 4000000) (hl : h.low ≤ h.next) (c : Int) {Q : VQ} (hq : ∀ h', Fr none' h h' → Q (.bool (pWho P c)) h') : CallW Tryd.prog prims (.func (.func 57) #[] #[pv w]) [.int .i64 c] h Q := by
  refine AM.enter hp (fn := Tryd.f57) (rs := [.tmp 3]) (nt := 8) (by kernel_rfl) Tryd.func57 rfl rfl rfl (by kernel_rfl) ?_
  (first | (simp (maxSteps := 1000000) (disch := first | omega | (simp only [AM.DB, List.length_set, List.length_map]; first | done | omega)) only [AM.RB, Nat.reduceAdd, Nat.reduceMul, Nat.reduceEqDiff, reduceCtorEq, b57_FW3, x.gw]) | skip)
  refine who_w x.gq x.rd hn hl c fun h1 fr1 => ?_
  (first | (simp (maxSteps := 1000000) (disch := first | omega | (simp only [AM.DB, List.length_set, List.length_map]; first | done | omega)) only [AM.RB, Nat.reduceAdd, Nat.reduceMul, Nat.reduceEqDiff, reduceCtorEq, b57_FW3]) | skip)
  exact hq _ fr1
set_option maxHeartbeats 2000000 in
theorem indexF_w {h : AHeap} {w q p : Nat} {aa : Option Addr} {ac : Nat} {P : List Int} {mv : Value} {sv : Value} {l : List Int} (x : Clo h w q p aa ac P mv) (hn : P.length ≤ 4000000) (hl : h.low ≤ h.next) (hs : Rd h 3 1 sv l.length (l.map (.int .i64))) (hll : l.length ≤ 4000000) {Q : VQ}
    (hno : ∀ h', Fr none' h h' → (∀ j, j < l.length → pWho P (l.getD j 0) = false) → Q (.int .i64 (-1)) h')
    (hyes : ∀ h' k, Fr none' h h' → k < l.length → pWho P (l.getD k 0) = true → (∀ j, j < k → pWho P (l.getD j 0) = false) → Q (.int .i64 (k : Nat)) h') : W 91 [sv, .func (.func 57) #[] #[pv w]] h Q := by
  obtain ⟨sa, sc, rfl⟩ := hs.form
  refine AM.enter hp (fn := Tryd.f91) (rs := [.tmp 4]) (nt := 19) (by kernel_rfl) Tryd.func91 rfl rfl rfl (by kernel_rfl) ?_
  (first | (simp (maxSteps := 1000000) (disch := first | omega | (simp only [AM.DB, List.length_set, List.length_map]; first | done | omega)) only [AM.RB, Nat.reduceAdd, Nat.reduceMul, Nat.reduceEqDiff, reduceCtorEq, b91_FW3]) | skip)
  refine AM.loop_w hp 19 (fun i : Nat => [(0, .slice sa l.length sc), (1, .func (.func 57) #[] #[pv w]), (7, .int .i64 l.length), (8, .int .i64 i)])
    (fun i h' => i ≤ l.length ∧ Fr none' h h' ∧ ∀ j, j < i → pWho P (l.getD j 0) = false) (fun i => l.length - i) (by kernel_rfl) 0 ?_ ?_ ?_
  · simp (maxSteps := 1000000) (disch := first | omega | (simp only [AM.DB, List.length_set, List.length_map]; first | done | omega)) only [AM.RB, Nat.reduceAdd, Nat.reduceMul, Nat.reduceEqDiff, reduceCtorEq, b91_FW3]
    first | rfl | skip
  · exact ⟨Nat.zero_le _, Fr.refl _ _, fun j hj => by omega⟩
  rintro i h1 ρ ⟨hi, fr1, hall⟩
  have r1 := hs.fr0 fr1
  have nx1 := fr1.next
  have lw1 := fr1.low
  simp (maxSteps := 1000000) (disch := first | omega | (simp only [AM.DB, List.length_set, List.length_map]; first | done | omega)) only [AM.RB, Nat.reduceAdd, Nat.reduceMul, Nat.reduceEqDiff, reduceCtorEq, b91_FW3]
  refine AM.condV_split (fun hlt => ?_) (fun hlt => ?_)
  · have hil : i < l.length := by omega
    obtain ⟨c, hc⟩ : ∃ c, l.getD i 0 = c := ⟨_, rfl⟩
    (first | (simp (maxSteps := 1000000) (disch := first | omega | (simp only [AM.DB, List.length_set, List.length_map]; first | done | omega)) only [AM.RB, Nat.reduceAdd, Nat.reduceMul, Nat.reduceEqDiff, reduceCtorEq, b91_FW3, r1.ia el_22, Rd.ldi r1 lk_3, Int.toNat_natCast, hc]) | skip)
    refine open1_w (x.fr0 fr1) hn (by omega) c fun h2 fr2 => ?_
    cases hp' : pWho P c
    · (first | (simp (maxSteps := 1000000) (disch := first | omega | (simp only [AM.DB, List.length_set, List.length_map]; first | done | omega)) only [AM.RB, Nat.reduceAdd, Nat.reduceMul, Nat.reduceEqDiff, reduceCtorEq, b91_FW3, AM.wrap_i64]) | skip)
      refine ⟨i + 1, by omega, congrArg _ (by omega), by omega, fr1.trans fr2, fun j hj => ?_⟩
      by_cases ej : j = i
      · subst ej; rw [hc]; exact hp'
      · exact hall j (by omega)
    · (first | (simp (maxSteps := 1000000) (disch := first | omega | (simp only [AM.DB, List.length_set, List.length_map]; first | done | omega)) only [AM.RB, Nat.reduceAdd, Nat.reduceMul, Nat.reduceEqDiff, reduceCtorEq, b91_FW3]) | skip)
      exact hyes _ i (fr1.trans fr2) hil (by rw [hc]; exact hp') hall
  · (first | (simp (maxSteps := 1000000) (disch := first | omega | (simp only [AM.DB, List.length_set, List.length_map]; first | done | omega)) only [AM.RB, Nat.reduceAdd, Nat.reduceMul, Nat.reduceEqDiff, reduceCtorEq, b91_FW3]) | skip)
    exact hno _ fr1 fun j hj => hall j (by omega)
theorem filter_take_no {P : List Int} {l : List Int} : ∀ n, n ≤ l.length → (∀ j, j < n → pWho P (l.getD j 0) = false) → (l.take n).filter (kWho P) = l.take n := fun n hn h => by
  refine List.filter_eq_self.2 fun x hx => ?_
  obtain ⟨j, hj, e⟩ := List.mem_iff_getElem.1 hx
  rw [List.length_take] at hj
  have := h j (by omega)
  rw [List.getElem_take] at e
  rw [List.getD, List.getElem?_eq_getElem (by omega), Option.getD_some, e] at this
  rw [kWho_eq, this]; rfl
theorem filter_take_succ {P : List Int} {l : List Int} {j : Nat} (hj : j < l.length) : (l.take (j + 1)).filter (kWho P) = (l.take j).filter (kWho P) ++ if pWho P (l.getD j 0) = true then [] else [l.getD j 0] := by
  rw [List.take_add_one, List.getElem?_eq_getElem hj, List.filter_append]
  congr 1
  have e : l.getD j 0 = l[j] := by simp [List.getD, hj]
  rw [e]
  show [l[j]].filter (kWho P) = _
  rw [filter_one, kWho_eq]
  cases pWho P l[j] <;> rfl
theorem set_take_succ {l : List Int} {i : Nat} {v : Int} (h : i < l.length) : (l.set i v).take (i + 1) = l.take i ++ [v] := by
  rw [List.take_add_one, List.getElem?_set_self h]
  congr 1
  rw [List.take_set_of_le (Nat.le_refl _)]
set_option maxHeartbeats 4000000 in
theorem deleteF_w {h : AHeap} {w q p : Nat} {aa : Option Addr} {ac : Nat} {P : List Int} {mv : Value} {sv : Value} {l : List Int} (x : Clo h w q p aa ac P mv) (hn : P.length ≤ 4000000) (hl : h.low ≤ h.next) (hs : Ow h 3 1 sv l.length (l.map (.int .i64))) (hll : l.length ≤ 4000000) (hd : ∀ id, idOf sv id → id ≠ w ∧ id ≠ q ∧ ¬ idOf (.slice aa P.length ac) id) {Q : VQ}
    (hq : ∀ v' h', Ow h' 3 1 v' (l.filter (kWho P)).length ((l.filter (kWho P)).map (.int .i64)) → Fr (idOf sv) h h' → (∀ id, idOf v' id → idOf sv id) → Q v' h') : W 55 [sv, .func (.func 57) #[] #[pv w]] h Q := by
  obtain ⟨sa, sc, rfl⟩ := hs.form
  refine AM.enter hp (fn := Tryd.f55) (rs := [.tmp 4]) (nt := 42) (by kernel_rfl) Tryd.func55 rfl rfl rfl (by kernel_rfl) ?_
  (first | (simp (maxSteps := 1000000) (disch := first | omega | (simp only [AM.DB, List.length_set, List.length_map]; first | done | omega)) only [AM.RB, Nat.reduceAdd, Nat.reduceMul, Nat.reduceEqDiff, reduceCtorEq, b55_FW3]) | skip)
  refine indexF_w x hn hl hs.rd hll (fun h1 fr1 hall => ?_) (fun h1 k fr1 hk hpk hall => ?_)
  · have e : l.filter (kWho P) = l := by
      have := filter_take_no l.length (Nat.le_refl _) hall
      rwa [List.take_length] at this
    rw [e] at hq
    have d1 : decide ((-1 : Int) = -1) = true := rfl
    (first | (simp (maxSteps := 1000000) (disch := first | omega | (simp only [AM.DB, List.length_set, List.length_map]; first | done | omega)) only [AM.RB, Nat.reduceAdd, Nat.reduceMul, Nat.reduceEqDiff, reduceCtorEq, b55_FW3, d1]) | skip)
    exact hq _ _ (hs.fr0 fr1) (fr1.mono fun _ _ q => q.elim) (fun id q => q)
  have dk : decide ((k : Int) = -1) = false := decide_eq_false (by omega)
  (first | (simp (maxSteps := 1000000) (disch := first | omega | (simp only [AM.DB, List.length_set, List.length_map]; first | done | omega)) only [AM.RB, Nat.reduceAdd, Nat.reduceMul, Nat.reduceEqDiff, reduceCtorEq, b55_FW3, dk, AM.wrap_i64]) | skip)
  have hkf := filter_take_no k (by omega) hall
  have hkf2 : (l.take (k + 1)).filter (kWho P) = l.take k := by rw [filter_take_succ hk, hkf, if_pos hpk, List.append_nil]
  refine AM.loop_w hp 42 (fun q : Nat × Nat => [(0, .slice sa l.length sc), (1, .func (.func 57) #[] #[pv w]), (5, .int .i64 q.2), (6, .int .i64 q.1)])
    (fun q h' => q.1 ≤ l.length ∧ q.2 < q.1 ∧ Fr (idOf (.slice sa l.length sc)) h h' ∧ ∃ cs : List Int, cs.length = l.length ∧ Ow h' 3 1 (.slice sa l.length sc) l.length (cs.map (.int .i64)) ∧ cs.take q.2 = (l.take q.1).filter (kWho P) ∧ ∀ j, q.1 ≤ j → cs.getD j 0 = l.getD j 0) (fun q => l.length - q.1) (by kernel_rfl) (k + 1, k) ?_ ?_ ?_
  · simp (maxSteps := 1000000) (disch := first | omega | (simp only [AM.DB, List.length_set, List.length_map]; first | done | omega)) only [AM.RB, Nat.reduceAdd, Nat.reduceMul, Nat.reduceEqDiff, reduceCtorEq, b55_FW3]
    first | exact ⟨rfl, congrArg _ (by omega)⟩ | exact congrArg _ (by omega) | rfl | skip
  · exact ⟨by simp only; omega, by simp only; omega, fr1.mono fun _ _ q => q.elim, l, rfl, hs.fr0 fr1, hkf2.symm, fun _ _ => rfl⟩
  rintro ⟨j, i⟩ h2 ρ ⟨hj, hij, fr2, cs, hcl, o2, htk, hrest⟩
  simp only at hj hij htk hrest ⊢
  have nx2 := fr2.next
  have lw2 := fr2.low
  have r2 := o2.rd
  have x2 := x.fr fr2 hd
  simp (maxSteps := 1000000) (disch := first | omega | (simp only [AM.DB, List.length_set, List.length_map]; first | done | omega)) only [AM.RB, Nat.reduceAdd, Nat.reduceMul, Nat.reduceEqDiff, reduceCtorEq, b55_FW3]
  refine AM.condV_split (fun hlt => ?_) (fun hlt => ?_)
  · have hjl : j < l.length := by omega
    obtain ⟨c, hc⟩ : ∃ c, l.getD j 0 = c := ⟨_, rfl⟩
    have hcc : cs.getD j 0 = c := by rw [hrest j (Nat.le_refl _), hc]
    have hs1 := filter_take_succ (P := P) hjl
    rw [hc] at hs1
    (first | (simp (maxSteps := 1000000) (disch := first | omega | (simp only [AM.DB, List.length_set, List.length_map]; first | done | omega)) only [AM.RB, Nat.reduceAdd, Nat.reduceMul, Nat.reduceEqDiff, reduceCtorEq, b55_FW3, r2.ia el_22, Rd.ldi r2 lk_3, Int.toNat_natCast, hcc]) | skip)
    refine open1_w x2 hn (by omega) c fun h3 fr3 => ?_
    have o3 := o2.fr0 fr3
    have lw3 := fr3.low
    cases hp' : pWho P c
    · rw [hp', if_neg (by decide)] at hs1
      (first | (simp (maxSteps := 1000000) (disch := first | omega | (simp only [AM.DB, List.length_set, List.length_map]; first | done | omega)) only [AM.RB, Nat.reduceAdd, Nat.reduceMul, Nat.reduceEqDiff, reduceCtorEq, b55_FW3, o3.ia el_22, Int.toNat_natCast]) | skip)
      refine o3.st sz_3 (j := i) (by omega) rfl rfl fun h4 o4 fr4 n4 => ?_
      rw [mset'] at o4
      (first | (simp (maxSteps := 1000000) (disch := first | omega | (simp only [AM.DB, List.length_set, List.length_map]; first | done | omega)) only [AM.RB, Nat.reduceAdd, Nat.reduceMul, Nat.reduceEqDiff, reduceCtorEq, b55_FW3, AM.wrap_i64]) | skip)
      refine ⟨(j + 1, i + 1), by simp only; omega, ⟨congrArg _ (by simp only; omega), congrArg _ (by simp only; omega)⟩, by simp only; omega, by simp only; omega, ?_, cs.set i c, by rw [List.length_set]; exact hcl, o4, ?_, fun m hm => ?_⟩
      · exact (fr2.trans (fr3.mono fun _ _ q => q.elim)).trans fr4
      · simp only
        rw [set_take_succ (by omega), htk, hs1]
      · simp only at hm
        rw [getD_set, if_neg (by omega)]
        exact hrest m (by omega)
    · rw [hp', if_pos rfl, List.append_nil] at hs1
      (first | (simp (maxSteps := 1000000) (disch := first | omega | (simp only [AM.DB, List.length_set, List.length_map]; first | done | omega)) only [AM.RB, Nat.reduceAdd, Nat.reduceMul, Nat.reduceEqDiff, reduceCtorEq, b55_FW3, AM.wrap_i64]) | skip)
      refine ⟨(j + 1, i), by simp only; omega, ⟨rfl, congrArg _ (by omega)⟩, by simp only; omega, by simp only; omega, fr2.trans (fr3.mono fun _ _ q => q.elim), cs, hcl, o3, ?_, fun m hm => ?_⟩
      · simp only
        rw [htk, hs1]
      · simp only at hm
        exact hrest m (by omega)
  have ej : j = l.length := by omega
  rw [ej, List.take_length] at htk
  have hil : (l.filter (kWho P)).length = i := by rw [← htk, List.length_take]; omega
  have oo := o2
  rcases oo with ⟨e, _⟩ | ⟨id, off, cap, c, o, e, hnc, hg, hf, hd2, hlo⟩
  · simp only [Value.slice.injEq] at e; omega
  cases e
  have hi0 : (i : Int) ≤ l.length := by omega
  (first | (simp (maxSteps := 1000000) (disch := first | omega | (simp only [AM.DB, List.length_set, List.length_map]; first | done | omega)) only [AM.RB, Nat.reduceAdd, Nat.reduceMul, Nat.reduceEqDiff, reduceCtorEq, b55_FW3, AM.slc el_22 hg, AM.slbs_lo_i, AM.slbs_hi_i, Int.toNat_natCast, Nat.mul_one]) | skip)
  refine AM.clear_in ap_22 hg hlo (by omega) fun h3 c3 hg3 hcl3 hk3 fr3 nx3 => ?_
  have lw3 := fr3.low
  (first | (simp (maxSteps := 1000000) (disch := first | omega | (simp only [AM.DB, List.length_set, List.length_map]; first | done | omega)) only [AM.RB, Nat.reduceAdd, Nat.reduceMul, Nat.reduceEqDiff, reduceCtorEq, b55_FW3, AM.slc el_22 hg3, AM.slbs_lo_i, AM.slbs_hi_i, Int.toNat_natCast, Nat.mul_one, Nat.sub_zero, Nat.zero_mul, Nat.add_zero]) | skip)
  refine hq _ _ ?_ (fr2.trans (fr3.mono fun k _ e => e)) (fun id q => q)
  rw [hil, ← htk]
  refine .inr ⟨id, off, sc, c3, o, rfl, by omega, hg3, by omega, ?_, by omega⟩
  have e3 : (c3.drop off).take (i * 1) = (c.drop off).take (i * 1) := by
    apply List.ext_getElem?
    intro m
    rw [List.getElem?_take, List.getElem?_take]
    by_cases hm : m < i * 1
    · rw [if_pos hm, if_pos hm, List.getElem?_drop, List.getElem?_drop]
      exact hk3 _ (by omega)
    · rw [if_neg hm, if_neg hm]
  rw [e3, List.map_take, ← hd2, List.take_take, Nat.mul_one, Nat.mul_one, Nat.min_eq_left (by omega)]

end Go.Proofs.YtbaohngkapmhlaaDoor

namespace Go.Proofs.YtbaohngkapmhlaaDoor
open Go.AM
set_option maxRecDepth 8000
theorem b14_FW4 : type_of% (And.intro (@List.map_toArray.{0,0}) (And.intro (@AM.bin_lss) (And.intro (@AM.boxK_agg) (And.intro (@AM.boxK_bool) (And.intro (@AM.boxK_func) (And.intro (@AM.boxK_int) (And.intro (@AM.boxK_map) (And.intro (@AM.boxK_pointer) (And.intro (@AM.boxK_slice) (And.intro (@AM.boxK_string) (And.intro (@AM.fa_ptr) (And.intro (@fd_91_0) (And.intro (@AM.ldO_agg) (And.intro (@AM.ldO_one) (And.intro (@AM.ld_ptr) (And.intro (@lk_25) (And.intro (@lk_26) (And.intro (@AM.op_binOp) (And.intro (@AM.op_box) (And.intro (@AM.op_call) (And.intro (@AM.op_fieldAddr) (And.intro (@AM.op_load) (And.intro (@AM.op_makeFunc) (@AM.op_nilCheck)))))))))))))))))))))))) := And.intro (@List.map_toArray.{0,0}) (And.intro (@AM.bin_lss) (And.intro (@AM.boxK_agg) (And.intro (@AM.boxK_bool) (And.intro (@AM.boxK_func) (And.intro (@AM.boxK_int) (And.intro (@AM.boxK_map) (And.intro (@AM.boxK_pointer) (And.intro (@AM.boxK_slice) (And.intro (@AM.boxK_string) (And.intro (@AM.fa_ptr) (And.intro (@fd_91_0) (And.intro (@AM.ldO_agg) (And.intro (@AM.ldO_one) (And.intro (@AM.ld_ptr) (And.intro (@lk_25) (And.intro (@lk_26) (And.intro (@AM.op_binOp) (And.intro (@AM.op_box) (And.intro (@AM.op_call) (And.intro (@AM.op_fieldAddr) (And.intro (@AM.op_load) (And.intro (@AM.op_makeFunc) (@AM.op_nilCheck)))))))))))))))))))))))
theorem b27_FW4 : type_of% (And.intro (@Option.isNone_none.{0}) (And.intro (@Option.isNone_some.{0}) (And.intro (@AM.bdV_some) (And.intro (@bd_91) (And.intro (@AM.bin_add) (And.intro (@AM.bin_eql) (And.intro (@AM.bin_geq) (And.intro (@AM.bin_gtr) (And.intro (@AM.bin_lss) (And.intro (AM.bin_pnil ul_26) (And.intro (@AM.boxK_agg) (And.intro (@AM.boxK_bool) (And.intro (@AM.boxK_func) (And.intro (@AM.boxK_int) (And.intro (@AM.boxK_map) (And.intro (@AM.boxK_pointer) (And.intro (@AM.boxK_slice) (And.intro (@AM.boxK_string) (And.intro (AM.bsW_int bs_22) (And.intro (AM.bsW_nil bs_22) (And.intro (AM.bsW_slice bs_22) (And.intro (AM.bsW_string bs_22) (And.intro (@AM.fa_ptr) (And.intro (@fd_91_1) (And.intro (@AM.fillL_cons) (And.intro (@AM.fillL_nil) (And.intro (@AM.fillS_agg) (And.intro (@AM.fillS_bool) (And.intro (@AM.fillS_func) (And.intro (@AM.fillS_int) (And.intro (@AM.fillS_map) (And.intro (@AM.fillS_pointer) (And.intro (@AM.fillS_slice) (And.intro (@AM.fillS_string) (And.intro (@AM.iaO_ok) (And.intro (AM.ia_slice el_22) (And.intro (@AM.ldO_agg) (And.intro (@AM.ldO_one) (And.intro (@AM.ld_ptr) (And.intro (AM.len_slice ul_22) (And.intro (@lk_22) (And.intro (@lk_3) (And.intro (@AM.op_append) (And.intro (@AM.op_binOp) (And.intro (@AM.op_box) (And.intro (@AM.op_build) (And.intro (@AM.op_buildSlice) (And.intro (@AM.op_call) (And.intro (@AM.op_fieldAddr) (And.intro (@AM.op_indexAddr) (And.intro (@AM.op_len) (And.intro (@AM.op_load) (And.intro (@AM.op_nilCheck) (And.intro (@AM.op_store) (And.intro (@AM.op_unOp) (And.intro (@AM.resL_two) (And.intro (@AM.stO_agg) (And.intro (@AM.stO_bool) (And.intro (@AM.stO_int) (And.intro (@AM.stO_map) (And.intro (@AM.stO_pointer) (And.intro (@AM.stO_slice) (And.intro (@AM.stO_string) (And.intro (@AM.st_ptr) (And.intro (@sz_22) (And.intro (@AM.un_neg) (@AM.un_not))))))))))))))))))))))))))))))))))))))))))))))))))))))))))))))))))) := And.intro (@Option.isNone_none.{0}) (And.intro (@Option.isNone_some.{0}) (And.intro (@AM.bdV_some) (And.intro (@bd_91) (And.intro (@AM.bin_add) (And.intro (@AM.bin_eql) (And.intro (@AM.bin_geq) (And.intro (@AM.bin_gtr) (And.intro (@AM.bin_lss) (And.intro (AM.bin_pnil ul_26) (And.intro (@AM.boxK_agg) (And.intro (@AM.boxK_bool) (And.intro (@AM.boxK_func) (And.intro (@AM.boxK_int) (And.intro (@AM.boxK_map) (And.intro (@AM.boxK_pointer) (And.intro (@AM.boxK_slice) (And.intro (@AM.boxK_string) (And.intro (AM.bsW_int bs_22) (And.intro (AM.bsW_nil bs_22) (And.intro (AM.bsW_slice bs_22) (And.intro (AM.bsW_string bs_22) (And.intro (@AM.fa_ptr) (And.intro (@fd_91_1) (And.intro (@AM.fillL_cons) (And.intro (@AM.fillL_nil) (And.intro (@AM.fillS_agg) (And.intro (@AM.fillS_bool) (And.intro (@AM.fillS_func) (And.intro (@AM.fillS_int) (And.intro (@AM.fillS_map) (And.intro (@AM.fillS_pointer) (And.intro (@AM.fillS_slice) (And.intro (@AM.fillS_string) (And.intro (@AM.iaO_ok) (And.intro (AM.ia_slice el_22) (And.intro (@AM.ldO_agg) (And.intro (@AM.ldO_one) (And.intro (@AM.ld_ptr) (And.intro (AM.len_slice ul_22) (And.intro (@lk_22) (And.intro (@lk_3) (And.intro (@AM.op_append) (And.intro (@AM.op_binOp) (And.intro (@AM.op_box) (And.intro (@AM.op_build) (And.intro (@AM.op_buildSlice) (And.intro (@AM.op_call) (And.intro (@AM.op_fieldAddr) (And.intro (@AM.op_indexAddr) (And.intro (@AM.op_len) (And.intro (@AM.op_load) (And.intro (@AM.op_nilCheck) (And.intro (@AM.op_store) (And.intro (@AM.op_unOp) (And.intro (@AM.resL_two) (And.intro (@AM.stO_agg) (And.intro (@AM.stO_bool) (And.intro (@AM.stO_int) (And.intro (@AM.stO_map) (And.intro (@AM.stO_pointer) (And.intro (@AM.stO_slice) (And.intro (@AM.stO_string) (And.intro (@AM.st_ptr) (And.intro (@sz_22) (And.intro (@AM.un_neg) (@AM.un_not))))))))))))))))))))))))))))))))))))))))))))))))))))))))))))))))))


theorem nextD_w {h : AHeap} {p : Nat} {L : List (List UInt8)} {B : Nat → Prop} (m : Mk h p L B) (f : Fit L) (hw : h.get GW = some (.cells waysC 166 false)) (hgl : GW < h.low) (hl : h.low ≤ h.next) (i : Int) {Q : VQ}
    (hq : ∀ v h', Mk h' p L (fun id => B id ∨ idOf v id) → Ow h' 3 1 v (nextL L i).length ((nextL L i).map (.int .i64)) → Fr (fun id => id = p) h h' → (∀ id, idOf v id → h.next ≤ id) → Q v h') : W 56 [pv p, .int .i64 i] h Q := by
  obtain ⟨⟨S, m, hB⟩, hb⟩ := m
  refine next_w m f hw hgl hl i fun v h' S' m' hS' o fr hid => hq v h' ⟨⟨S', m', fun id q1 q2 => ?_⟩, fun id q => ?_⟩ o fr fun id q => (hid id q).1
  · rcases q1 with q1 | q1
    · have := hb id q1
      rcases hS' id q2 with q | q
      · exact hB id q1 q
      · omega
    · exact (hid id q1).2 q2
  · have := fr.next
    rcases q with q | q
    · have := hb id q; omega
    · exact o.lt q
set_option maxHeartbeats 2000000 in
theorem open_w {h : AHeap} {q p : Nat} {L : List (List UInt8)} {P : List Int} {mv : Nat} {B : Nat → Prop} (x : Fl h q p L P mv B) (f : Fit L) (hw : h.get GW = some (.cells waysC 166 false)) (hgl : GW < h.low) (hl : h.low ≤ h.next) (ok : Fok L.flatten P) (hn : P.length ≤ 4000000) (r : Int) {Q : VQ}
    (hq : ∀ v h', Ow h' 3 1 v (openF L P r).length ((openF L P r).map (.int .i64)) → Fl h' q p L P mv B → Fr (fun id => ¬ B id) h h' → (∀ id, idOf v id → h.next ≤ id) → Q v h') : W 14 [pv q, .int .i64 r] h Q := by
  refine AM.enter hp (fn := Tryd.f14) (rs := [.tmp 4]) (nt := 19) (by kernel_rfl) Tryd.func14 rfl rfl rfl (by kernel_rfl) ?_
  simp (maxSteps := 1000000) (disch := first | omega | (simp only [AM.DB, List.length_set, List.length_map]; first | done | omega)) only [AM.RB, Nat.reduceAdd, Nat.reduceMul, Nat.reduceEqDiff, reduceCtorEq, b14_FW4]
  generalize hE_ : AHeap.alloc h _ = h1; obtain ⟨g1, fr1, n1, l1⟩ := AM.new_get hE_; clear hE_
  have nx1 := fr1.next
  have lw1 := fr1.low
  have x1 := x.fresh fr1
  (first | (simp (maxSteps := 1000000) (disch := first | omega | (simp only [AM.DB, List.length_set, List.length_map]; first | done | omega)) only [AM.RB, Nat.reduceAdd, Nat.reduceMul, Nat.reduceEqDiff, reduceCtorEq, b14_FW4, g1]) | skip)
  refine at_w x1 hn r ?_
  unfold atF
  unfold openF at hq
  by_cases hr : 0 ≤ r ∧ r < P.length
  case neg =>
    have d1 : decide ((-1 : Int) < 0) = true := rfl
    rw [if_neg hr] at hq
    rw [if_neg hr]
    (first | (simp (maxSteps := 1000000) (disch := first | omega | (simp only [AM.DB, List.length_set, List.length_map]; first | done | omega)) only [AM.RB, Nat.reduceAdd, Nat.reduceMul, Nat.reduceEqDiff, reduceCtorEq, b14_FW4, d1]) | skip)
    exact hq _ _ (AM.Ow.nil _ _ _) (x.fr0 fr1) (fr1.mono fun _ _ q => q.elim) (fun id q => q.elim)
  rw [if_pos hr] at hq
  rw [if_pos hr]
  obtain ⟨r0, r1⟩ := hr
  obtain ⟨r, rfl⟩ := Int.eq_ofNat_of_zero_le r0
  rw [Int.toNat_natCast] at hq ⊢
  have hrl : r < P.length := by omega
  obtain ⟨a, ea, hal⟩ := ok.cell hrl
  rw [ea] at hq ⊢
  have da : decide ((a : Int) < 0) = false := decide_eq_false (by omega)
  obtain ⟨aa, ac, g, o, hne, hlo, hB, m⟩ := x1
  have ltq := AM.get_some_lt g
  (first | (simp (maxSteps := 1000000) (disch := first | omega | (simp only [AM.DB, List.length_set, List.length_map]; first | done | omega)) only [AM.RB, Nat.reduceAdd, Nat.reduceMul, Nat.reduceEqDiff, reduceCtorEq, b14_FW4, da, g1, g]) | skip)
  refine nextD_w m f (hw.fr0 fr1) (by omega) (by omega) a fun v h2 m2 o2 fr2 hid2 => ?_
  have nx2 := fr2.next
  have lw2 := fr2.low
  have nl := nextL_len f a
  have hK := f.k1024
  obtain ⟨va, vc, rfl⟩ := o2.form
  have pno := m.no
  have g12 := fr2.get g1 (fun e => pno (.inl (.inr (by omega))))
  have qp : q ≠ p := fun e => pno (.inr (.inl e.symm))
  have g2 := fr2.get g qp
  have of2 := o.fr fr2 (fun id t e => by have e : id = p := e; subst e; exact pno (.inr (.inr t)))
  have ofl : ∀ id, idOf (.slice aa P.length ac) id → id < h1.next := fun id t => o.lt t
  (first | (simp (maxSteps := 1000000) (disch := first | omega | (simp only [AM.DB, List.length_set, List.length_map]; first | done | omega)) only [AM.RB, Nat.reduceAdd, Nat.reduceMul, Nat.reduceEqDiff, reduceCtorEq, b14_FW4]) | skip)
  refine deleteF_w (x := ⟨g12, g2, of2.rd⟩) hn (by omega) o2 (by omega) (fun id t => ?_) fun w h3 o3 fr3 hid3 => ?_
  · have := hid2 id t
    exact ⟨by omega, by omega, fun u => by have := ofl _ u; omega⟩
  (first | (simp (maxSteps := 1000000) (disch := first | omega | (simp only [AM.DB, List.length_set, List.length_map]; first | done | omega)) only [AM.RB, Nat.reduceAdd, Nat.reduceMul, Nat.reduceEqDiff, reduceCtorEq, b14_FW4]) | skip)
  have e : (nextL L (a : Int)).filter (kWho P) = (nextL L (a : Int)).filter fun c => decide (whoL P c < 0) := rfl
  rw [e] at o3
  have hlt1 : ∀ id, idOf (.slice va (nextL L (a : Int)).length vc) id → h1.next ≤ id := hid2
  refine hq _ _ o3 ⟨aa, ac, fr3.get g2 (fun t => by have := hlt1 _ t; omega), of2.fr fr3 (fun id u t => by have := hlt1 _ t; have := ofl _ u; omega), hne, ?_, fun id t => hB id (.inl t), ?_⟩ ?_ (fun id t => by have := hlt1 id (hid3 id t); omega)
  · have := fr3.low; omega
  · refine (m2.frB fr3 (fun id t => .inr t)).subF fun id t => ?_
    rcases t with t | t
    · exact .inl (.inl (.inl t))
    · exact .inl (.inr t)
  · refine (((fr1.mono fun _ _ q => q.elim).trans (fr2.mono fun id _ e b => ?_)).then fr3 (fun id t u => by have := hlt1 id u; omega))
    have e : id = p := e
    subst e
    exact pno (.inl (.inl b))
theorem take_getD {P : List Int} {i j : Nat} (h : j < i) : (P.take i).getD j 0 = P.getD j 0 := by
  rw [List.getD, List.getD, List.getElem?_take, if_pos h]
set_option maxHeartbeats 4000000 in
theorem new_w {h : AHeap} {p : Nat} {L : List (List UInt8)} {B : Nat → Prop} {v : Value} {P : List Int} (m : Mk h p L B) (f : Fit L) (hP : Rd h 3 1 v P.length (P.map (.int .i64))) (hn : P.length ≤ 4000000) (hl : h.low ≤ h.next) {Q : VQ}
    (hno : ∀ h', Fr none' h h' → ¬ (1 ≤ P.length ∧ P.length ≤ 64 ∧ Fok L.flatten P) → Q (.tuple #[.pointer none, .int .i64 220]) h')
    (hok : ∀ q h', 1 ≤ P.length → P.length ≤ 64 → Fok L.flatten P → Fl h' q p L P 0 B → Fr none' h h' → h.next ≤ q → Q (.tuple #[pv q, .int .i64 0]) h') : W 27 [pv p, v] h Q := by
  obtain ⟨pa, pc, rfl⟩ := hP.form
  have hK := f.k1024
  have flen := f.len
  have hbd : L.length ≤ 4000000 ∧ (L.getD 0 []).length ≤ 4000000 := by have := f.r32; have := f.c32; omega
  have hpos : 0 < L.length * (L.getD 0 []).length := Nat.mul_pos f.rows f.cols
  have dc0 : decide (((L.length * (L.getD 0 []).length : Nat) : Int) = 0) = false := decide_eq_false (by omega)
  obtain ⟨kv, tl, mm⟩ := m.mp
  refine AM.enter hp (fn := Tryd.f27) (rs := [.tmp 4, .tmp 5]) (nt := 55) (by kernel_rfl) Tryd.func27 rfl rfl rfl (by kernel_rfl) ?_
  (repeat' (first | (simp (maxSteps := 1000000) (disch := first | omega | (simp only [AM.DB, List.length_set, List.length_map]; first | done | omega)) only [AM.RB, Nat.reduceAdd, Nat.reduceMul, Nat.reduceEqDiff, reduceCtorEq, b27_FW4]) | refine AM.build_w ?_))
  refine cells_w mm f.rows hbd _ ?_
  by_cases c1 : (P.length : Int) < 1
  · (repeat' (first | (simp (maxSteps := 1000000) (disch := first | omega | (simp only [AM.DB, List.length_set, List.length_map]; first | done | omega)) only [AM.RB, Nat.reduceAdd, Nat.reduceMul, Nat.reduceEqDiff, reduceCtorEq, b27_FW4, dc0, decide_eq_true c1]) | refine AM.build_w ?_))
    exact hno _ (Fr.refl _ _) (fun q => by omega)
  by_cases c2 : (64 : Int) < P.length
  · (repeat' (first | (simp (maxSteps := 1000000) (disch := first | omega | (simp only [AM.DB, List.length_set, List.length_map]; first | done | omega)) only [AM.RB, Nat.reduceAdd, Nat.reduceMul, Nat.reduceEqDiff, reduceCtorEq, b27_FW4, dc0, decide_eq_false c1, decide_eq_true c2]) | refine AM.build_w ?_))
    exact hno _ (Fr.refl _ _) (fun q => by omega)
  (repeat' (first | (simp (maxSteps := 1000000) (disch := first | omega | (simp only [AM.DB, List.length_set, List.length_map]; first | done | omega)) only [AM.RB, Nat.reduceAdd, Nat.reduceMul, Nat.reduceEqDiff, reduceCtorEq, b27_FW4, dc0, decide_eq_false c1, decide_eq_false c2]) | refine AM.build_w ?_))
  generalize hE_ : AHeap.alloc h _ = h1; obtain ⟨g1, fr1, n1, l1⟩ := AM.new_get hE_; clear hE_
  have nx1 := fr1.next
  have lw1 := fr1.low
  have plt := m.lt
  (repeat' (first | (simp (maxSteps := 1000000) (disch := first | omega | (simp only [AM.DB, List.length_set, List.length_map]; first | done | omega)) only [AM.RB, Nat.reduceAdd, Nat.reduceMul, Nat.reduceEqDiff, reduceCtorEq, b27_FW4]) | refine AM.build_w ?_))
  refine AM.loop_w hp 55 (fun i : Nat => [(0, pv p), (6, pv h.next), (27, .slice pa P.length pc), (28, .int .i64 P.length), (29, .int .i64 i)])
    (fun i h' => i ≤ P.length ∧ Fr (fun id => id = h.next) h1 h' ∧ (∃ aa ac, h'.get h.next = some (.cells [pv p, .slice aa (P.take i).length ac, .int .i64 0] 91 false) ∧ Ow h' 3 1 (.slice aa (P.take i).length ac) (P.take i).length ((P.take i).map (.int .i64)) ∧ ∀ id, idOf (.slice aa (P.take i).length ac) id → h1.next ≤ id) ∧ (∀ j, j < i → freeP L.flatten (P.getD j 0) = true) ∧ ∀ j k, j < i → k < i → P.getD j 0 = P.getD k 0 → j = k) (fun i => P.length - i) (by kernel_rfl) 0 ?_ ?_ ?_
  · simp (maxSteps := 1000000) (disch := first | omega | (simp only [AM.DB, List.length_set, List.length_map]; first | done | omega)) only [AM.RB, Nat.reduceAdd, Nat.reduceMul, Nat.reduceEqDiff, reduceCtorEq, b27_FW4]
    first | rfl | skip
  · exact ⟨Nat.zero_le _, Fr.refl _ _, ⟨none, 0, g1, AM.Ow.nil _ _ _, fun id q => q.elim⟩, fun j hj => by omega, fun j k hj => by omega⟩
  rintro i h2 ρ ⟨hi, fr2, ⟨aa, ac, g2, o2, hid2⟩, hfree, happ⟩
  have nx2 := fr2.next
  have lw2 := fr2.low
  have fr02 : Fr none' h h2 := Fr.fresh fr1 fr2 (fun id e => by have e : id = h.next := e; omega)
  have hP2 := hP.fr0 fr02
  have mm2 := mm.fr0 fr02
  have hti : (P.take i).length = i := by rw [List.length_take]; omega
  simp (maxSteps := 1000000) (disch := first | omega | (simp only [AM.DB, List.length_set, List.length_map]; first | done | omega)) only [AM.RB, Nat.reduceAdd, Nat.reduceMul, Nat.reduceEqDiff, reduceCtorEq, b27_FW4]
  refine AM.condV_split (fun hlt => ?_) (fun hlt => ?_)
  · have hil : i < P.length := by omega
    obtain ⟨c, hc⟩ : ∃ c, P.getD i 0 = c := ⟨_, rfl⟩
    (repeat' (first | (simp (maxSteps := 1000000) (disch := first | omega | (simp only [AM.DB, List.length_set, List.length_map]; first | done | omega)) only [AM.RB, Nat.reduceAdd, Nat.reduceMul, Nat.reduceEqDiff, reduceCtorEq, b27_FW4, hP2.ia el_22, Rd.ldi hP2 lk_3, Int.toNat_natCast, hc]) | refine AM.build_w ?_))
    refine free_w mm2 f.rows c _ ?_
    cases hf : freeP L.flatten c
    · (repeat' (first | (simp (maxSteps := 1000000) (disch := first | omega | (simp only [AM.DB, List.length_set, List.length_map]; first | done | omega)) only [AM.RB, Nat.reduceAdd, Nat.reduceMul, Nat.reduceEqDiff, reduceCtorEq, b27_FW4]) | refine AM.build_w ?_))
      exact hno _ fr02 (fun q => by have := q.2.2.free i hil; rw [hc, hf] at this; cases this)
    (repeat' (first | (simp (maxSteps := 1000000) (disch := first | omega | (simp only [AM.DB, List.length_set, List.length_map]; first | done | omega)) only [AM.RB, Nat.reduceAdd, Nat.reduceMul, Nat.reduceEqDiff, reduceCtorEq, b27_FW4]) | refine AM.build_w ?_))
    refine who_w g2 o2.rd (by omega) (by omega) c fun h3 fr3 => ?_
    have nx3 := fr3.next
    have lw3 := fr3.low
    have g3 := g2.fr0 fr3
    have o3 := o2.fr0 fr3
    by_cases hw : 0 ≤ whoL (P.take i) c
    · have hex : ∃ j, j < i ∧ P.getD j 0 = c := by
        by_cases q : ∃ j, j < i ∧ P.getD j 0 = c
        · exact q
        · exfalso
          have : whoL (P.take i) c < 0 := whoL_no.2 fun j hj e => q ⟨j, by omega, by rwa [take_getD (by omega)] at e⟩
          omega
      (repeat' (first | (simp (maxSteps := 1000000) (disch := first | omega | (simp only [AM.DB, List.length_set, List.length_map]; first | done | omega)) only [AM.RB, Nat.reduceAdd, Nat.reduceMul, Nat.reduceEqDiff, reduceCtorEq, b27_FW4, decide_eq_true hw]) | refine AM.build_w ?_))
      obtain ⟨j, hj, e⟩ := hex
      exact hno _ (fr02.trans fr3) (fun q => by have := q.2.2.apart j i (by omega) hil (by rw [e, hc]); omega)
    have hne : ∀ j, j < i → P.getD j 0 ≠ c := fun j hj e => by
      have := whoL_no.1 (show whoL (P.take i) c < 0 by omega) j (by omega)
      rw [take_getD hj] at this
      exact this e
    (repeat' (first | (simp (maxSteps := 1000000) (disch := first | omega | (simp only [AM.DB, List.length_set, List.length_map]; first | done | omega)) only [AM.RB, Nat.reduceAdd, Nat.reduceMul, Nat.reduceEqDiff, reduceCtorEq, b27_FW4, decide_eq_false hw, g3]) | refine AM.build_w ?_))
    generalize hE_ : AHeap.alloc h3 _ = h4; obtain ⟨g4, fr4, n4, l4⟩ := AM.new_get hE_; clear hE_
    have nx4 := fr4.next
    have lw4 := fr4.low
    refine AM.appends_w ap_22 ap_22 (o3.fr0 fr4) (AM.Rd.whole (n := 1) (c := [.int .i64 c]) g4 rfl) rfl (by omega) (AM.fits (by omega) (by omega)) (AM.fits' (by omega)) fun w h5 o5 fr5 hid5 => ?_
    obtain ⟨wa, wc, rfl⟩ := o5.form
    have nx5 := fr5.next
    have lw5 := fr5.low
    have g5 := fr5.get (g3.fr0 fr4) (fun t => by have := hid2 _ t; omega)
    (repeat' (first | (simp (maxSteps := 1000000) (disch := first | omega | (simp only [AM.DB, List.length_set, List.length_map]; first | done | omega)) only [AM.RB, Nat.reduceAdd, Nat.reduceMul, Nat.reduceEqDiff, reduceCtorEq, b27_FW4, g5]) | refine AM.build_w ?_))
    generalize hE_ : AHeap.put h5 _ _ = h6; obtain ⟨g6, fr6, n6, l6⟩ := AM.put_get hE_ (by omega); clear hE_
    have hid5' : ∀ id, idOf (.slice wa ((P.take i).length + 1) wc) id → h1.next ≤ id := fun id t => by
      rcases hid5 id t with t' | t'
      · exact hid2 id t'
      · omega
    have et : P.take (i + 1) = P.take i ++ [c] := by
      rw [List.take_add_one, List.getElem?_eq_getElem hil]
      congr 1
      have : P.getD i 0 = P[i] := by simp [List.getD, hil]
      rw [← hc, this]; rfl
    have etl : (P.take (i + 1)).length = (P.take i).length + 1 := by rw [et, List.length_append]; rfl
    (repeat' (first | (simp (maxSteps := 1000000) (disch := first | omega | (simp only [AM.DB, List.length_set, List.length_map]; first | done | omega)) only [AM.RB, Nat.reduceAdd, Nat.reduceMul, Nat.reduceEqDiff, reduceCtorEq, b27_FW4, AM.wrap_i64]) | refine AM.build_w ?_))
    refine ⟨i + 1, by omega, congrArg _ (by omega), by omega, ?_, ⟨wa, wc, ?_, ?_, ?_⟩, fun j hj => ?_, fun j k hj hk e => ?_⟩
    · exact ((fr2.trans ((fr3.trans fr4).mono fun _ _ q => q.elim)).then fr5 (fun id t u => by have := hid2 id u; omega)).trans fr6
    · rw [etl] <;> first | exact g6 | rfl
    · rw [etl, et, List.map_append]
      exact o5.fr fr6 (fun id t e => by have e : id = h.next := e; have := hid5' id t; omega)
    · rw [etl]; exact hid5'
    · by_cases ej : j = i
      · subst ej; rw [hc]; exact hf
      · exact hfree j (by omega)
    · by_cases ej : j = i
      · by_cases ek : k = i
        · first | omega | exact ej.trans ek.symm
        · subst ej; exact absurd (e.symm.trans hc) (hne k (by omega))
      · by_cases ek : k = i
        · subst ek; exact absurd (e.trans hc) (hne j (by omega))
        · exact happ j k (by omega) (by omega) e
  have ei : i = P.length := by omega
  subst ei
  rw [List.take_length] at g2 o2 hid2
  (repeat' (first | (simp (maxSteps := 1000000) (disch := first | omega | (simp only [AM.DB, List.length_set, List.length_map]; first | done | omega)) only [AM.RB, Nat.reduceAdd, Nat.reduceMul, Nat.reduceEqDiff, reduceCtorEq, b27_FW4]) | refine AM.build_w ?_))
  refine hok _ _ (by omega) (by omega) ⟨hfree, happ⟩ ⟨aa, ac, g2, o2, fun t => by have := hid2 _ t; omega, by omega, fun id b => ?_, ?_⟩ fr02 (Nat.le_refl _)
  · have := m.2 id b
    exact ⟨by omega, fun t => by have := hid2 _ t; omega⟩
  · refine (m.freshF fr02).subF fun id t => ?_
    rcases t with t | t | t
    · exact .inl t
    · exact .inr (by have := AM.get_some_lt g2; omega)
    · exact .inr ⟨by have := hid2 id t; omega, o2.lt t⟩

end Go.Proofs.YtbaohngkapmhlaaDoor

namespace Go.Proofs.YtbaohngkapmhlaaDoor
open Go.AM

/-! ### A text out of cells, and where a cell stands in it -/
def genT (g : Nat → UInt8) (C : Nat) : Nat → List UInt8
  | 0 => []
  | n + 1 => genT g C n ++ [g n] ++ if (n + 1) % C = 0 then [10] else []
abbrev posT (C a : Nat) : Nat := a + a / C
theorem div_succ' {C n : Nat} (hC : 0 < C) : (n + 1) / C = n / C + if (n + 1) % C = 0 then 1 else 0 := by
  have h1 := Nat.div_add_mod n C
  have h2 := Nat.mod_lt n hC
  by_cases h : n % C + 1 = C
  · have e : n + 1 = C * (n / C + 1) := by rw [Nat.mul_add, Nat.mul_one]; omega
    rw [e, Nat.mul_div_cancel_left _ hC, Nat.mul_mod_right, if_pos rfl]
  · have e : n + 1 = C * (n / C) + (n % C + 1) := by omega
    have hlt : n % C + 1 < C := by
      clear e h1
      generalize n % C = x at *
      omega
    have e1 : (n + 1) / C = n / C := by
      conv => lhs; rw [e]
      rw [Nat.mul_add_div hC, Nat.div_eq_of_lt hlt, Nat.add_zero]
    have e2 : (n + 1) % C = n % C + 1 := by
      conv => lhs; rw [e]
      rw [Nat.mul_add_mod, Nat.mod_eq_of_lt hlt]
    rw [e1, e2, if_neg (by omega)]; rfl
theorem genT_len (g : Nat → UInt8) {C : Nat} (hC : 0 < C) : ∀ n, (genT g C n).length = n + n / C
  | 0 => by simp [genT]
  | n + 1 => by
    have hd := div_succ' (n := n) hC
    rw [genT, List.length_append, List.length_append, genT_len g hC n, List.length_singleton, hd]
    split <;> simp <;> omega
theorem genT_congr {g g' : Nat → UInt8} (C : Nat) : ∀ n, (∀ a, a < n → g a = g' a) → genT g C n = genT g' C n
  | 0, _ => rfl
  | n + 1, h => by rw [genT, genT, genT_congr C n fun a ha => h a (by omega), h n (by omega)]
theorem genT_set (g : Nat → UInt8) {C : Nat} (hC : 0 < C) (a : Nat) (v : UInt8) : ∀ n, a < n → (genT g C n).set (posT C a) v = genT (fun b => if b = a then v else g b) C n
  | 0, h => by omega
  | n + 1, h => by
    have hl := genT_len g hC n
    rw [genT, genT]
    by_cases e : a = n
    · subst e
      rw [List.append_assoc, List.set_append_right _ _ (by rw [hl]; exact Nat.le_refl _), hl, show posT C a - (a + a / C) = 0 from Nat.sub_self _, if_pos rfl]
      rw [genT_congr (g := fun b => if b = a then v else g b) (g' := g) C a fun b hb => if_neg (by omega), List.append_assoc]
      rfl
    · have h2 : a / C ≤ n / C := Nat.div_le_div_right (by omega)
      have h3 : posT C a < n + n / C := by
        show a + a / C < n + n / C
        generalize a / C = x at *
        generalize n / C = y at *
        omega
      rw [List.append_assoc, List.set_append_left _ _ (by rw [hl]; exact h3), genT_set g hC a v n (by omega), if_neg (show ¬ n = a from fun q => e q.symm), List.append_assoc]
theorem getD_el {T : List UInt8} {c : Nat} (h : c < T.length) : T.getD c 0 = T[c] := by simp [List.getD, h]
/-- A map's text is its cells'. -/
theorem genT_rows {L : List (List UInt8)} {C : Nat} (hC : 0 < C) (h : ∀ T ∈ L, T.length = C) : ∀ k, k ≤ L.length → genT (fun a => L.flatten.getD a 0) C (k * C) = textL (L.take k)
  | 0, _ => by rw [Nat.zero_mul]; rfl
  | k + 1, hk => by
    have hkl : k < L.length := by omega
    have hg : L.getD k [] = L[k] := by simp [List.getD, hkl]
    have hTl : (L.getD k []).length = C := by rw [hg]; exact h _ (List.getElem_mem hkl)
    have row : ∀ c, c < C → genT (fun a => L.flatten.getD a 0) C (k * C + c) = textL (L.take k) ++ (L.getD k []).take c := by
      intro c
      induction c with
      | zero => intro _; rw [Nat.add_zero, genT_rows hC h k (by omega), List.take_zero, List.append_nil]
      | succ c ih =>
        intro hc
        rw [← Nat.add_assoc, genT, ih (by omega)]
        have hm : (k * C + c + 1) % C = c + 1 := by rw [Nat.add_assoc, Nat.mul_comm, Nat.mul_add_mod, Nat.mod_eq_of_lt hc]
        have hv : L.flatten.getD (k * C + c) 0 = (L.getD k []).getD c 0 := by
          have hlt : k * C + c < L.length * C := by
            have : (k + 1) * C ≤ L.length * C := Nat.mul_le_mul_right _ (by omega)
            rw [Nat.succ_mul] at this; omega
          rw [flat_get h hC hlt, Nat.mul_comm, Nat.mul_add_div hC, Nat.div_eq_of_lt (by omega), Nat.mul_add_mod, Nat.mod_eq_of_lt (by omega), Nat.add_zero]
        have hcg : (L.getD k []).getD c 0 = (L.getD k [])[c]'(by omega) := getD_el (by omega)
        rw [hm, if_neg (by omega), List.append_nil, hv, List.append_assoc, List.take_add_one, List.getElem?_eq_getElem (show c < (L.getD k []).length by omega), hcg]; rfl
    obtain ⟨C', rfl⟩ : ∃ C', C = C' + 1 := ⟨C - 1, by omega⟩
    have hlast := row C' (by omega)
    have hm : (k * (C' + 1) + C' + 1) % (C' + 1) = 0 := by rw [Nat.add_assoc, ← Nat.succ_mul]; exact Nat.mul_mod_left _ _
    have hv : L.flatten.getD (k * (C' + 1) + C') 0 = (L.getD k []).getD C' 0 := by
      have hlt : k * (C' + 1) + C' < L.length * (C' + 1) := by
        have : (k + 1) * (C' + 1) ≤ L.length * (C' + 1) := Nat.mul_le_mul_right _ (by omega)
        rw [Nat.succ_mul] at this; omega
      rw [flat_get h hC hlt, Nat.mul_comm, Nat.mul_add_div hC, Nat.div_eq_of_lt (by omega), Nat.mul_add_mod, Nat.mod_eq_of_lt (by omega), Nat.add_zero]
    have hcg : (L.getD k []).getD C' 0 = (L.getD k [])[C']'(by omega) := getD_el (by omega)
    have hw : (L.getD k []).take C' ++ [(L.getD k []).getD C' 0] = L.getD k [] := by
      rw [hcg]
      have := List.take_append_getElem (l := L.getD k []) (i := C') (by omega)
      rw [this]; exact List.take_of_length_le (by omega)
    rw [Nat.succ_mul, ← Nat.add_assoc, genT, hlast, hm, if_pos rfl, hv, List.append_assoc (textL _), hw]
    unfold textL
    rw [List.take_add_one, List.getElem?_eq_getElem hkl, List.map_append, List.flatten_append, ← hg]
    simp
theorem Good.genT {l : List UInt8} {L : List (List UInt8)} (g : Good l L) : l = genT (fun a => L.flatten.getD a 0) (colsL L) L.flatten.length := by
  have h := genT_rows (L := L) g.cols g.all L.length (Nat.le_refl _)
  rw [List.take_length] at h
  have e : L.flatten.length = L.length * colsL L := g.len
  rw [e, h]; exact g.text'

/-! ### Signs -/
def signs : List UInt8 := [48, 49, 50, 51, 52, 53, 54, 55, 56, 57, 97, 98, 99, 100, 101, 102, 103, 104, 105, 106, 107, 108, 109, 110, 111, 112, 113, 114, 115, 116, 117, 118, 119, 120, 121, 122, 65, 66, 67, 68, 69, 70, 71, 72, 73, 74, 75, 76, 77, 78, 79, 80, 81, 82, 83, 84, 85, 86, 87, 88, 89, 90, 64, 38]
/-- What is told of a cell, the first robots on it. -/
def overF (K : List UInt8) (P : List Int) : Nat → Nat → UInt8
  | 0, a => K.getD a 0
  | k + 1, a => if P.getD k 0 = (a : Int) then signs.getD k 0 else overF K P k a
def textF (L : List (List UInt8)) (P : List Int) (k : Nat) : List UInt8 := genT (overF L.flatten P k) (colsL L) L.flatten.length
theorem textF_succ {L : List (List UInt8)} (hC : 0 < colsL L) {P : List Int} {k c : Nat} (hc : P.getD k 0 = (c : Int)) (hl : c < L.flatten.length) : (textF L P k).set (posT (colsL L) c) (signs.getD k 0) = textF L P (k + 1) := by
  unfold textF
  rw [genT_set _ hC c _ _ hl]
  refine genT_congr _ _ fun a _ => ?_
  rw [overF, hc]
  by_cases e : a = c
  · rw [if_pos e, if_pos (by omega)]
  · rw [if_neg e, if_neg (by omega)]

end Go.Proofs.YtbaohngkapmhlaaDoor

namespace Go.Proofs.YtbaohngkapmhlaaDoor
open Go.AM
set_option maxRecDepth 8000
theorem b30_FW5 : type_of% (And.intro (@AM.alK_some) (And.intro (@al_3) (And.intro (@al_94) (And.intro (@AM.bin_add) (And.intro (@AM.bin_mul) (And.intro (@AM.bin_quo) (And.intro (@AM.bin_rem) (And.intro (@AM.cvW_slice) (And.intro (@AM.fa_ptr) (And.intro (@fd_91_0) (And.intro (@AM.iaO_ok) (And.intro (AM.ia_slice el_94) (And.intro (@AM.ldO_agg) (And.intro (@AM.ldO_one) (And.intro (@AM.ld_ptr) (And.intro (@lk_26) (And.intro (@lk_3) (And.intro (@lk_94) (And.intro (@AM.op_alloc) (And.intro (@AM.op_binOp) (And.intro (@AM.op_call) (And.intro (@AM.op_convert) (And.intro (@AM.op_fieldAddr) (And.intro (@AM.op_index) (And.intro (@AM.op_indexAddr) (And.intro (@AM.op_load) (And.intro (@AM.op_nilCheck) (And.intro (@AM.op_store) (And.intro (@AM.stO_agg) (And.intro (@AM.stO_bool) (And.intro (@AM.stO_int) (And.intro (@AM.stO_map) (And.intro (@AM.stO_pointer) (And.intro (@AM.stO_slice) (And.intro (@AM.stO_string) (And.intro (@AM.st_ptr) (And.intro (AM.str_idx ul_9) (And.intro (@sz_3) (And.intro (@sz_5) (@sz_94)))))))))))))))))))))))))))))))))))))))) := And.intro (@AM.alK_some) (And.intro (@al_3) (And.intro (@al_94) (And.intro (@AM.bin_add) (And.intro (@AM.bin_mul) (And.intro (@AM.bin_quo) (And.intro (@AM.bin_rem) (And.intro (@AM.cvW_slice) (And.intro (@AM.fa_ptr) (And.intro (@fd_91_0) (And.intro (@AM.iaO_ok) (And.intro (AM.ia_slice el_94) (And.intro (@AM.ldO_agg) (And.intro (@AM.ldO_one) (And.intro (@AM.ld_ptr) (And.intro (@lk_26) (And.intro (@lk_3) (And.intro (@lk_94) (And.intro (@AM.op_alloc) (And.intro (@AM.op_binOp) (And.intro (@AM.op_call) (And.intro (@AM.op_convert) (And.intro (@AM.op_fieldAddr) (And.intro (@AM.op_index) (And.intro (@AM.op_indexAddr) (And.intro (@AM.op_load) (And.intro (@AM.op_nilCheck) (And.intro (@AM.op_store) (And.intro (@AM.stO_agg) (And.intro (@AM.stO_bool) (And.intro (@AM.stO_int) (And.intro (@AM.stO_map) (And.intro (@AM.stO_pointer) (And.intro (@AM.stO_slice) (And.intro (@AM.stO_string) (And.intro (@AM.st_ptr) (And.intro (AM.str_idx ul_9) (And.intro (@sz_3) (And.intro (@sz_5) (@sz_94)))))))))))))))))))))))))))))))))))))))


/-! ### Text -/
theorem bsOf_bytes (l : List UInt8) : bsOf (l.map fun c => (c.toNat : Int)) = ⟨l.toArray⟩ := by
  have key : ∀ (l : List UInt8) (s : ByteArray), (l.map fun c => (c.toNat : Int)).foldl (fun s n => s.push (UInt8.ofNat n.toNat)) s = ⟨s.data ++ l.toArray⟩ := by
    intro l
    induction l with
    | nil => intro s; cases s; simp
    | cons c l ih =>
      intro s
      rw [List.map_cons, List.foldl_cons, ih, Int.toNat_natCast, UInt8.ofNat_toNat]
      cases s
      simp [ByteArray.push]
  unfold bsOf
  rw [key]
  simp
theorem bytes_ints (l : List UInt8) : l.map bV = (l.map fun c => (c.toNat : Int)).map (.int .u8) := by
  rw [List.map_map]; rfl
theorem bset (l : List UInt8) (i : Nat) (c : UInt8) : (l.map bV).set i (bV c) = (l.set i c).map bV := by rw [List.map_set]
theorem textF_len {l : List UInt8} {L : List (List UInt8)} (G : Good l L) (P : List Int) (k : Nat) : (textF L P k).length = L.flatten.length + L.flatten.length / colsL L := genT_len _ G.cols _
theorem textF_zero {l : List UInt8} {L : List (List UInt8)} (G : Good l L) (P : List Int) : textF L P 0 = l := G.genT.symm
theorem pos_lt {l : List UInt8} {L : List (List UInt8)} (G : Good l L) {c : Nat} (h : c < L.flatten.length) : posT (colsL L) c < L.flatten.length + L.flatten.length / colsL L := by
  have := Nat.div_le_div_right (c := colsL L) (Nat.le_of_lt h)
  unfold posT; omega
theorem sign_idx {i : Nat} (h : i < 64) : aIndex Tryd.prog 9 (.string ⟨#[48, 49, 50, 51, 52, 53, 54, 55, 56, 57, 97, 98, 99, 100, 101, 102, 103, 104, 105, 106, 107, 108, 109, 110, 111, 112, 113, 114, 115, 116, 117, 118, 119, 120, 121, 122, 65, 66, 67, 68, 69, 70, 71, 72, 73, 74, 75, 76, 77, 78, 79, 80, 81, 82, 83, 84, 85, 86, 87, 88, 89, 90, 64, 38]⟩) (.int .i64 i) = some (bV (signs.getD i 0)) := by
  have hl : signs.length = 64 := rfl
  have := AM.str_idx (P := Tryd.prog) ul_9 signs .i64 (i := (i : Int)) (by omega) (by rw [hl]; omega)
  rw [Int.toNat_natCast] at this
  exact this
theorem posT_eq {C c : Nat} (hC : 0 < C) : c / C * (C + 1) + c % C = posT C c := by
  have := Nat.div_add_mod c C
  rw [Nat.mul_add, Nat.mul_one, Nat.mul_comm]
  unfold posT; omega
/-- What a round of Text knows. -/
def txtK (h : AHeap) (b t3 t4 C : Nat) (s : List UInt8) (_ : Nat → Prop) (h' : AHeap) : Prop :=
  Ow h' 5 1 (.slice (some ⟨b, 0, none⟩) s.length s.length) s.length (s.map bV) ∧ h'.get t3 = some (.cells [.slice (some ⟨b, 0, none⟩) s.length s.length] 94 false) ∧ h'.get t4 = some (.cells [.int .i64 C] 3 false) ∧ Fr none' h h'
theorem txtK.keep {h : AHeap} {N b t3 t4 C : Nat} {s : List UInt8} {S : Nat → Prop} {h1 h2 : AHeap} (hN : h.next ≤ N) (hb : b < N ∧ t3 < N ∧ t4 < N) (k : txtK h b t3 t4 C s S h1) (hB : ∀ id, id < N → h2.get id = h1.get id) (hn : h1.next ≤ h2.next) (hl : h2.low = h1.low) : txtK h b t3 t4 C s S h2 := by
  obtain ⟨o, g3, g4, fr⟩ := k
  refine ⟨o.same (fun id q => hB id ?_) hl, by rw [hB _ hb.2.1]; exact g3, by rw [hB _ hb.2.2]; exact g4, fr.ext hB hN hn hl⟩
  have q : id = b := q
  omega
set_option maxHeartbeats 4000000 in
theorem ftext_w {h : AHeap} {q p : Nat} {L : List (List UInt8)} {l : List UInt8} {P : List Int} {mv : Nat} {B : Nat → Prop} (x : Fl h q p L P mv B) (G : Good l L) (ok : Fok L.flatten P) (hn : P.length ≤ 64) (hl : h.low ≤ h.next) {Q : VQ}
    (hq : ∀ h', Fr none' h h' → Q (strV (textF L P P.length)) h') : W 30 [pv q] h Q := by
  have f := G.fit
  have hC := f.cols
  have r32 := f.r32
  have c32 := f.c32
  have flen := f.len
  have hK := f.k1024
  obtain ⟨aa, ac, g, o, hne, hlo, hB, m⟩ := x
  obtain ⟨kv, tl, mm⟩ := m.mp
  have et : textP L.flatten (L.getD 0 []).length L.length = l := by
    have := textP_text G.all L.length (Nat.le_refl _)
    rw [List.take_length, ← G.text'] at this
    exact this
  have el0 := textF_zero G P
  have hll := textF_len G P 0
  rw [el0] at hll
  have eC : colsL L = (L.getD 0 []).length := rfl
  have hdiv : L.flatten.length / colsL L ≤ L.flatten.length := Nat.div_le_self _ _
  have hpos : 0 < L.flatten.length := by rw [flen]; exact Nat.mul_pos f.rows hC
  obtain ⟨i8, hi8, hs8⟩ : ∃ i, Tryd.prog.info? 5 = some i ∧ i.size = 1 := by
    have h0 : (Tryd.prog.info? 5).map (·.size) = some 1 := by kernel_rfl
    obtain ⟨i, e1, e2⟩ := Option.map_eq_some_iff.1 h0
    exact ⟨i, e1, e2⟩
  refine AM.enter hp (fn := Tryd.f30) (rs := [.tmp 2]) (nt := 40) (by kernel_rfl) Tryd.func30 rfl rfl rfl (by kernel_rfl) ?_
  (repeat' (first | (simp (maxSteps := 1000000) (disch := first | omega | (simp only [AM.DB, List.length_set, List.length_map]; first | done | omega)) only [AM.RB, Nat.reduceAdd, Nat.reduceMul, Nat.reduceEqDiff, reduceCtorEq, b30_FW5]) | refine AM.drawW_fine hp (by kernel_rfl) (by kernel_rfl) (by kernel_rfl) ?_ | refine AM.opW_tied (by kernel_rfl) ?_ | refine AM.opW_untied (by kernel_rfl) ?_))
  refine fnone_w g ?_
  (repeat' (first | (simp (maxSteps := 1000000) (disch := first | omega | (simp only [AM.DB, List.length_set, List.length_map]; first | done | omega)) only [AM.RB, Nat.reduceAdd, Nat.reduceMul, Nat.reduceEqDiff, reduceCtorEq, b30_FW5, g]) | refine AM.drawW_fine hp (by kernel_rfl) (by kernel_rfl) (by kernel_rfl) ?_ | refine AM.opW_tied (by kernel_rfl) ?_ | refine AM.opW_untied (by kernel_rfl) ?_))
  refine text_w mm f.rows hC flen ⟨r32, c32⟩ hl fun h1 fr1 => ?_
  rw [et]
  have nx1 := fr1.next
  have lw1 := fr1.low
  obtain ⟨D, hD⟩ : ∃ D, L.flatten.length / colsL L = D := ⟨_, rfl⟩
  rw [hD] at hll hdiv
  have hl0 : 0 < l.length := by omega
  have hl1 : l.length ≤ 2048 := by omega
  (repeat' (first | (simp (maxSteps := 1000000) (disch := first | omega | (simp only [AM.DB, List.length_set, List.length_map]; first | done | omega)) only [AM.RB, Nat.reduceAdd, Nat.reduceMul, Nat.reduceEqDiff, reduceCtorEq, b30_FW5]) | refine AM.drawW_fine hp (by kernel_rfl) (by kernel_rfl) (by kernel_rfl) ?_ | refine AM.opW_tied (by kernel_rfl) ?_ | refine AM.opW_untied (by kernel_rfl) ?_))
  rw [AM.cvW_new ul_9 ul_94 ul_5 hi8 hs8 hl0 (by omega)]
  have hx_1 := g.fr0 fr1
  (repeat' (first | (simp (maxSteps := 1000000) (disch := first | omega | (simp only [AM.DB, List.length_set, List.length_map]; first | done | omega)) only [AM.RB, Nat.reduceAdd, Nat.reduceMul, Nat.reduceEqDiff, reduceCtorEq, b30_FW5, hx_1]) | refine AM.drawW_fine hp (by kernel_rfl) (by kernel_rfl) (by kernel_rfl) ?_ | refine AM.opW_tied (by kernel_rfl) ?_ | refine AM.opW_untied (by kernel_rfl) ?_))
  generalize hE_ : AHeap.alloc h1 _ = h2; obtain ⟨g2, fr2, n2, l2⟩ := AM.new_get hE_; clear hE_
  have nx2 := fr2.next
  have lw2 := fr2.low
  rw [← n2]
  generalize hE_ : AHeap.put (AHeap.alloc h2 _) _ _ = h3; obtain ⟨g3, fr3, n3, l3⟩ := AM.box_get hE_ (by omega); clear hE_
  have nx3 := fr3.next
  have lw3 := fr3.low
  have fr13 := fr2.trans fr3
  have fr03 := fr1.trans fr13
  have ltg := AM.get_some_lt g
  have hx_2 := g.fr0 fr03
  (repeat' (first | (simp (maxSteps := 1000000) (disch := first | omega | (simp only [AM.DB, List.length_set, List.length_map]; first | done | omega)) only [AM.RB, Nat.reduceAdd, Nat.reduceMul, Nat.reduceEqDiff, reduceCtorEq, b30_FW5, hx_2]) | refine AM.drawW_fine hp (by kernel_rfl) (by kernel_rfl) (by kernel_rfl) ?_ | refine AM.opW_tied (by kernel_rfl) ?_ | refine AM.opW_untied (by kernel_rfl) ?_))
  refine cols_w (mm.fr0 fr03) f.rows _ ?_
  (repeat' (first | (simp (maxSteps := 1000000) (disch := first | omega | (simp only [AM.DB, List.length_set, List.length_map]; first | done | omega)) only [AM.RB, Nat.reduceAdd, Nat.reduceMul, Nat.reduceEqDiff, reduceCtorEq, b30_FW5]) | refine AM.drawW_fine hp (by kernel_rfl) (by kernel_rfl) (by kernel_rfl) ?_ | refine AM.opW_tied (by kernel_rfl) ?_ | refine AM.opW_untied (by kernel_rfl) ?_))
  generalize hE_ : AHeap.put (AHeap.alloc h3 _) _ _ = h4; obtain ⟨g4, fr4, n4, l4⟩ := AM.box_get hE_ (by omega); clear hE_
  have nx4 := fr4.next
  have lw4 := fr4.low
  have lt3 : h2.next < h3.next := AM.get_some_lt g3
  have lt4 : h3.next < h4.next := AM.get_some_lt g4
  refine frobots_w fun h5 g5 fr5 n5 l5 => ?_
  have fr05 := (fr03.trans fr4).trans fr5
  have fr25 := (fr3.trans fr4).trans fr5
  have nx5 := fr5.next
  have lw5 := fr5.low
  have hl5 : h5.low ≤ h5.next := by omega
  have o5 : Ow h5 5 1 (.slice (some ⟨h1.next, 0, none⟩) l.length l.length) l.length (l.map bV) := .inr ⟨_, _, _, _, _, rfl, Nat.le_refl _, g2.fr0 fr25, by simp, by rw [Nat.mul_one, List.drop_zero]; exact List.take_of_length_le (by rw [List.length_map]; exact Nat.le_refl _), by omega⟩
  have g35 := (g3.fr0 fr4).fr0 fr5
  have g45 := g4.fr0 fr5
  have olt : ∀ id, idOf (.slice aa P.length ac) id → id < h.next := fun id t => o.lt t
  have tlen : ∀ k, (textF L P k).length = l.length := fun k => by rw [textF_len G, hD]; omega
  simp (maxSteps := 1000000) (disch := first | omega | (simp only [AM.DB, List.length_set, List.length_map]; first | done | omega)) only [AM.RB, Nat.reduceAdd, Nat.reduceMul, Nat.reduceEqDiff, reduceCtorEq, b30_FW5]
  refine AM.range_iter2 hp (R := fun id => id = h4.next ∨ id = q ∨ idOf (.slice aa P.length ac) id) (xs := xsF P) (AM.entersV_of Tryd.func95 rfl) (by kernel_rfl) (by kernel_rfl) ?_ ?_ hl5 (robots1_w g5 (g.fr0 fr05) (o.rd.fr0 fr05) (by omega))
    (fun i A h' => AM.JK h5.next (txtK h h1.next h2.next h3.next (L.getD 0 []).length (textF L P i)) A h') (fun _ _ _ => False) ?_ (fun _ => AM.Stab.no)
    (fun i x e A h' => AM.Sh e 40 [(3, pv h2.next), (4, pv h3.next), (5, .int .i64 i), (6, .int .i64 (P.getD i 0))] ∧ AM.JK h5.next (txtK h h1.next h2.next h3.next (L.getD 0 []).length (textF L P i)) A h') ?_ ?_ ?_ ?_ ?_ ?_
  · intro x hx
    obtain ⟨i, _, rfl⟩ := List.mem_map.1 hx; rfl
  · rintro id (rfl | rfl | hi)
    · omega
    · omega
    · have := olt id hi; omega
  · exact fun i => AM.JK.stab fun S a b hB k hS hBl hn hl => k.keep (by omega) ⟨by omega, by omega, by omega⟩ hBl hn hl
  · exact fun i x e => AM.Stab.and (AM.JK.stab fun S a b hB k hS hBl hn hl => k.keep (by omega) ⟨by omega, by omega, by omega⟩ hBl hn hl)
  · rintro i x A h6 hx hjk hA1 hL3 hlow3 hR3
    obtain ⟨hi, rfl⟩ := xsF_get P hx
    (repeat' (first | (simp (maxSteps := 1000000) (disch := first | omega | (simp only [AM.DB, List.length_set, List.length_map]; first | done | omega)) only [AM.RB, Nat.reduceAdd, Nat.reduceMul, Nat.reduceEqDiff, reduceCtorEq, b30_FW5]) | refine AM.drawW_fine hp (by kernel_rfl) (by kernel_rfl) (by kernel_rfl) ?_ | refine AM.opW_tied (by kernel_rfl) ?_ | refine AM.opW_untied (by kernel_rfl) ?_))
    exact ⟨Nat.le_refl _, fun _ _ _ => trivial, hjk⟩
  · intro ob
    have fra : Fr none' h5 (h5.alloc ob) := (Fr.refl _ _).alloc _
    rw [el0]
    exact ⟨Nat.le_succ _, fun id e => by omega, fun _ => False, ⟨o5.fr0 fra, g35.fr0 fra, g45.fr0 fra, fr05.trans fra⟩, fun _ q => q.elim⟩
  · rintro i x e A h6 hx ⟨he, hB6, hA, S, ⟨o6, g36, g46, fr6⟩, hS⟩ hA1 hL3 hlow3 hR3
    obtain ⟨ρ, rfl⟩ := he.open'
    obtain ⟨hi, rfl⟩ := xsF_get P hx
    obtain ⟨c, hc, hcl⟩ := ok.cell hi
    rw [hc]
    rw [tlen] at o6 g36
    have nx6 := fr6.next
    have lw6 := fr6.low
    have hs := sign_idx (i := i) (by omega)
    have e1 := tdiv_nat c (L.getD 0 []).length
    have e3 := tmod_nat c (L.getD 0 []).length
    have pe := posT_eq (c := c) hC
    have pl := pos_lt G hcl
    rw [eC, hD] at pl
    have hq1 : c / (L.getD 0 []).length ≤ c := Nat.div_le_self _ _
    have hq2 : c % (L.getD 0 []).length ≤ c := Nat.mod_le _ _
    have hmul : c / (L.getD 0 []).length * ((L.getD 0 []).length + 1) ≤ 1024 * 33 := Nat.mul_le_mul (by omega) (by omega)
    have w1 := wrap_nat (n := c / (L.getD 0 []).length) (by omega)
    have hnz : ((L.getD 0 []).length : Int) ≠ 0 := by omega
    have hmi : ((c / (L.getD 0 []).length : Nat) : Int) * (((L.getD 0 []).length : Int) + 1) = ((c / (L.getD 0 []).length * ((L.getD 0 []).length + 1) : Nat) : Int) := by rw [Int.natCast_mul, Int.natCast_add]; rfl
    have pe2 : ((c / (L.getD 0 []).length * ((L.getD 0 []).length + 1) : Nat) : Int) + ((c % (L.getD 0 []).length : Nat) : Int) = (posT (L.getD 0 []).length c : Nat) := by rw [← pe]; omega
    have ts := textF_succ (P := P) G.cols hc hcl
    rw [eC] at ts
    generalize hposn : posT (L.getD 0 []).length c = pos at *
    (repeat' (first | (simp (maxSteps := 1000000) (disch := first | omega | (simp only [AM.DB, List.length_set, List.length_map]; first | done | omega)) only [AM.RB, Nat.reduceAdd, Nat.reduceMul, Nat.reduceEqDiff, reduceCtorEq, b30_FW5, g36, g46, hs, e1, e3, w1, hmi, pe2, AM.wrap_i64, o6.ia el_94, Int.toNat_natCast]) | refine AM.drawW_fine hp (by kernel_rfl) (by kernel_rfl) (by kernel_rfl) ?_ | refine AM.opW_tied (by kernel_rfl) ?_ | refine AM.opW_untied (by kernel_rfl) ?_))
    refine o6.st sz_5 (j := pos) (by omega) rfl rfl fun h7 o7 fr7 n7 => ?_
    rw [bset, ts] at o7
    have lw7 := fr7.low
    have nb : ∀ id, idOf (.slice (some ⟨h1.next, 0, none⟩) l.length l.length) id → id = h1.next := fun id t => t
    (repeat' (first | (simp (maxSteps := 1000000) (disch := first | omega | (simp only [AM.DB, List.length_set, List.length_map]; first | done | omega)) only [AM.RB, Nat.reduceAdd, Nat.reduceMul, Nat.reduceEqDiff, reduceCtorEq, b30_FW5]) | refine AM.drawW_fine hp (by kernel_rfl) (by kernel_rfl) (by kernel_rfl) ?_ | refine AM.opW_tied (by kernel_rfl) ?_ | refine AM.opW_untied (by kernel_rfl) ?_))
    refine ⟨by omega, by omega, fun id q1 q2 => fr7.old id q1 (fun e => ?_), by omega, hA, S, ⟨by rw [tlen]; exact o7, by rw [tlen]; exact fr7.get g36 (fun e => by have := nb _ e; omega), fr7.get g46 (fun e => by have := nb _ e; omega), Fr.fresh fr6 fr7 (fun id e => by have := nb _ e; omega)⟩, fun id t => ⟨by have := (hS id t).1; omega, (hS id t).2⟩⟩
    have e := nb _ e
    rcases q2 with q2 | q2 | q2 | q2
    · have := hA id q2; omega
    · omega
    · omega
    · have := olt id q2; omega
  · rintro A h6 ⟨hB6, hA, S, ⟨o6, g36, g46, fr6⟩, hS⟩ hA1 hn6 hl6
    rw [xsF_len] at o6 g36
    have cv := AM.cv_bytes ul_94 ul_5 ul_9 (l := (textF L P P.length).map fun c => (c.toNat : Int)) (by rw [← bytes_ints]; exact o6.rd)
    rw [bsOf_bytes] at cv
    (repeat' (first | (simp (maxSteps := 1000000) (disch := first | omega | (simp only [AM.DB, List.length_set, List.length_map]; first | done | omega)) only [AM.RB, Nat.reduceAdd, Nat.reduceMul, Nat.reduceEqDiff, reduceCtorEq, b30_FW5, g36, cv]) | refine AM.drawW_fine hp (by kernel_rfl) (by kernel_rfl) (by kernel_rfl) ?_ | refine AM.opW_tied (by kernel_rfl) ?_ | refine AM.opW_untied (by kernel_rfl) ?_))
    exact hq _ fr6
  · exact fun _ _ _ q => q.elim

end Go.Proofs.YtbaohngkapmhlaaDoor

namespace Go.Proofs.YtbaohngkapmhlaaDoor
open Go.AM
set_option maxRecDepth 8000
theorem b20_FW6 : type_of% (And.intro (@AM.bin_add) (And.intro (@AM.bin_lss) (And.intro (@AM.bin_neq) (And.intro (@AM.iaO_ok) (And.intro (AM.ia_slice el_22) (And.intro (@AM.ldO_agg) (And.intro (@AM.ldO_one) (And.intro (@AM.ld_ptr) (And.intro (AM.len_slice ul_22) (And.intro (@lk_3) (And.intro (@AM.op_binOp) (And.intro (@AM.op_indexAddr) (And.intro (@AM.op_len) (@AM.op_load)))))))))))))) := And.intro (@AM.bin_add) (And.intro (@AM.bin_lss) (And.intro (@AM.bin_neq) (And.intro (@AM.iaO_ok) (And.intro (AM.ia_slice el_22) (And.intro (@AM.ldO_agg) (And.intro (@AM.ldO_one) (And.intro (@AM.ld_ptr) (And.intro (AM.len_slice ul_22) (And.intro (@lk_3) (And.intro (@AM.op_binOp) (And.intro (@AM.op_indexAddr) (And.intro (@AM.op_len) (@AM.op_load)))))))))))))
theorem take_nextF {l t : List Int} {i : Nat} (h1 : i < l.length) (h2 : i < t.length) (h : l.take i = t.take i) (e : l.getD i 0 = t.getD i 0) : l.take (i + 1) = t.take (i + 1) := by
  rw [List.take_add_one, List.take_add_one, h]
  simp only [List.getD, List.getElem?_eq_getElem h1, List.getElem?_eq_getElem h2, Option.getD_some] at e ⊢
  rw [e]
theorem take_allF {l t : List Int} (h : l.length = t.length) (e : l.take l.length = t.take l.length) : l = t := by
  rw [List.take_length] at e
  rw [e, List.take_of_length_le (by omega)]
theorem same22_w {s t : Value} {l m : List Int} {h : AHeap} (hs : Rd h 3 1 s l.length (l.map (.int .i64))) (ht : Rd h 3 1 t m.length (m.map (.int .i64))) (hn : l.length ≤ 4000000000) {Q : VQ} (hq : Q (.bool (decide (l = m))) h) : W 20 [s, t] h Q := by
  obtain ⟨a, ac, rfl⟩ := hs.form
  obtain ⟨b, bc, rfl⟩ := ht.form
  refine AM.enter hp (fn := Tryd.f20) (rs := [.tmp 4]) (nt := 26) (by kernel_rfl) Tryd.func20 rfl rfl rfl (by kernel_rfl) ?_
  by_cases hnk : (l.length : Int) = m.length
  · have hnk' : l.length = m.length := by omega
    (repeat' (first | (simp (maxSteps := 1000000) (disch := first | omega | (simp only [AM.DB, List.length_set, List.length_map]; first | done | omega)) only [AM.RB, Nat.reduceAdd, Nat.reduceMul, Nat.reduceEqDiff, reduceCtorEq, b20_FW6, decide_eq_true hnk]) | refine AM.drawW_fine hp (by kernel_rfl) (by kernel_rfl) (by kernel_rfl) ?_ | refine AM.opW_tied (by kernel_rfl) ?_ | refine AM.opW_untied (by kernel_rfl) ?_))
    refine AM.loop_w hp 26 (fun i : Nat => [(0, .slice a l.length ac), (1, .slice b m.length bc), (12, .int .i64 l.length), (13, .int .i64 i)]) (fun i h' => h' = h ∧ i ≤ l.length ∧ l.take i = m.take i) (fun i => l.length - i) (by kernel_rfl) 0 ?_ ?_ ?_
    · simp (maxSteps := 1000000) (disch := first | omega | (simp only [AM.DB, List.length_set, List.length_map]; first | done | omega)) only [AM.RB, Nat.reduceAdd, Nat.reduceMul, Nat.reduceEqDiff, reduceCtorEq, b20_FW6]
      first | rfl | skip
    · exact ⟨rfl, Nat.zero_le _, rfl⟩
    rintro i h1 ρ ⟨rfl, hi, htk⟩
    simp (maxSteps := 1000000) (disch := first | omega | (simp only [AM.DB, List.length_set, List.length_map]; first | done | omega)) only [AM.RB, Nat.reduceAdd, Nat.reduceMul, Nat.reduceEqDiff, reduceCtorEq, b20_FW6]
    refine AM.condV_split (fun hlt => ?_) (fun hlt => ?_)
    · have hil : i < l.length := by omega
      have him : i < m.length := by omega
      by_cases e : l.getD i 0 = m.getD i 0
      · (repeat' (first | (simp (maxSteps := 1000000) (disch := first | omega | (simp only [AM.DB, List.length_set, List.length_map]; first | done | omega)) only [AM.RB, Nat.reduceAdd, Nat.reduceMul, Nat.reduceEqDiff, reduceCtorEq, b20_FW6, hs.ia el_22, ht.ia el_22, Rd.ldi hs lk_3, Rd.ldi ht lk_3, Int.toNat_natCast, decide_eq_true e, AM.wrap_i64]) | refine AM.drawW_fine hp (by kernel_rfl) (by kernel_rfl) (by kernel_rfl) ?_ | refine AM.opW_tied (by kernel_rfl) ?_ | refine AM.opW_untied (by kernel_rfl) ?_))
        exact ⟨i + 1, by omega, congrArg _ (by omega), by omega, take_nextF hil him htk e⟩
      · (repeat' (first | (simp (maxSteps := 1000000) (disch := first | omega | (simp only [AM.DB, List.length_set, List.length_map]; first | done | omega)) only [AM.RB, Nat.reduceAdd, Nat.reduceMul, Nat.reduceEqDiff, reduceCtorEq, b20_FW6, hs.ia el_22, ht.ia el_22, Rd.ldi hs lk_3, Rd.ldi ht lk_3, Int.toNat_natCast, decide_eq_false e]) | refine AM.drawW_fine hp (by kernel_rfl) (by kernel_rfl) (by kernel_rfl) ?_ | refine AM.opW_tied (by kernel_rfl) ?_ | refine AM.opW_untied (by kernel_rfl) ?_))
        rw [decide_eq_false (fun q => e (by rw [q]))] at hq
        exact hq
    · obtain rfl : i = l.length := by omega
      rw [decide_eq_true (take_allF hnk' htk)] at hq
      (repeat' (first | (simp (maxSteps := 1000000) (disch := first | omega | (simp only [AM.DB, List.length_set, List.length_map]; first | done | omega)) only [AM.RB, Nat.reduceAdd, Nat.reduceMul, Nat.reduceEqDiff, reduceCtorEq, b20_FW6]) | refine AM.drawW_fine hp (by kernel_rfl) (by kernel_rfl) (by kernel_rfl) ?_ | refine AM.opW_tied (by kernel_rfl) ?_ | refine AM.opW_untied (by kernel_rfl) ?_))
      exact hq
  · (repeat' (first | (simp (maxSteps := 1000000) (disch := first | omega | (simp only [AM.DB, List.length_set, List.length_map]; first | done | omega)) only [AM.RB, Nat.reduceAdd, Nat.reduceMul, Nat.reduceEqDiff, reduceCtorEq, b20_FW6, decide_eq_false hnk]) | refine AM.drawW_fine hp (by kernel_rfl) (by kernel_rfl) (by kernel_rfl) ?_ | refine AM.opW_tied (by kernel_rfl) ?_ | refine AM.opW_untied (by kernel_rfl) ?_))
    rw [decide_eq_false (fun q => hnk (by rw [q]))] at hq
    exact hq

/-! ### The chapter's examples -/
end Go.Proofs.YtbaohngkapmhlaaDoor

namespace Go.Proofs.YtbaohngkapmhlaaDoor
open Go.AM
set_option maxRecDepth 8000
end Go.Proofs.YtbaohngkapmhlaaDoor

namespace Go.Proofs.YtbaohngkapmhlaaDoor
open Go.AM
set_option maxRecDepth 8000
abbrev encP (x : Int × Int) : List Value := [.int .i64 x.1, .int .i64 x.2]
theorem encP_len (x : Int × Int) : (encP x).length = 2 := rfl
end Go.Proofs.YtbaohngkapmhlaaDoor

namespace Go.Proofs.YtbaohngkapmhlaaDoor
open Go.AM
set_option maxRecDepth 8000
theorem b35_FP1 : type_of% (And.intro (@AM.bin_add) (And.intro (@AM.bin_eql) (And.intro (@AM.bin_lss) (And.intro (@AM.fa_ptr) (And.intro (@fd_57_1) (And.intro (@AM.iaO_ok) (And.intro (AM.ia_slice el_22) (And.intro (@AM.ldO_agg) (And.intro (@AM.ldO_one) (And.intro (@AM.ld_ptr) (And.intro (AM.len_slice ul_22) (And.intro (@lk_22) (And.intro (@lk_3) (And.intro (@AM.op_binOp) (And.intro (@AM.op_fieldAddr) (And.intro (@AM.op_indexAddr) (And.intro (@AM.op_len) (And.intro (@AM.op_load) (@AM.op_nilCheck))))))))))))))))))) := And.intro (@AM.bin_add) (And.intro (@AM.bin_eql) (And.intro (@AM.bin_lss) (And.intro (@AM.fa_ptr) (And.intro (@fd_57_1) (And.intro (@AM.iaO_ok) (And.intro (AM.ia_slice el_22) (And.intro (@AM.ldO_agg) (And.intro (@AM.ldO_one) (And.intro (@AM.ld_ptr) (And.intro (AM.len_slice ul_22) (And.intro (@lk_22) (And.intro (@lk_3) (And.intro (@AM.op_binOp) (And.intro (@AM.op_fieldAddr) (And.intro (@AM.op_indexAddr) (And.intro (@AM.op_len) (And.intro (@AM.op_load) (@AM.op_nilCheck))))))))))))))))))
theorem b34_FP1 : type_of% (And.intro (@AM.bin_geq) (And.intro (@AM.bin_lss) (And.intro (@AM.fa_ptr) (And.intro (@fd_57_1) (And.intro (@AM.iaO_ok) (And.intro (AM.ia_slice el_22) (And.intro (@AM.ldO_agg) (And.intro (@AM.ldO_one) (And.intro (@AM.ld_ptr) (And.intro (AM.len_slice ul_22) (And.intro (@lk_22) (And.intro (@lk_3) (And.intro (@AM.op_binOp) (And.intro (@AM.op_fieldAddr) (And.intro (@AM.op_indexAddr) (And.intro (@AM.op_len) (And.intro (@AM.op_load) (@AM.op_nilCheck)))))))))))))))))) := And.intro (@AM.bin_geq) (And.intro (@AM.bin_lss) (And.intro (@AM.fa_ptr) (And.intro (@fd_57_1) (And.intro (@AM.iaO_ok) (And.intro (AM.ia_slice el_22) (And.intro (@AM.ldO_agg) (And.intro (@AM.ldO_one) (And.intro (@AM.ld_ptr) (And.intro (AM.len_slice ul_22) (And.intro (@lk_22) (And.intro (@lk_3) (And.intro (@AM.op_binOp) (And.intro (@AM.op_fieldAddr) (And.intro (@AM.op_indexAddr) (And.intro (@AM.op_len) (And.intro (@AM.op_load) (@AM.op_nilCheck)))))))))))))))))
theorem b32_FP1 : type_of% (And.intro (@AM.bin_geq) (And.intro (@AM.bin_lss) (And.intro (@AM.fa_ptr) (And.intro (@fd_57_0) (And.intro (@AM.ldO_agg) (And.intro (@AM.ldO_one) (And.intro (@AM.ld_ptr) (And.intro (@lk_45) (And.intro (@AM.op_binOp) (And.intro (@AM.op_call) (And.intro (@AM.op_fieldAddr) (And.intro (@AM.op_load) (And.intro (@AM.op_nilCheck) (And.intro (@AM.op_unOp) (And.intro (@AM.un_neg) (@AM.un_not)))))))))))))))) := And.intro (@AM.bin_geq) (And.intro (@AM.bin_lss) (And.intro (@AM.fa_ptr) (And.intro (@fd_57_0) (And.intro (@AM.ldO_agg) (And.intro (@AM.ldO_one) (And.intro (@AM.ld_ptr) (And.intro (@lk_45) (And.intro (@AM.op_binOp) (And.intro (@AM.op_call) (And.intro (@AM.op_fieldAddr) (And.intro (@AM.op_load) (And.intro (@AM.op_nilCheck) (And.intro (@AM.op_unOp) (And.intro (@AM.un_neg) (@AM.un_not)))))))))))))))
theorem b33_FP1 : type_of% (And.intro (@AM.bin_add) (And.intro (@AM.bin_neq) (And.intro (@AM.fa_ptr) (And.intro (@fd_57_1) (And.intro (@fd_57_2) (And.intro (@AM.iaO_ok) (And.intro (AM.ia_slice el_22) (And.intro (@AM.ldO_agg) (And.intro (@AM.ldO_one) (And.intro (@AM.ld_ptr) (And.intro (@lk_22) (And.intro (@lk_3) (And.intro (@AM.op_append) (And.intro (@AM.op_binOp) (And.intro (@AM.op_call) (And.intro (@AM.op_fieldAddr) (And.intro (@AM.op_indexAddr) (And.intro (@AM.op_load) (And.intro (@AM.op_nilCheck) (And.intro (@AM.op_store) (And.intro (@AM.stO_agg) (And.intro (@AM.stO_bool) (And.intro (@AM.stO_int) (And.intro (@AM.stO_map) (And.intro (@AM.stO_pointer) (And.intro (@AM.stO_slice) (And.intro (@AM.stO_string) (And.intro (@AM.st_ptr) (And.intro (@sz_22) (@sz_3)))))))))))))))))))))))))))))) := And.intro (@AM.bin_add) (And.intro (@AM.bin_neq) (And.intro (@AM.fa_ptr) (And.intro (@fd_57_1) (And.intro (@fd_57_2) (And.intro (@AM.iaO_ok) (And.intro (AM.ia_slice el_22) (And.intro (@AM.ldO_agg) (And.intro (@AM.ldO_one) (And.intro (@AM.ld_ptr) (And.intro (@lk_22) (And.intro (@lk_3) (And.intro (@AM.op_append) (And.intro (@AM.op_binOp) (And.intro (@AM.op_call) (And.intro (@AM.op_fieldAddr) (And.intro (@AM.op_indexAddr) (And.intro (@AM.op_load) (And.intro (@AM.op_nilCheck) (And.intro (@AM.op_store) (And.intro (@AM.stO_agg) (And.intro (@AM.stO_bool) (And.intro (@AM.stO_int) (And.intro (@AM.stO_map) (And.intro (@AM.stO_pointer) (And.intro (@AM.stO_slice) (And.intro (@AM.stO_string) (And.intro (@AM.st_ptr) (And.intro (@sz_22) (@sz_3)))))))))))))))))))))))))))))
theorem b31_FP1 : type_of% (And.intro (@AM.bin_add) (And.intro (@AM.bin_eql) (And.intro (@AM.bin_lss) (And.intro (AM.bsW_int bs_22) (And.intro (AM.bsW_nil bs_22) (And.intro (AM.bsW_slice bs_22) (And.intro (AM.bsW_string bs_22) (And.intro (@AM.fa_ptr) (And.intro (@fd_57_0) (And.intro (@AM.ldO_agg) (And.intro (@AM.ldO_one) (And.intro (@AM.ld_ptr) (And.intro (@lk_45) (And.intro (@AM.op_append) (And.intro (@AM.op_binOp) (And.intro (@AM.op_buildSlice) (And.intro (@AM.op_call) (And.intro (@AM.op_fieldAddr) (And.intro (@AM.op_load) (@AM.op_nilCheck)))))))))))))))))))) := And.intro (@AM.bin_add) (And.intro (@AM.bin_eql) (And.intro (@AM.bin_lss) (And.intro (AM.bsW_int bs_22) (And.intro (AM.bsW_nil bs_22) (And.intro (AM.bsW_slice bs_22) (And.intro (AM.bsW_string bs_22) (And.intro (@AM.fa_ptr) (And.intro (@fd_57_0) (And.intro (@AM.ldO_agg) (And.intro (@AM.ldO_one) (And.intro (@AM.ld_ptr) (And.intro (@lk_45) (And.intro (@AM.op_append) (And.intro (@AM.op_binOp) (And.intro (@AM.op_buildSlice) (And.intro (@AM.op_call) (And.intro (@AM.op_fieldAddr) (And.intro (@AM.op_load) (@AM.op_nilCheck)))))))))))))))))))


/-! ### The document's floor -/
def Rf (h : AHeap) (y n : Nat) (L : List (List UInt8)) (P : List Int) (mv : Nat) : Prop :=
  ∃ aa ac rv, h.get y = some (.cells [pv n, .slice aa P.length ac, .int .i64 mv] 57 false) ∧ Rd h 3 1 (.slice aa P.length ac) P.length (P.map (.int .i64)) ∧ Rp h n rv L ∧ h.low ≤ y ∧ n ≠ y ∧ (∀ id, idOf (.slice aa P.length ac) id → id ≠ y) ∧ ∀ id, idOf rv id → id ≠ y
theorem Rf.fr {h h' : AHeap} {y n : Nat} {L : List (List UInt8)} {P : List Int} {mv N : Nat} {T : Nat → Prop} (x : Rf h y n L P mv) (fr : Fr T h h') (hT : ∀ id, T id → ¬ id < N) (hN : ∀ id, id < h.next → id < N) : Rf h' y n L P mv := by
  obtain ⟨aa, ac, rv, g, r, rp, lo, e1, e2, e3⟩ := x
  have k : ∀ id, id < h.next → ¬ T id := fun id q t => hT id t (hN id q)
  exact ⟨aa, ac, rv, fr.get g (k _ (AM.get_some_lt g)), r.fr fr (fun id q => k id (r.lt q)), rp.fr fr (k _ (AM.get_some_lt rp.1)) (fun id q => k id (rp.2.1.lt q)), by rw [fr.low]; exact lo, e1, e2, e3⟩
theorem Rf.fr0 {h h' : AHeap} {y n : Nat} {L : List (List UInt8)} {P : List Int} {mv : Nat} (x : Rf h y n L P mv) (fr : Fr none' h h') : Rf h' y n L P mv := x.fr (N := h.next) fr (fun _ t => t.elim) (fun _ q => q)
/-- What a floor of the document names. -/
def RfB (h : AHeap) (y n : Nat) (L : List (List UInt8)) (P : List Int) (mv : Nat) (B : Nat → Prop) : Prop :=
  ∃ aa ac rv, h.get y = some (.cells [pv n, .slice aa P.length ac, .int .i64 mv] 57 false) ∧ Rd h 3 1 (.slice aa P.length ac) P.length (P.map (.int .i64)) ∧ Rp h n rv L ∧ h.low ≤ y ∧ n ≠ y ∧ (∀ id, idOf (.slice aa P.length ac) id → id ≠ y ∧ B id) ∧ (∀ id, idOf rv id → id ≠ y ∧ B id) ∧ B n ∧ B y
theorem RfB.rf {h : AHeap} {y n : Nat} {L : List (List UInt8)} {P : List Int} {mv : Nat} {B : Nat → Prop} (x : RfB h y n L P mv B) : Rf h y n L P mv := by
  obtain ⟨aa, ac, rv, g, r, rp, lo, e1, e2, e3, _⟩ := x
  exact ⟨aa, ac, rv, g, r, rp, lo, e1, fun id q => (e2 id q).1, fun id q => (e3 id q).1⟩
theorem RfB.frB {h h' : AHeap} {y n : Nat} {L : List (List UInt8)} {P : List Int} {mv : Nat} {B T : Nat → Prop} (x : RfB h y n L P mv B) (fr : Fr T h h') (hT : ∀ id, T id → ¬ B id) : RfB h' y n L P mv B := by
  obtain ⟨aa, ac, rv, g, r, rp, lo, e1, e2, e3, e4, e5⟩ := x
  exact ⟨aa, ac, rv, fr.get g (fun t => hT _ t e5), r.fr fr (fun id q t => hT _ t (e2 id q).2), rp.fr fr (fun t => hT _ t e4) (fun id q t => hT _ t (e3 id q).2), by rw [fr.low]; exact lo, e1, e2, e3, e4, e5⟩
theorem RfB.mono {h : AHeap} {y n : Nat} {L : List (List UInt8)} {P : List Int} {mv : Nat} {B C : Nat → Prop} (x : RfB h y n L P mv B) (hC : ∀ id, B id → C id) : RfB h y n L P mv C := by
  obtain ⟨aa, ac, rv, g, r, rp, lo, e1, e2, e3, e4, e5⟩ := x
  exact ⟨aa, ac, rv, g, r, rp, lo, e1, fun id q => ⟨(e2 id q).1, hC _ (e2 id q).2⟩, fun id q => ⟨(e3 id q).1, hC _ (e3 id q).2⟩, hC _ e4, hC _ e5⟩
set_option maxHeartbeats 2000000 in
theorem rwho_w {h : AHeap} {y n : Nat} {L : List (List UInt8)} {P : List Int} {mv : Nat} (x : Rf h y n L P mv) (hn : P.length ≤ 4000000) (c : Int) {Q : VQ} (hq : Q (.int .i64 (whoL P c)) h) : W 35 [pv y, .int .i64 c] h Q := by
  obtain ⟨aa, ac, rv, g, r, rp, lo, e1, e2, e3⟩ := x
  refine AM.enter hp (fn := Tryd.f35) (rs := [.tmp 4]) (nt := 25) (by kernel_rfl) Tryd.func35 rfl rfl rfl (by kernel_rfl) ?_
  (first | (simp (maxSteps := 1000000) (disch := first | omega | (simp only [AM.DB, List.length_set, List.length_map]; first | done | omega)) only [AM.RB, Nat.reduceAdd, Nat.reduceMul, Nat.reduceEqDiff, reduceCtorEq, b35_FP1]) | skip)
  refine AM.loop_w hp 25 (fun i : Nat => [(0, pv y), (1, .int .i64 c), (5, .int .i64 i)])
    (fun i h' => h' = h ∧ i ≤ P.length ∧ whoF P c i = -1) (fun i => P.length - i) (by kernel_rfl) 0 ?_ ?_ ?_
  · simp (maxSteps := 1000000) (disch := first | omega | (simp only [AM.DB, List.length_set, List.length_map]; first | done | omega)) only [AM.RB, Nat.reduceAdd, Nat.reduceMul, Nat.reduceEqDiff, reduceCtorEq, b35_FP1]
    first | rfl | skip
  · exact ⟨rfl, Nat.zero_le _, rfl⟩
  rintro i h1 ρ ⟨rfl, hi, hw⟩
  simp (maxSteps := 1000000) (disch := first | omega | (simp only [AM.DB, List.length_set, List.length_map]; first | done | omega)) only [AM.RB, Nat.reduceAdd, Nat.reduceMul, Nat.reduceEqDiff, reduceCtorEq, b35_FP1, g]
  refine AM.condV_split (fun hlt => ?_) (fun hlt => ?_)
  · have hil : i < P.length := by omega
    obtain ⟨a, ha⟩ : ∃ a, P.getD i 0 = a := ⟨_, rfl⟩
    by_cases e : a = c
    · rw [who_at hil hw (ha.trans e)] at hq
      (first | (simp (maxSteps := 1000000) (disch := first | omega | (simp only [AM.DB, List.length_set, List.length_map]; first | done | omega)) only [AM.RB, Nat.reduceAdd, Nat.reduceMul, Nat.reduceEqDiff, reduceCtorEq, b35_FP1, g, r.ia el_22, Rd.ldi r lk_3, Int.toNat_natCast, ha, decide_eq_true e]) | skip)
      exact hq
    · (first | (simp (maxSteps := 1000000) (disch := first | omega | (simp only [AM.DB, List.length_set, List.length_map]; first | done | omega)) only [AM.RB, Nat.reduceAdd, Nat.reduceMul, Nat.reduceEqDiff, reduceCtorEq, b35_FP1, g, r.ia el_22, Rd.ldi r lk_3, Int.toNat_natCast, ha, decide_eq_false e, AM.wrap_i64]) | skip)
      exact ⟨i + 1, by omega, congrArg _ (by omega), by omega, who_next hw (by rw [ha]; exact e)⟩
  · have e : whoL P c = -1 := by unfold whoL; rw [show P.length = i by omega]; exact hw
    rw [e] at hq
    (first | (simp (maxSteps := 1000000) (disch := first | omega | (simp only [AM.DB, List.length_set, List.length_map]; first | done | omega)) only [AM.RB, Nat.reduceAdd, Nat.reduceMul, Nat.reduceEqDiff, reduceCtorEq, b35_FP1]) | skip)
    exact hq
theorem rat_w {h : AHeap} {y n : Nat} {L : List (List UInt8)} {P : List Int} {mv : Nat} (x : Rf h y n L P mv) (k : Int) {Q : VQ} (hq : Q (.int .i64 (atF P k)) h) : W 34 [pv y, .int .i64 k] h Q := by
  obtain ⟨aa, ac, rv, g, r, rp, lo, e1, e2, e3⟩ := x
  refine AM.enter hp (fn := Tryd.f34) (rs := [.tmp 4]) (nt := 23) (by kernel_rfl) Tryd.func34 rfl rfl rfl (by kernel_rfl) ?_
  unfold atF at hq
  by_cases h0 : k < 0
  · rw [if_neg (by omega)] at hq
    (first | (simp (maxSteps := 1000000) (disch := first | omega | (simp only [AM.DB, List.length_set, List.length_map]; first | done | omega)) only [AM.RB, Nat.reduceAdd, Nat.reduceMul, Nat.reduceEqDiff, reduceCtorEq, b34_FP1, decide_eq_true h0]) | skip)
    exact hq
  by_cases h1 : (P.length : Int) ≤ k
  · rw [if_neg (by omega)] at hq
    (first | (simp (maxSteps := 1000000) (disch := first | omega | (simp only [AM.DB, List.length_set, List.length_map]; first | done | omega)) only [AM.RB, Nat.reduceAdd, Nat.reduceMul, Nat.reduceEqDiff, reduceCtorEq, b34_FP1, g, decide_eq_false h0, decide_eq_true h1]) | skip)
    exact hq
  · rw [if_pos (by omega)] at hq
    (first | (simp (maxSteps := 1000000) (disch := first | omega | (simp only [AM.DB, List.length_set, List.length_map]; first | done | omega)) only [AM.RB, Nat.reduceAdd, Nat.reduceMul, Nat.reduceEqDiff, reduceCtorEq, b34_FP1, g, decide_eq_false h0, decide_eq_false h1, r.ia el_22, Rd.ldi r lk_3]) | skip)
    exact hq
set_option maxHeartbeats 2000000 in
theorem rcheck_w {h : AHeap} {y n : Nat} {L : List (List UInt8)} {l : List UInt8} {P : List Int} {mv : Nat} (x : Rf h y n L P mv) (G : Good l L) (ok : Fok L.flatten P) (hn : P.length ≤ 4000000) (k c : Int) {Q : VQ} (hq : Q (.int .i64 (chkF L P k c)) h) : W 32 [pv y, .int .i64 k, .int .i64 c] h Q := by
  obtain ⟨aa, ac, rv, g, r, rp, lo, e1, e2, e3⟩ := id x
  refine AM.enter hp (fn := Tryd.f32) (rs := [.tmp 6]) (nt := 31) (by kernel_rfl) Tryd.func32 rfl rfl rfl (by kernel_rfl) ?_
  (first | (simp (maxSteps := 1000000) (disch := first | omega | (simp only [AM.DB, List.length_set, List.length_map]; first | done | omega)) only [AM.RB, Nat.reduceAdd, Nat.reduceMul, Nat.reduceEqDiff, reduceCtorEq, b32_FP1]) | skip)
  refine rat_w x k ?_
  unfold atF
  by_cases hr : 0 ≤ k ∧ k < P.length
  case neg =>
    have e : chkF L P k c = 220 := by unfold chkF; rw [if_neg (fun q => hr q.1)]
    have d1 : decide ((-1 : Int) < 0) = true := rfl
    rw [e] at hq
    rw [if_neg hr]
    (first | (simp (maxSteps := 1000000) (disch := first | omega | (simp only [AM.DB, List.length_set, List.length_map]; first | done | omega)) only [AM.RB, Nat.reduceAdd, Nat.reduceMul, Nat.reduceEqDiff, reduceCtorEq, b32_FP1, d1]) | skip)
    exact hq
  obtain ⟨r0, r1⟩ := hr
  obtain ⟨k, rfl⟩ := Int.eq_ofNat_of_zero_le r0
  obtain ⟨a, ea, hal⟩ := ok.cell (i := k) (by omega)
  rw [if_pos ⟨r0, r1⟩, Int.toNat_natCast, ea]
  have da : decide ((a : Int) < 0) = false := decide_eq_false (by omega)
  have ec : chkF L P k c = if edgeL L (a : Int) c = true ∧ whoL P c < 0 then 0 else 220 := by
    unfold chkF
    rw [Int.toNat_natCast, ea]
    by_cases hh : edgeL L (a : Int) c = true ∧ whoL P c < 0
    · rw [if_pos ⟨⟨r0, r1⟩, hh⟩, if_pos hh]
    · rw [if_neg (fun q => hh q.2), if_neg hh]
  rw [ec] at hq
  (first | (simp (maxSteps := 1000000) (disch := first | omega | (simp only [AM.DB, List.length_set, List.length_map]; first | done | omega)) only [AM.RB, Nat.reduceAdd, Nat.reduceMul, Nat.reduceEqDiff, reduceCtorEq, b32_FP1, g, da]) | skip)
  refine refEdge_w rp G _ _ ?_
  (first | (simp (maxSteps := 1000000) (disch := first | omega | (simp only [AM.DB, List.length_set, List.length_map]; first | done | omega)) only [AM.RB, Nat.reduceAdd, Nat.reduceMul, Nat.reduceEqDiff, reduceCtorEq, b32_FP1]) | skip)
  refine rwho_w x hn c ?_
  cases he : edgeL L (a : Int) c
  · rw [if_neg (fun q => by rw [he] at q; cases q.1)] at hq
    (first | (simp (maxSteps := 1000000) (disch := first | omega | (simp only [AM.DB, List.length_set, List.length_map]; first | done | omega)) only [AM.RB, Nat.reduceAdd, Nat.reduceMul, Nat.reduceEqDiff, reduceCtorEq, b32_FP1]) | skip)
    exact hq
  by_cases hw : 0 ≤ whoL P c
  · rw [if_neg (by omega)] at hq
    (first | (simp (maxSteps := 1000000) (disch := first | omega | (simp only [AM.DB, List.length_set, List.length_map]; first | done | omega)) only [AM.RB, Nat.reduceAdd, Nat.reduceMul, Nat.reduceEqDiff, reduceCtorEq, b32_FP1, decide_eq_true hw]) | skip)
    exact hq
  · rw [if_pos ⟨he, by omega⟩] at hq
    (first | (simp (maxSteps := 1000000) (disch := first | omega | (simp only [AM.DB, List.length_set, List.length_map]; first | done | omega)) only [AM.RB, Nat.reduceAdd, Nat.reduceMul, Nat.reduceEqDiff, reduceCtorEq, b32_FP1, decide_eq_false hw]) | skip)
    exact hq
set_option maxHeartbeats 2000000 in
theorem rmove_w {h : AHeap} {y n : Nat} {L : List (List UInt8)} {l : List UInt8} {P : List Int} {mv : Nat} {B : Nat → Prop} (x : RfB h y n L P mv B) (G : Good l L) (ok : Fok L.flatten P) (hn : P.length ≤ 4000000) (hmv : mv ≤ 4000000) (hl : h.low ≤ h.next) (k c : Int) {Q : VQ}
    (hq : ∀ h', RfB h' y n L (movF L P k c) (if chkF L P k c = 0 then mv + 1 else mv) (fun id => B id ∨ (h.next ≤ id ∧ id < h'.next)) → Fr (fun id => id = y) h h' → Q (.int .i64 (chkF L P k c)) h') : W 33 [pv y, .int .i64 k, .int .i64 c] h Q := by
  have xr := x.rf
  have x' := x.mono (C := fun id => B id ∨ (h.next ≤ id ∧ id < h.next)) (fun id q => .inl q)
  obtain ⟨aa, ac, rv, g, r, rp, lo, e1, e2, e3, e4, e5⟩ := id x
  have lty := AM.get_some_lt g
  refine AM.enter hp (fn := Tryd.f33) (rs := [.tmp 6]) (nt := 37) (by kernel_rfl) Tryd.func33 rfl rfl rfl (by kernel_rfl) ?_
  (first | (simp (maxSteps := 1000000) (disch := first | omega | (simp only [AM.DB, List.length_set, List.length_map]; first | done | omega)) only [AM.RB, Nat.reduceAdd, Nat.reduceMul, Nat.reduceEqDiff, reduceCtorEq, b33_FP1]) | skip)
  refine rcheck_w xr G ok hn k c ?_
  rcases chkF_or L P k c with ⟨e, ⟨r0, r1⟩, h2, h3⟩ | ⟨e, _⟩
  · have d0 : decide ((0 : Int) = 0) = true := rfl
    unfold movF at hq
    rw [e, if_pos rfl, if_pos rfl] at hq
    obtain ⟨k, rfl⟩ := Int.eq_ofNat_of_zero_le r0
    rw [Int.toNat_natCast] at hq
    rw [e]
    (first | (simp (maxSteps := 1000000) (disch := first | omega | (simp only [AM.DB, List.length_set, List.length_map]; first | done | omega)) only [AM.RB, Nat.reduceAdd, Nat.reduceMul, Nat.reduceEqDiff, reduceCtorEq, b33_FP1, d0, g]) | skip)
    refine AM.appends_w ap_22 ap_22 (AM.Ow.nil _ _ _) r (AM.ints_one _ _) hl (AM.fits (by omega) (by omega)) (AM.fits' (by omega)) fun v h1 o1 fr1' hid1 => ?_
    rw [Nat.zero_add, List.nil_append] at o1
    have fr1 : Fr none' h h1 := fr1'.mono fun _ _ t => t
    have nx1 := fr1.next
    have lw1 := fr1.low
    obtain ⟨va, vc, rfl⟩ := o1.form
    have hv1 : ∀ id, idOf (.slice va P.length vc) id → h.next ≤ id ∧ id < h1.next := fun id t => ⟨by rcases hid1 id t with t' | t'; exact t'.elim; exact t', o1.lt t⟩
    (first | (simp (maxSteps := 1000000) (disch := first | omega | (simp only [AM.DB, List.length_set, List.length_map]; first | done | omega)) only [AM.RB, Nat.reduceAdd, Nat.reduceMul, Nat.reduceEqDiff, reduceCtorEq, b33_FP1, o1.ia el_22, Int.toNat_natCast]) | skip)
    refine o1.st sz_3 (j := k) (by omega) rfl rfl fun h2' o2 fr2 n2 => ?_
    rw [mset'] at o2
    have lw2 := fr2.low
    have g2 := fr2.get (g.fr0 fr1) (fun t => by have := hv1 _ t; omega)
    (first | (simp (maxSteps := 1000000) (disch := first | omega | (simp only [AM.DB, List.length_set, List.length_map]; first | done | omega)) only [AM.RB, Nat.reduceAdd, Nat.reduceMul, Nat.reduceEqDiff, reduceCtorEq, b33_FP1, g2, AM.wrap_i64]) | skip)
    generalize hE_ : AHeap.put h2' _ _ = h3'; obtain ⟨g3, fr3, n3, l3⟩ := AM.put_get hE_ (by omega); clear hE_
    generalize hE_ : AHeap.put h3' _ _ = h4'; obtain ⟨g4, fr4, n4, l4⟩ := AM.put_get hE_ (by omega); clear hE_
    have frF : Fr (fun id => id = y) h h4' := (((fr1.mono fun _ _ t => t.elim).then fr2 (fun id a t => by have := hv1 _ t; omega)).trans fr3).trans fr4
    have fr14 : Fr (fun id => id = y ∨ idOf (.slice va P.length vc) id) h1 h4' := ((fr2.mono fun id _ t => .inr t).trans (fr3.mono fun id _ t => .inl t)).trans (fr4.mono fun id _ t => .inl t)
    refine hq _ ⟨va, vc, rv, ?_, ?_, ?_, ?_, e1, ?_, fun id t => ⟨(e3 id t).1, .inl (e3 id t).2⟩, .inl e4, .inl e5⟩ frF
    · rw [List.length_set]; exact g4
    · rw [List.length_set]
      exact (o2.fr fr3 (fun id t e => by have := hv1 _ t; have e : id = y := e; omega)).rd.fr fr4 (fun id t e => by have := hv1 _ t; have e : id = y := e; omega)
    · exact rp.fr frF e1 (fun id t => (e3 id t).1)
    · have := frF.low; omega
    · rw [List.length_set]
      exact fun id t => ⟨by have := hv1 _ t; omega, .inr (by have := hv1 _ t; omega)⟩
  · have d0 : decide ((220 : Int) = 0) = false := rfl
    unfold movF at hq
    rw [e, if_neg (by decide), if_neg (by decide)] at hq
    rw [e]
    (first | (simp (maxSteps := 1000000) (disch := first | omega | (simp only [AM.DB, List.length_set, List.length_map]; first | done | omega)) only [AM.RB, Nat.reduceAdd, Nat.reduceMul, Nat.reduceEqDiff, reduceCtorEq, b33_FP1, d0]) | skip)
    exact hq _ x' (Fr.refl _ _)

/-- The cells into which a robot may move, as the document looks for them. -/
def openK (L : List (List UInt8)) (P : List Int) (r : Int) : Nat → List Int
  | 0 => []
  | k + 1 => openK L P r k ++ if chkF L P r k = 0 then [(k : Int)] else []
theorem openK_open {L : List (List UInt8)} (f : Fit L) (P : List Int) (r : Int) : openK L P r L.flatten.length = openF L P r := by
  by_cases h : 0 ≤ r ∧ r < P.length
  · unfold openF
    rw [if_pos h, ← nxt_eq f]
    have : ∀ k, openK L P r k = (nxt L (P.getD r.toNat 0) k).filter fun c => decide (whoL P c < 0) := by
      intro k
      induction k with
      | zero => rfl
      | succ k ih =>
        rw [openK, nxt_succ, List.filter_append, ih]
        congr 1
        rcases chkF_or L P r k with ⟨e, h1, h2, h3⟩ | ⟨e, h1⟩
        · rw [e, if_pos rfl, h2, if_pos rfl, filter_one, decide_eq_true h3]; rfl
        · rw [e, if_neg (by decide)]
          by_cases he : edgeL L (P.getD r.toNat 0) k = true
          · rw [if_pos he, filter_one, decide_eq_false (fun q => h1 ⟨h, he, q⟩)]; rfl
          · rw [if_neg he]; rfl
    exact this _
  · unfold openF
    rw [if_neg h]
    have : ∀ k, openK L P r k = [] := by
      intro k
      induction k with
      | zero => rfl
      | succ k ih =>
        rw [openK, ih]
        rcases chkF_or L P r k with ⟨e, h1, h2, h3⟩ | ⟨e, h1⟩
        · exact absurd h1 h
        · rw [e]; rfl
    exact this _
theorem openK_len (L : List (List UInt8)) (P : List Int) (r : Int) : ∀ k, (openK L P r k).length ≤ k
  | 0 => Nat.le_refl _
  | k + 1 => by
    have := openK_len L P r k
    rw [openK, List.length_append]
    split
    · show _ + 1 ≤ _; omega
    · show _ + 0 ≤ _; omega
set_option maxHeartbeats 2000000 in
theorem ropen_w {h : AHeap} {y n : Nat} {L : List (List UInt8)} {l : List UInt8} {P : List Int} {mv : Nat} (x : Rf h y n L P mv) (G : Good l L) (ok : Fok L.flatten P) (hn : P.length ≤ 4000000) (hl : h.low ≤ h.next) (k : Int) {Q : VQ}
    (hq : ∀ v h', Ow h' 3 1 v (openF L P k).length ((openF L P k).map (.int .i64)) → Fr none' h h' → Q v h') : W 31 [pv y, .int .i64 k] h Q := by
  have f := G.fit
  have hK := f.k1024
  have flen := f.len
  have hbd : L.length ≤ 4000000 ∧ (L.getD 0 []).length ≤ 4000000 := by have := f.r32; have := f.c32; omega
  refine AM.enter hp (fn := Tryd.f31) (rs := [.tmp 4]) (nt := 28) (by kernel_rfl) Tryd.func31 rfl rfl rfl (by kernel_rfl) ?_
  (first | (simp (maxSteps := 1000000) (disch := first | omega | (simp only [AM.DB, List.length_set, List.length_map]; first | done | omega)) only [AM.RB, Nat.reduceAdd, Nat.reduceMul, Nat.reduceEqDiff, reduceCtorEq, b31_FP1]) | skip)
  refine AM.loop_w hp 28 (fun s : Nat × Option Addr × Nat => [(0, pv y), (1, .int .i64 k), (5, .slice s.2.1 (openK L P k s.1).length s.2.2), (6, .int .i64 s.1)])
    (fun s h' => s.1 ≤ L.flatten.length ∧ Fr none' h h' ∧ Ow h' 3 1 (.slice s.2.1 (openK L P k s.1).length s.2.2) (openK L P k s.1).length ((openK L P k s.1).map (.int .i64)) ∧ ∀ id, idOf (.slice s.2.1 (openK L P k s.1).length s.2.2) id → h.next ≤ id) (fun s => L.flatten.length - s.1) (by kernel_rfl) (0, none, 0) ?_ ?_ ?_
  · simp (maxSteps := 1000000) (disch := first | omega | (simp only [AM.DB, List.length_set, List.length_map]; first | done | omega)) only [AM.RB, Nat.reduceAdd, Nat.reduceMul, Nat.reduceEqDiff, reduceCtorEq, b31_FP1]
    first | rfl | skip
  · exact ⟨Nat.zero_le _, Fr.refl _ _, AM.Ow.nil _ _ _, fun id t => t.elim⟩
  rintro ⟨c, sa, sc⟩ h1 ρ ⟨hc, fr1, o1, hid1⟩
  simp only at hc o1 hid1 ⊢
  have x1 := x.fr0 fr1
  obtain ⟨aa, ac, rv, g, r, rp, lo, e1, e2, e3⟩ := id x1
  have nx1 := fr1.next
  have lw1 := fr1.low
  have ol := openK_len L P k c
  (first | (simp (maxSteps := 1000000) (disch := first | omega | (simp only [AM.DB, List.length_set, List.length_map]; first | done | omega)) only [AM.RB, Nat.reduceAdd, Nat.reduceMul, Nat.reduceEqDiff, reduceCtorEq, b31_FP1, g]) | skip)
  refine refCells_w rp G.rows hbd ?_
  (first | (simp (maxSteps := 1000000) (disch := first | omega | (simp only [AM.DB, List.length_set, List.length_map]; first | done | omega)) only [AM.RB, Nat.reduceAdd, Nat.reduceMul, Nat.reduceEqDiff, reduceCtorEq, b31_FP1]) | skip)
  refine AM.condV_split (fun hlt => ?_) (fun hlt => ?_)
  · have hcl : c < L.flatten.length := by omega
    have hsu : openK L P k (c + 1) = openK L P k c ++ if chkF L P k c = 0 then [(c : Int)] else [] := rfl
    (first | (simp (maxSteps := 1000000) (disch := first | omega | (simp only [AM.DB, List.length_set, List.length_map]; first | done | omega)) only [AM.RB, Nat.reduceAdd, Nat.reduceMul, Nat.reduceEqDiff, reduceCtorEq, b31_FP1]) | skip)
    refine rcheck_w x1 G ok hn k c ?_
    rcases chkF_or L P k c with ⟨e, _⟩ | ⟨e, _⟩
    · have d0 : decide ((0 : Int) = 0) = true := rfl
      rw [e, if_pos rfl] at hsu
      rw [e]
      (first | (simp (maxSteps := 1000000) (disch := first | omega | (simp only [AM.DB, List.length_set, List.length_map]; first | done | omega)) only [AM.RB, Nat.reduceAdd, Nat.reduceMul, Nat.reduceEqDiff, reduceCtorEq, b31_FP1, d0]) | skip)
      generalize hE_ : AHeap.alloc h1 _ = h2; obtain ⟨g2, fr2, n2, l2⟩ := AM.new_get hE_; clear hE_
      have nx2 := fr2.next
      have lw2 := fr2.low
      refine AM.appends_w ap_22 ap_22 (o1.fr0 fr2) (AM.Rd.whole (n := 1) (c := [.int .i64 c]) g2 rfl) rfl (by omega) (AM.fits (by omega) (by omega)) (AM.fits' (by omega)) fun v h3 o3 fr3 hid3 => ?_
      obtain ⟨na, nc, rfl⟩ := o3.form
      have hle : (openK L P k (c + 1)).length = (openK L P k c).length + 1 := by rw [hsu, List.length_append]; rfl
      (first | (simp (maxSteps := 1000000) (disch := first | omega | (simp only [AM.DB, List.length_set, List.length_map]; first | done | omega)) only [AM.RB, Nat.reduceAdd, Nat.reduceMul, Nat.reduceEqDiff, reduceCtorEq, b31_FP1, AM.wrap_i64]) | skip)
      refine ⟨(c + 1, na, nc), by simp only; omega, ?_⟩
      simp only [hle]
      refine ⟨⟨trivial, congrArg _ (by omega)⟩, by omega, Fr.fresh (fr1.trans fr2) fr3 hid1, ?_, fun id t => ?_⟩
      · rw [hsu, List.map_append]; exact o3
      · rcases hid3 id t with t' | t'
        · exact hid1 id t'
        · omega
    · have d0 : decide ((220 : Int) = 0) = false := rfl
      rw [e, if_neg (by decide), List.append_nil] at hsu
      rw [e]
      (first | (simp (maxSteps := 1000000) (disch := first | omega | (simp only [AM.DB, List.length_set, List.length_map]; first | done | omega)) only [AM.RB, Nat.reduceAdd, Nat.reduceMul, Nat.reduceEqDiff, reduceCtorEq, b31_FP1, d0, AM.wrap_i64]) | skip)
      refine ⟨(c + 1, sa, sc), by simp only; omega, ?_⟩
      simp only [hsu]
      exact ⟨⟨trivial, congrArg _ (by omega)⟩, by omega, fr1, o1, hid1⟩
  · obtain rfl : c = L.flatten.length := by omega
    rw [openK_open f] at o1 ⊢
    (first | (simp (maxSteps := 1000000) (disch := first | omega | (simp only [AM.DB, List.length_set, List.length_map]; first | done | omega)) only [AM.RB, Nat.reduceAdd, Nat.reduceMul, Nat.reduceEqDiff, reduceCtorEq, b31_FP1]) | skip)
    exact hq _ _ o1 fr1

end Go.Proofs.YtbaohngkapmhlaaDoor

namespace Go.Proofs.YtbaohngkapmhlaaDoor
open Go.AM
set_option maxRecDepth 8000
theorem b73_FP2 : type_of% (And.intro (@AM.bin_add) (And.intro (@AM.bin_eql) (And.intro (@AM.bin_lss) (And.intro (@AM.bin_sub) (And.intro (AM.bsW_int bs_94) (And.intro (AM.bsW_nil bs_94) (And.intro (AM.bsW_slice bs_94) (And.intro (AM.bsW_string bs_94) (And.intro (@AM.cvW_int) (And.intro (@AM.cvW_slice) (And.intro (AM.cv_int ul_3 ul_5) (And.intro (@AM.op_binOp) (And.intro (@AM.op_buildSlice) (@AM.op_convert)))))))))))))) := And.intro (@AM.bin_add) (And.intro (@AM.bin_eql) (And.intro (@AM.bin_lss) (And.intro (@AM.bin_sub) (And.intro (AM.bsW_int bs_94) (And.intro (AM.bsW_nil bs_94) (And.intro (AM.bsW_slice bs_94) (And.intro (AM.bsW_string bs_94) (And.intro (@AM.cvW_int) (And.intro (@AM.cvW_slice) (And.intro (AM.cv_int ul_3 ul_5) (And.intro (@AM.op_binOp) (And.intro (@AM.op_buildSlice) (@AM.op_convert)))))))))))))
theorem b36_FP2 : type_of% (And.intro (@AM.bin_add) (And.intro (@AM.bin_eql) (And.intro (@AM.bin_geq) (And.intro (@AM.bin_lss) (And.intro (@AM.bin_rem) (And.intro (AM.bsW_int bs_94) (And.intro (AM.bsW_nil bs_94) (And.intro (AM.bsW_slice bs_94) (And.intro (AM.bsW_string bs_94) (And.intro (@AM.cvW_slice) (And.intro (@AM.fa_ptr) (And.intro (@fd_57_0) (And.intro (@AM.ldO_agg) (And.intro (@AM.ldO_one) (And.intro (@AM.ld_ptr) (And.intro (@lk_45) (And.intro (@AM.op_binOp) (And.intro (@AM.op_buildSlice) (And.intro (@AM.op_call) (And.intro (@AM.op_convert) (And.intro (@AM.op_fieldAddr) (And.intro (@AM.op_load) (And.intro (@AM.op_nilCheck) (@AM.str_add)))))))))))))))))))))))) := And.intro (@AM.bin_add) (And.intro (@AM.bin_eql) (And.intro (@AM.bin_geq) (And.intro (@AM.bin_lss) (And.intro (@AM.bin_rem) (And.intro (AM.bsW_int bs_94) (And.intro (AM.bsW_nil bs_94) (And.intro (AM.bsW_slice bs_94) (And.intro (AM.bsW_string bs_94) (And.intro (@AM.cvW_slice) (And.intro (@AM.fa_ptr) (And.intro (@fd_57_0) (And.intro (@AM.ldO_agg) (And.intro (@AM.ldO_one) (And.intro (@AM.ld_ptr) (And.intro (@lk_45) (And.intro (@AM.op_binOp) (And.intro (@AM.op_buildSlice) (And.intro (@AM.op_call) (And.intro (@AM.op_convert) (And.intro (@AM.op_fieldAddr) (And.intro (@AM.op_load) (And.intro (@AM.op_nilCheck) (@AM.str_add)))))))))))))))))))))))


theorem over_no {K : List UInt8} {P : List Int} {a : Nat} : ∀ k, (∀ j, j < k → P.getD j 0 ≠ (a : Int)) → overF K P k a = K.getD a 0
  | 0, _ => rfl
  | k + 1, h => by
    rw [overF, if_neg (h k (by omega))]
    exact over_no k fun j hj => h j (by omega)
theorem over_yes {K : List UInt8} {P : List Int} {a i : Nat} : ∀ k, i < k → P.getD i 0 = (a : Int) → (∀ j, j < k → P.getD j 0 = (a : Int) → j = i) → overF K P k a = signs.getD i 0
  | 0, h, _, _ => by omega
  | k + 1, h, hi, hu => by
    rw [overF]
    by_cases e : P.getD k 0 = (a : Int)
    · rw [if_pos e, hu k (by omega) e]
    · rw [if_neg e]
      refine over_yes k ?_ hi fun j hj => hu j (by omega)
      by_cases ek : i = k
      · subst ek; exact absurd hi e
      · omega
theorem over_who {K : List UInt8} {P : List Int} (ok : Fok K P) (a : Nat) : overF K P P.length a = if 0 ≤ whoL P a then signs.getD (whoL P a).toNat 0 else K.getD a 0 := by
  unfold whoL
  rcases whoF_or P (a : Int) P.length with ⟨e, h⟩ | ⟨i, e, h1, h2, h3⟩
  · rw [e, if_neg (by omega), over_no _ h]
  · rw [e, if_pos (by omega), Int.toNat_natCast, over_yes _ h1 h2 fun j hj ej => ok.apart j i hj h1 (by rw [ej, h2])]
theorem sign_num : ∀ n : Fin 64, (signs.getD n.1 0).toNat = if n.1 < 10 then 48 + n.1 else if n.1 < 36 then 87 + n.1 else if n.1 < 62 then 29 + n.1 else if n.1 = 62 then 64 else 38 := by decide
theorem bs_oneF (x : Int) (c : UInt8) (h : x = (c.toNat : Int)) : bsOf [x] = ⟨[c].toArray⟩ := by
  have := bsOf_bytes [c]
  rw [h]; exact this
set_option maxHeartbeats 2000000 in
theorem rsign_w {n : Nat} (hn : n < 64) {h : AHeap} {Q : VQ} (hq : ∀ h', Fr none' h h' → Q (strV [signs.getD n 0]) h') : W 73 [.int .i64 n] h Q := by
  have hs := sign_num ⟨n, hn⟩
  simp only at hs
  obtain ⟨c, hc⟩ : ∃ c, signs.getD n 0 = c := ⟨_, rfl⟩
  rw [hc] at hs hq
  refine AM.enter hp (fn := Tryd.f73) (rs := [.tmp 2]) (nt := 28) (by kernel_rfl) Tryd.func73 rfl rfl rfl (by kernel_rfl) ?_
  by_cases h1 : (n : Int) < 10
  · rw [if_pos (by omega)] at hs
    (first | (simp (maxSteps := 1000000) (disch := first | omega | (simp only [AM.DB, List.length_set, List.length_map]; first | done | omega)) only [AM.RB, Nat.reduceAdd, Nat.reduceMul, Nat.reduceEqDiff, reduceCtorEq, b73_FP2, decide_eq_true h1, AM.wrap_i64, AM.wrap_u8]) | skip)
    generalize hE_ : AHeap.alloc h _ = h1; obtain ⟨g1, fr1, n1, l1⟩ := AM.new_get hE_; clear hE_
    have cv := AM.cv_bytes ul_94 ul_5 ul_9 (l := [_]) (AM.Rd.whole (n := 1) (c := _) g1 rfl)
    rw [bs_oneF _ c (by omega)] at cv
    (first | (simp (maxSteps := 1000000) (disch := first | omega | (simp only [AM.DB, List.length_set, List.length_map]; first | done | omega)) only [AM.RB, Nat.reduceAdd, Nat.reduceMul, Nat.reduceEqDiff, reduceCtorEq, b73_FP2, cv]) | skip)
    exact hq _ fr1
  by_cases h2 : (n : Int) < 36
  · rw [if_neg (by omega), if_pos (by omega)] at hs
    (first | (simp (maxSteps := 1000000) (disch := first | omega | (simp only [AM.DB, List.length_set, List.length_map]; first | done | omega)) only [AM.RB, Nat.reduceAdd, Nat.reduceMul, Nat.reduceEqDiff, reduceCtorEq, b73_FP2, decide_eq_false h1, decide_eq_true h2, AM.wrap_i64, AM.wrap_u8]) | skip)
    generalize hE_ : AHeap.alloc h _ = h1; obtain ⟨g1, fr1, n1, l1⟩ := AM.new_get hE_; clear hE_
    have cv := AM.cv_bytes ul_94 ul_5 ul_9 (l := [_]) (AM.Rd.whole (n := 1) (c := _) g1 rfl)
    rw [bs_oneF _ c (by omega)] at cv
    (first | (simp (maxSteps := 1000000) (disch := first | omega | (simp only [AM.DB, List.length_set, List.length_map]; first | done | omega)) only [AM.RB, Nat.reduceAdd, Nat.reduceMul, Nat.reduceEqDiff, reduceCtorEq, b73_FP2, cv]) | skip)
    exact hq _ fr1
  by_cases h3 : (n : Int) < 62
  · rw [if_neg (by omega), if_neg (by omega), if_pos (by omega)] at hs
    (first | (simp (maxSteps := 1000000) (disch := first | omega | (simp only [AM.DB, List.length_set, List.length_map]; first | done | omega)) only [AM.RB, Nat.reduceAdd, Nat.reduceMul, Nat.reduceEqDiff, reduceCtorEq, b73_FP2, decide_eq_false h1, decide_eq_false h2, decide_eq_true h3, AM.wrap_i64, AM.wrap_u8]) | skip)
    generalize hE_ : AHeap.alloc h _ = h1; obtain ⟨g1, fr1, n1, l1⟩ := AM.new_get hE_; clear hE_
    have cv := AM.cv_bytes ul_94 ul_5 ul_9 (l := [_]) (AM.Rd.whole (n := 1) (c := _) g1 rfl)
    rw [bs_oneF _ c (by omega)] at cv
    (first | (simp (maxSteps := 1000000) (disch := first | omega | (simp only [AM.DB, List.length_set, List.length_map]; first | done | omega)) only [AM.RB, Nat.reduceAdd, Nat.reduceMul, Nat.reduceEqDiff, reduceCtorEq, b73_FP2, cv]) | skip)
    exact hq _ fr1
  by_cases h4 : (n : Int) = 62
  · have e : c = 64 := by
      have hn62 : n = 62 := by omega
      subst hn62
      rw [← hc]; rfl
    rw [e] at hq
    (first | (simp (maxSteps := 1000000) (disch := first | omega | (simp only [AM.DB, List.length_set, List.length_map]; first | done | omega)) only [AM.RB, Nat.reduceAdd, Nat.reduceMul, Nat.reduceEqDiff, reduceCtorEq, b73_FP2, decide_eq_false h1, decide_eq_false h2, decide_eq_false h3, decide_eq_true h4]) | skip)
    exact hq _ (Fr.refl _ _)
  · have e : c = 38 := by
      have hn63 : n = 63 := by omega
      subst hn63
      rw [← hc]; rfl
    rw [e] at hq
    (first | (simp (maxSteps := 1000000) (disch := first | omega | (simp only [AM.DB, List.length_set, List.length_map]; first | done | omega)) only [AM.RB, Nat.reduceAdd, Nat.reduceMul, Nat.reduceEqDiff, reduceCtorEq, b73_FP2, decide_eq_false h1, decide_eq_false h2, decide_eq_false h3, decide_eq_false h4]) | skip)
    exact hq _ (Fr.refl _ _)
set_option maxHeartbeats 4000000 in
theorem rtext_w {h : AHeap} {y n : Nat} {L : List (List UInt8)} {l : List UInt8} {P : List Int} {mv : Nat} (x : Rf h y n L P mv) (G : Good l L) (ok : Fok L.flatten P) (hn : P.length ≤ 64) {Q : VQ} (hq : ∀ h', Fr none' h h' → Q (strV (textF L P P.length)) h') : W 36 [pv y] h Q := by
  have f := G.fit
  have hK := f.k1024
  have flen := f.len
  have hC := f.cols
  have hbd : L.length ≤ 4000000 ∧ (L.getD 0 []).length ≤ 4000000 := by have := f.r32; have := f.c32; omega
  have eC : colsL L = (L.getD 0 []).length := rfl
  obtain ⟨g, hg⟩ : ∃ g : Nat → UInt8, overF L.flatten P P.length = g := ⟨_, rfl⟩
  have glen : ∀ c, c ≤ L.flatten.length → (genT g (colsL L) c).length ≤ 2048 := fun c hc => by
    rw [genT_len g (C := colsL L) hC]
    have := Nat.div_le_self c (colsL L)
    omega
  have et : textF L P P.length = genT g (colsL L) L.flatten.length := by unfold textF; rw [hg]
  rw [et] at hq
  refine AM.enter hp (fn := Tryd.f36) (rs := [.tmp 2]) (nt := 46) (by kernel_rfl) Tryd.func36 rfl rfl rfl (by kernel_rfl) ?_
  (first | (simp (maxSteps := 1000000) (disch := first | omega | (simp only [AM.DB, List.length_set, List.length_map]; first | done | omega)) only [AM.RB, Nat.reduceAdd, Nat.reduceMul, Nat.reduceEqDiff, reduceCtorEq, b36_FP2]) | skip)
  refine AM.loop_w hp 46 (fun c : Nat => [(0, pv y), (3, strV (genT g (colsL L) c)), (4, .int .i64 c)])
    (fun c h' => c ≤ L.flatten.length ∧ Fr none' h h') (fun c => L.flatten.length - c) (by kernel_rfl) 0 ?_ ?_ ?_
  · simp (maxSteps := 1000000) (disch := first | omega | (simp only [AM.DB, List.length_set, List.length_map]; first | done | omega)) only [AM.RB, Nat.reduceAdd, Nat.reduceMul, Nat.reduceEqDiff, reduceCtorEq, b36_FP2]
    first | rfl | skip
  · exact ⟨Nat.zero_le _, Fr.refl _ _⟩
  rintro c h1 ρ ⟨hc, fr1⟩
  have x1 := x.fr0 fr1
  obtain ⟨aa, ac, rv, gy, r, rp, lo, e1, e2, e3⟩ := id x1
  have gl := glen c hc
  (first | (simp (maxSteps := 1000000) (disch := first | omega | (simp only [AM.DB, List.length_set, List.length_map]; first | done | omega)) only [AM.RB, Nat.reduceAdd, Nat.reduceMul, Nat.reduceEqDiff, reduceCtorEq, b36_FP2, gy]) | skip)
  refine refCells_w rp G.rows hbd ?_
  (first | (simp (maxSteps := 1000000) (disch := first | omega | (simp only [AM.DB, List.length_set, List.length_map]; first | done | omega)) only [AM.RB, Nat.reduceAdd, Nat.reduceMul, Nat.reduceEqDiff, reduceCtorEq, b36_FP2]) | skip)
  refine AM.condV_split (fun hlt => ?_) (fun hlt => ?_)
  · have hcl : c < L.flatten.length := by omega
    have ow := over_who ok c
    rw [hg] at ow
    have gs : genT g (colsL L) (c + 1) = genT g (colsL L) c ++ [g c] ++ if (c + 1) % colsL L = 0 then [10] else [] := rfl
    have e3' : Int.tmod ((c : Int) + 1) ((L.getD 0 []).length : Int) = (((c + 1) % (L.getD 0 []).length : Nat) : Int) := by
      have := tmod_nat (c + 1) (L.getD 0 []).length
      rwa [Int.natCast_add] at this
    have hnz : ((L.getD 0 []).length : Int) ≠ 0 := by omega
    have sl1 : (genT g (colsL L) c).length + [g c].length ≤ 1099511627776 := by rw [List.length_singleton]; omega
    have sl2 : (genT g (colsL L) c ++ [g c]).length + [(10 : UInt8)].length ≤ 1099511627776 := by rw [List.length_append, List.length_singleton, List.length_singleton]; omega
    (first | (simp (maxSteps := 1000000) (disch := first | omega | (simp only [AM.DB, List.length_set, List.length_map]; first | done | omega)) only [AM.RB, Nat.reduceAdd, Nat.reduceMul, Nat.reduceEqDiff, reduceCtorEq, b36_FP2]) | skip)
    refine rwho_w x1 (by omega) c ?_
    have hmid : ∀ h2, Fr none' h1 h2 → True := fun _ _ => trivial
    by_cases hw : 0 ≤ whoL P c
    case' pos =>
      rw [if_pos hw] at ow
      have hwl : whoL P c < P.length := by
        unfold whoL
        rcases whoF_or P (c : Int) P.length with ⟨e, _⟩ | ⟨i, e, h1, _⟩ <;> omega
      obtain ⟨w, hw'⟩ := Int.eq_ofNat_of_zero_le hw
      rw [hw', Int.toNat_natCast] at ow
      have d1 : decide ((0 : Int) ≤ (w : Int)) = true := decide_eq_true (by omega)
      rw [hw']
      (first | (simp (maxSteps := 1000000) (disch := first | omega | (simp only [AM.DB, List.length_set, List.length_map]; first | done | omega)) only [AM.RB, Nat.reduceAdd, Nat.reduceMul, Nat.reduceEqDiff, reduceCtorEq, b36_FP2, d1]) | skip)
      refine rsign_w (by omega) fun h2 fr2 => ?_
      rw [← ow]
      have gy2 := gy.fr0 fr2
      have rp2 := rp.fr0 fr2
      (first | (simp (maxSteps := 1000000) (disch := first | omega | (simp only [AM.DB, List.length_set, List.length_map]; first | done | omega)) only [AM.RB, Nat.reduceAdd, Nat.reduceMul, Nat.reduceEqDiff, reduceCtorEq, b36_FP2, AM.str_add _ sl1, gy2]) | skip)
    case' neg =>
      rw [if_neg hw] at ow
      (first | (simp (maxSteps := 1000000) (disch := first | omega | (simp only [AM.DB, List.length_set, List.length_map]; first | done | omega)) only [AM.RB, Nat.reduceAdd, Nat.reduceMul, Nat.reduceEqDiff, reduceCtorEq, b36_FP2, decide_eq_false hw, gy]) | skip)
      refine refKind_w rp G.rows hbd G.all _ ?_
      have ek : rkind L c = g c := by
        rw [G.kind, ow]
        unfold kindP
        rw [if_pos (by omega), Int.toNat_natCast]
      rw [ek]
      (first | (simp (maxSteps := 1000000) (disch := first | omega | (simp only [AM.DB, List.length_set, List.length_map]; first | done | omega)) only [AM.RB, Nat.reduceAdd, Nat.reduceMul, Nat.reduceEqDiff, reduceCtorEq, b36_FP2]) | skip)
      generalize hE_ : AHeap.alloc h1 _ = h2; obtain ⟨g2, fr2, n2, l2⟩ := AM.new_get hE_; clear hE_
      have cv := AM.cv_bytes ul_94 ul_5 ul_9 (l := [_]) (AM.Rd.whole (n := 1) (c := _) g2 rfl)
      rw [bs_oneF _ (g c) rfl] at cv
      have gy2 := gy.fr0 fr2
      have rp2 := rp.fr0 fr2
      (first | (simp (maxSteps := 1000000) (disch := first | omega | (simp only [AM.DB, List.length_set, List.length_map]; first | done | omega)) only [AM.RB, Nat.reduceAdd, Nat.reduceMul, Nat.reduceEqDiff, reduceCtorEq, b36_FP2, cv, AM.str_add _ sl1, gy2]) | skip)
    all_goals (
      refine refCols_w rp2 G.rows ?_
      by_cases hm : (c + 1) % (L.getD 0 []).length = 0
      · rw [eC, if_pos hm] at gs
        have dm : decide ((((c + 1) % (L.getD 0 []).length : Nat) : Int) = 0) = true := decide_eq_true (by omega)
        (first | (simp (maxSteps := 1000000) (disch := first | omega | (simp only [AM.DB, List.length_set, List.length_map]; first | done | omega)) only [AM.RB, Nat.reduceAdd, Nat.reduceMul, Nat.reduceEqDiff, reduceCtorEq, b36_FP2, AM.wrap_i64, e3', dm, AM.str_add _ sl2]) | skip)
        exact ⟨c + 1, by omega, ⟨by rw [eC, gs], congrArg _ (by omega)⟩, by omega, fr1.trans fr2⟩
      · rw [eC, if_neg hm, List.append_nil] at gs
        have dm : decide ((((c + 1) % (L.getD 0 []).length : Nat) : Int) = 0) = false := decide_eq_false (by omega)
        (first | (simp (maxSteps := 1000000) (disch := first | omega | (simp only [AM.DB, List.length_set, List.length_map]; first | done | omega)) only [AM.RB, Nat.reduceAdd, Nat.reduceMul, Nat.reduceEqDiff, reduceCtorEq, b36_FP2, AM.wrap_i64, e3', dm]) | skip)
        exact ⟨c + 1, by omega, ⟨by rw [eC, gs], congrArg _ (by omega)⟩, by omega, fr1.trans fr2⟩)
  · obtain rfl : c = L.flatten.length := by omega
    (first | (simp (maxSteps := 1000000) (disch := first | omega | (simp only [AM.DB, List.length_set, List.length_map]; first | done | omega)) only [AM.RB, Nat.reduceAdd, Nat.reduceMul, Nat.reduceEqDiff, reduceCtorEq, b36_FP2]) | skip)
    exact hq _ fr1

end Go.Proofs.YtbaohngkapmhlaaDoor

namespace Go.Proofs.YtbaohngkapmhlaaDoor
open Go.AM
set_option maxRecDepth 8000
theorem b28_FP3 : type_of% (And.intro (@AM.bdV_some) (And.intro (@bd_57) (And.intro (@AM.bin_add) (And.intro (@AM.bin_eql) (And.intro (@AM.bin_gtr) (And.intro (@AM.bin_lss) (And.intro (@AM.boxK_agg) (And.intro (@AM.boxK_bool) (And.intro (@AM.boxK_func) (And.intro (@AM.boxK_int) (And.intro (@AM.boxK_map) (And.intro (@AM.boxK_pointer) (And.intro (@AM.boxK_slice) (And.intro (@AM.boxK_string) (And.intro (@AM.fa_ptr) (And.intro (@fd_57_1) (And.intro (@AM.fillL_cons) (And.intro (@AM.fillL_nil) (And.intro (@AM.fillS_agg) (And.intro (@AM.fillS_bool) (And.intro (@AM.fillS_func) (And.intro (@AM.fillS_int) (And.intro (@AM.fillS_map) (And.intro (@AM.fillS_pointer) (And.intro (@AM.fillS_slice) (And.intro (@AM.fillS_string) (And.intro (@AM.iaO_ok) (And.intro (AM.ia_slice el_22) (And.intro (@AM.ldO_agg) (And.intro (@AM.ldO_one) (And.intro (@AM.ld_ptr) (And.intro (AM.len_slice ul_22) (And.intro (@lk_22) (And.intro (@lk_3) (And.intro (@AM.op_append) (And.intro (@AM.op_binOp) (And.intro (@AM.op_box) (And.intro (@AM.op_build) (And.intro (@AM.op_call) (And.intro (@AM.op_fieldAddr) (And.intro (@AM.op_indexAddr) (And.intro (@AM.op_len) (And.intro (@AM.op_load) (And.intro (@AM.op_nilCheck) (And.intro (@AM.op_store) (And.intro (@AM.op_unOp) (And.intro (@AM.resL_two) (And.intro (@AM.stO_agg) (And.intro (@AM.stO_bool) (And.intro (@AM.stO_int) (And.intro (@AM.stO_map) (And.intro (@AM.stO_pointer) (And.intro (@AM.stO_slice) (And.intro (@AM.stO_string) (And.intro (@AM.st_ptr) (And.intro (@sz_22) (And.intro (@AM.un_neg) (@AM.un_not)))))))))))))))))))))))))))))))))))))))))))))))))))))))))) := And.intro (@AM.bdV_some) (And.intro (@bd_57) (And.intro (@AM.bin_add) (And.intro (@AM.bin_eql) (And.intro (@AM.bin_gtr) (And.intro (@AM.bin_lss) (And.intro (@AM.boxK_agg) (And.intro (@AM.boxK_bool) (And.intro (@AM.boxK_func) (And.intro (@AM.boxK_int) (And.intro (@AM.boxK_map) (And.intro (@AM.boxK_pointer) (And.intro (@AM.boxK_slice) (And.intro (@AM.boxK_string) (And.intro (@AM.fa_ptr) (And.intro (@fd_57_1) (And.intro (@AM.fillL_cons) (And.intro (@AM.fillL_nil) (And.intro (@AM.fillS_agg) (And.intro (@AM.fillS_bool) (And.intro (@AM.fillS_func) (And.intro (@AM.fillS_int) (And.intro (@AM.fillS_map) (And.intro (@AM.fillS_pointer) (And.intro (@AM.fillS_slice) (And.intro (@AM.fillS_string) (And.intro (@AM.iaO_ok) (And.intro (AM.ia_slice el_22) (And.intro (@AM.ldO_agg) (And.intro (@AM.ldO_one) (And.intro (@AM.ld_ptr) (And.intro (AM.len_slice ul_22) (And.intro (@lk_22) (And.intro (@lk_3) (And.intro (@AM.op_append) (And.intro (@AM.op_binOp) (And.intro (@AM.op_box) (And.intro (@AM.op_build) (And.intro (@AM.op_call) (And.intro (@AM.op_fieldAddr) (And.intro (@AM.op_indexAddr) (And.intro (@AM.op_len) (And.intro (@AM.op_load) (And.intro (@AM.op_nilCheck) (And.intro (@AM.op_store) (And.intro (@AM.op_unOp) (And.intro (@AM.resL_two) (And.intro (@AM.stO_agg) (And.intro (@AM.stO_bool) (And.intro (@AM.stO_int) (And.intro (@AM.stO_map) (And.intro (@AM.stO_pointer) (And.intro (@AM.stO_slice) (And.intro (@AM.stO_string) (And.intro (@AM.st_ptr) (And.intro (@sz_22) (And.intro (@AM.un_neg) (@AM.un_not)))))))))))))))))))))))))))))))))))))))))))))))))))))))))
theorem b29_FP3 : type_of% (And.intro (@AM.alK_some) (And.intro (@al_91) (And.intro (@AM.fa_ptr) (And.intro (@fd_91_1) (And.intro (@AM.ldO_agg) (And.intro (@AM.ldO_one) (And.intro (@AM.ld_ptr) (And.intro (@lk_22) (And.intro (@lk_91) (And.intro (@AM.op_alloc) (And.intro (@AM.op_call) (And.intro (@AM.op_fieldAddr) (And.intro (@AM.op_load) (And.intro (@AM.op_nilCheck) (And.intro (@AM.op_store) (And.intro (@AM.stO_agg) (And.intro (@AM.stO_bool) (And.intro (@AM.stO_int) (And.intro (@AM.stO_map) (And.intro (@AM.stO_pointer) (And.intro (@AM.stO_slice) (And.intro (@AM.stO_string) (And.intro (@AM.st_ptr) (And.intro (@sz_22) (@sz_91))))))))))))))))))))))))) := And.intro (@AM.alK_some) (And.intro (@al_91) (And.intro (@AM.fa_ptr) (And.intro (@fd_91_1) (And.intro (@AM.ldO_agg) (And.intro (@AM.ldO_one) (And.intro (@AM.ld_ptr) (And.intro (@lk_22) (And.intro (@lk_91) (And.intro (@AM.op_alloc) (And.intro (@AM.op_call) (And.intro (@AM.op_fieldAddr) (And.intro (@AM.op_load) (And.intro (@AM.op_nilCheck) (And.intro (@AM.op_store) (And.intro (@AM.stO_agg) (And.intro (@AM.stO_bool) (And.intro (@AM.stO_int) (And.intro (@AM.stO_map) (And.intro (@AM.stO_pointer) (And.intro (@AM.stO_slice) (And.intro (@AM.stO_string) (And.intro (@AM.st_ptr) (And.intro (@sz_22) (@sz_91))))))))))))))))))))))))


theorem Mk.moreT {h h' : AHeap} {p : Nat} {L : List (List UInt8)} {B T : Nat → Prop} (m : Mk h p L B) (fr : Fr T h h') (hT : ∀ id, T id → B id) : Mk h' p L (fun id => B id ∨ (h.next ≤ id ∧ id < h'.next)) := by
  obtain ⟨⟨S, m, hB⟩, hb⟩ := m
  have hn := fr.next
  refine ⟨⟨S, m.fr fr fun id q1 q2 => hB id (hT id q2) q1, fun id q s => ?_⟩, fun id q => ?_⟩
  · rcases q with q | q
    · exact hB id q s
    · have := m.lt s; omega
  · rcases q with q | q
    · have := hb id q; omega
    · exact q.2
theorem Fl.moreT {h h' : AHeap} {q p : Nat} {L : List (List UInt8)} {P : List Int} {mv : Nat} {B T : Nat → Prop} (x : Fl h q p L P mv B) (fr : Fr T h h') (hT : ∀ id, T id → B id) : Fl h' q p L P mv (fun id => B id ∨ (h.next ≤ id ∧ id < h'.next)) := by
  obtain ⟨aa, ac, g, o, hne, hlo, hB, m⟩ := x
  have lt := AM.get_some_lt g
  refine ⟨aa, ac, fr.get g (fun t => (hB _ (hT _ t)).1 rfl), o.fr fr (fun id q t => (hB _ (hT _ t)).2 q), hne, by rw [fr.low]; exact hlo, fun id q => ?_, (m.moreT fr fun id t => .inl (hT id t)).subF fun id q => ?_⟩
  · rcases q with q | q
    · exact hB id q
    · exact ⟨by omega, fun t => by have := o.lt t; omega⟩
  · rcases q with (q | q) | q
    · exact .inl (.inl q)
    · exact .inr q
    · exact .inl (.inr q)
set_option maxHeartbeats 4000000 in
theorem rnew_w {h : AHeap} {n : Nat} {rv : Value} {L : List (List UInt8)} {l : List UInt8} {v : Value} {P : List Int} (r : Rp h n rv L) (G : Good l L) (hP : Rd h 3 1 v P.length (P.map (.int .i64))) (hn : P.length ≤ 4000000) (hl : h.low ≤ h.next) {Q : VQ}
    (hno : ∀ h', Fr none' h h' → ¬ (1 ≤ P.length ∧ P.length ≤ 64 ∧ Fok L.flatten P) → Q (.tuple #[.pointer none, .int .i64 220]) h')
    (hok : ∀ y h', 1 ≤ P.length → P.length ≤ 64 → Fok L.flatten P → RfB h' y n L P 0 (fun id => (idOf rv id ∨ id = n) ∨ (h.next ≤ id ∧ id < h'.next)) → Fr none' h h' → h.next ≤ y → Q (.tuple #[pv y, .int .i64 0]) h') : W 28 [pv n, v] h Q := by
  obtain ⟨pa, pc, rfl⟩ := hP.form
  have f := G.fit
  have hbd : L.length ≤ 4000000 ∧ (L.getD 0 []).length ≤ 4000000 := by have := f.r32; have := f.c32; omega
  refine AM.enter hp (fn := Tryd.f28) (rs := [.tmp 4, .tmp 5]) (nt := 59) (by kernel_rfl) Tryd.func28 rfl rfl rfl (by kernel_rfl) ?_
  by_cases c1 : (P.length : Int) < 1
  · (repeat' (first | (simp (maxSteps := 1000000) (disch := first | omega | (simp only [AM.DB, List.length_set, List.length_map]; first | done | omega)) only [AM.RB, Nat.reduceAdd, Nat.reduceMul, Nat.reduceEqDiff, reduceCtorEq, b28_FP3, decide_eq_true c1]) | refine AM.drawW_fine hp (by kernel_rfl) (by kernel_rfl) (by kernel_rfl) ?_ | refine AM.opW_tied (by kernel_rfl) ?_ | refine AM.opW_untied (by kernel_rfl) ?_ | refine AM.build_w ?_))
    exact hno _ (Fr.refl _ _) (fun q => by omega)
  by_cases c2 : (64 : Int) < P.length
  · (repeat' (first | (simp (maxSteps := 1000000) (disch := first | omega | (simp only [AM.DB, List.length_set, List.length_map]; first | done | omega)) only [AM.RB, Nat.reduceAdd, Nat.reduceMul, Nat.reduceEqDiff, reduceCtorEq, b28_FP3, decide_eq_false c1, decide_eq_true c2]) | refine AM.drawW_fine hp (by kernel_rfl) (by kernel_rfl) (by kernel_rfl) ?_ | refine AM.opW_tied (by kernel_rfl) ?_ | refine AM.opW_untied (by kernel_rfl) ?_ | refine AM.build_w ?_))
    exact hno _ (Fr.refl _ _) (fun q => by omega)
  (repeat' (first | (simp (maxSteps := 1000000) (disch := first | omega | (simp only [AM.DB, List.length_set, List.length_map]; first | done | omega)) only [AM.RB, Nat.reduceAdd, Nat.reduceMul, Nat.reduceEqDiff, reduceCtorEq, b28_FP3, decide_eq_false c1, decide_eq_false c2]) | refine AM.drawW_fine hp (by kernel_rfl) (by kernel_rfl) (by kernel_rfl) ?_ | refine AM.opW_tied (by kernel_rfl) ?_ | refine AM.opW_untied (by kernel_rfl) ?_ | refine AM.build_w ?_))
  refine AM.loop_w hp 59 (fun i : Nat => [(0, pv n), (1, .slice pa P.length pc), (6, .int .i64 i)])
    (fun i h' => h' = h ∧ i ≤ P.length ∧ (∀ j, j < i → freeP L.flatten (P.getD j 0) = true) ∧ ∀ j k, j < i → k < i → P.getD j 0 = P.getD k 0 → j = k) (fun i => P.length - i) (by kernel_rfl) 0 ?_ ?_ ?_
  · simp (maxSteps := 1000000) (disch := first | omega | (simp only [AM.DB, List.length_set, List.length_map]; first | done | omega)) only [AM.RB, Nat.reduceAdd, Nat.reduceMul, Nat.reduceEqDiff, reduceCtorEq, b28_FP3]
    first | rfl | skip
  · exact ⟨rfl, Nat.zero_le _, fun j hj => by omega, fun j k hj => by omega⟩
  rintro i h1 ρ ⟨rfl, hi, hfree, happ⟩
  simp (maxSteps := 1000000) (disch := first | omega | (simp only [AM.DB, List.length_set, List.length_map]; first | done | omega)) only [AM.RB, Nat.reduceAdd, Nat.reduceMul, Nat.reduceEqDiff, reduceCtorEq, b28_FP3]
  refine AM.condV_split (fun hlt => ?_) (fun hlt => ?_)
  · have hil : i < P.length := by omega
    obtain ⟨c, hc⟩ : ∃ c, P.getD i 0 = c := ⟨_, rfl⟩
    (repeat' (first | (simp (maxSteps := 1000000) (disch := first | omega | (simp only [AM.DB, List.length_set, List.length_map]; first | done | omega)) only [AM.RB, Nat.reduceAdd, Nat.reduceMul, Nat.reduceEqDiff, reduceCtorEq, b28_FP3, hP.ia el_22, Rd.ldi hP lk_3, Int.toNat_natCast, hc]) | refine AM.drawW_fine hp (by kernel_rfl) (by kernel_rfl) (by kernel_rfl) ?_ | refine AM.opW_tied (by kernel_rfl) ?_ | refine AM.opW_untied (by kernel_rfl) ?_ | refine AM.build_w ?_))
    refine refFree_w r G.rows hbd G.all c ?_
    rw [G.free]
    cases hf : freeP L.flatten c
    · (repeat' (first | (simp (maxSteps := 1000000) (disch := first | omega | (simp only [AM.DB, List.length_set, List.length_map]; first | done | omega)) only [AM.RB, Nat.reduceAdd, Nat.reduceMul, Nat.reduceEqDiff, reduceCtorEq, b28_FP3]) | refine AM.drawW_fine hp (by kernel_rfl) (by kernel_rfl) (by kernel_rfl) ?_ | refine AM.opW_tied (by kernel_rfl) ?_ | refine AM.opW_untied (by kernel_rfl) ?_ | refine AM.build_w ?_))
      exact hno _ (Fr.refl _ _) (fun q => by have := q.2.2.free i hil; rw [hc, hf] at this; cases this)
    (repeat' (first | (simp (maxSteps := 1000000) (disch := first | omega | (simp only [AM.DB, List.length_set, List.length_map]; first | done | omega)) only [AM.RB, Nat.reduceAdd, Nat.reduceMul, Nat.reduceEqDiff, reduceCtorEq, b28_FP3]) | refine AM.drawW_fine hp (by kernel_rfl) (by kernel_rfl) (by kernel_rfl) ?_ | refine AM.opW_tied (by kernel_rfl) ?_ | refine AM.opW_untied (by kernel_rfl) ?_ | refine AM.build_w ?_))
    refine AM.loop_w hp 59 (fun k : Nat => [(0, pv n), (1, .slice pa P.length pc), (6, .int .i64 i), (8, .int .i64 k)])
      (fun k h' => h' = h1 ∧ k ≤ i ∧ ∀ j, j < k → P.getD j 0 ≠ c) (fun k => i - k) (by kernel_rfl) 0 ?_ ?_ ?_
    · simp (maxSteps := 1000000) (disch := first | omega | (simp only [AM.DB, List.length_set, List.length_map]; first | done | omega)) only [AM.RB, Nat.reduceAdd, Nat.reduceMul, Nat.reduceEqDiff, reduceCtorEq, b28_FP3]
      first | rfl | skip
    · exact ⟨rfl, Nat.zero_le _, fun j hj => by omega⟩
    rintro k h2 ρ ⟨rfl, hk, hne⟩
    simp (maxSteps := 1000000) (disch := first | omega | (simp only [AM.DB, List.length_set, List.length_map]; first | done | omega)) only [AM.RB, Nat.reduceAdd, Nat.reduceMul, Nat.reduceEqDiff, reduceCtorEq, b28_FP3]
    refine AM.condV_split (fun hltk => ?_) (fun hltk => ?_)
    · have hki : k < i := by omega
      obtain ⟨a, ha⟩ : ∃ c, P.getD k 0 = c := ⟨_, rfl⟩
      by_cases e : a = c
      · (repeat' (first | (simp (maxSteps := 1000000) (disch := first | omega | (simp only [AM.DB, List.length_set, List.length_map]; first | done | omega)) only [AM.RB, Nat.reduceAdd, Nat.reduceMul, Nat.reduceEqDiff, reduceCtorEq, b28_FP3, hP.ia el_22, Rd.ldi hP lk_3, Int.toNat_natCast, ha, hc, decide_eq_true e]) | refine AM.drawW_fine hp (by kernel_rfl) (by kernel_rfl) (by kernel_rfl) ?_ | refine AM.opW_tied (by kernel_rfl) ?_ | refine AM.opW_untied (by kernel_rfl) ?_ | refine AM.build_w ?_))
        exact hno _ (Fr.refl _ _) (fun q => by have := q.2.2.apart k i (by omega) hil (by rw [ha, hc, e]); omega)
      · (repeat' (first | (simp (maxSteps := 1000000) (disch := first | omega | (simp only [AM.DB, List.length_set, List.length_map]; first | done | omega)) only [AM.RB, Nat.reduceAdd, Nat.reduceMul, Nat.reduceEqDiff, reduceCtorEq, b28_FP3, hP.ia el_22, Rd.ldi hP lk_3, Int.toNat_natCast, ha, hc, decide_eq_false e, AM.wrap_i64]) | refine AM.drawW_fine hp (by kernel_rfl) (by kernel_rfl) (by kernel_rfl) ?_ | refine AM.opW_tied (by kernel_rfl) ?_ | refine AM.opW_untied (by kernel_rfl) ?_ | refine AM.build_w ?_))
        refine ⟨k + 1, by omega, congrArg _ (by omega), by omega, fun j hj => ?_⟩
        by_cases ej : j = k
        · rw [ej, ha]; exact e
        · exact hne j (by omega)
    · have eki : k = i := by omega
      (repeat' (first | (simp (maxSteps := 1000000) (disch := first | omega | (simp only [AM.DB, List.length_set, List.length_map]; first | done | omega)) only [AM.RB, Nat.reduceAdd, Nat.reduceMul, Nat.reduceEqDiff, reduceCtorEq, b28_FP3, AM.wrap_i64]) | refine AM.drawW_fine hp (by kernel_rfl) (by kernel_rfl) (by kernel_rfl) ?_ | refine AM.opW_tied (by kernel_rfl) ?_ | refine AM.opW_untied (by kernel_rfl) ?_ | refine AM.build_w ?_))
      refine ⟨i + 1, by omega, congrArg _ (by omega), by omega, fun j hj => ?_, fun j m hj hm e => ?_⟩
      · by_cases ej : j = i
        · rw [ej, hc]; exact hf
        · exact hfree j (by omega)
      · by_cases ej : j = i
        · by_cases em : m = i
          · exact ej.trans em.symm
          · exact absurd (e.symm.trans (by rw [ej]; exact hc)) (hne m (by omega))
        · by_cases em : m = i
          · exact absurd (e.trans (by rw [em]; exact hc)) (hne j (by omega))
          · exact happ j m (by omega) (by omega) e
  have ei : i = P.length := by omega
  subst ei
  (repeat' (first | (simp (maxSteps := 1000000) (disch := first | omega | (simp only [AM.DB, List.length_set, List.length_map]; first | done | omega)) only [AM.RB, Nat.reduceAdd, Nat.reduceMul, Nat.reduceEqDiff, reduceCtorEq, b28_FP3]) | refine AM.drawW_fine hp (by kernel_rfl) (by kernel_rfl) (by kernel_rfl) ?_ | refine AM.opW_tied (by kernel_rfl) ?_ | refine AM.opW_untied (by kernel_rfl) ?_ | refine AM.build_w ?_))
  generalize hE_ : AHeap.alloc h1 _ = h2; obtain ⟨g2, fr2, n2, l2⟩ := AM.new_get hE_; clear hE_
  have nx2 := fr2.next
  have lw2 := fr2.low
  (repeat' (first | (simp (maxSteps := 1000000) (disch := first | omega | (simp only [AM.DB, List.length_set, List.length_map]; first | done | omega)) only [AM.RB, Nat.reduceAdd, Nat.reduceMul, Nat.reduceEqDiff, reduceCtorEq, b28_FP3, g2]) | refine AM.drawW_fine hp (by kernel_rfl) (by kernel_rfl) (by kernel_rfl) ?_ | refine AM.opW_tied (by kernel_rfl) ?_ | refine AM.opW_untied (by kernel_rfl) ?_ | refine AM.build_w ?_))
  refine AM.appends_w ap_22 ap_22 (AM.Ow.nil _ _ _) (hP.fr0 fr2) (AM.ints_one _ _) (by omega) (AM.fits (by omega) (by omega)) (AM.fits' (by omega)) fun w h3 o3 fr3' hid3 => ?_
  rw [Nat.zero_add, List.nil_append] at o3
  have fr3 : Fr none' h2 h3 := fr3'.mono fun _ _ t => t
  have nx3 := fr3.next
  have lw3 := fr3.low
  obtain ⟨wa, wc, rfl⟩ := o3.form
  have g3 := g2.fr0 fr3
  have hw3 : ∀ id, idOf (.slice wa P.length wc) id → h2.next ≤ id := fun id t => by rcases hid3 id t with t' | t'; exact t'.elim; exact t'
  (repeat' (first | (simp (maxSteps := 1000000) (disch := first | omega | (simp only [AM.DB, List.length_set, List.length_map]; first | done | omega)) only [AM.RB, Nat.reduceAdd, Nat.reduceMul, Nat.reduceEqDiff, reduceCtorEq, b28_FP3, g3]) | refine AM.drawW_fine hp (by kernel_rfl) (by kernel_rfl) (by kernel_rfl) ?_ | refine AM.opW_tied (by kernel_rfl) ?_ | refine AM.opW_untied (by kernel_rfl) ?_ | refine AM.build_w ?_))
  generalize hE_ : AHeap.put h3 _ _ = h4; obtain ⟨g4, fr4, n4, l4⟩ := AM.put_get hE_ (by omega); clear hE_
  (repeat' (first | (simp (maxSteps := 1000000) (disch := first | omega | (simp only [AM.DB, List.length_set, List.length_map]; first | done | omega)) only [AM.RB, Nat.reduceAdd, Nat.reduceMul, Nat.reduceEqDiff, reduceCtorEq, b28_FP3]) | refine AM.drawW_fine hp (by kernel_rfl) (by kernel_rfl) (by kernel_rfl) ?_ | refine AM.opW_tied (by kernel_rfl) ?_ | refine AM.opW_untied (by kernel_rfl) ?_ | refine AM.build_w ?_))
  have fr04 : Fr none' h1 h4 := Fr.fresh (fr2.trans fr3) fr4 (fun id e => by have e : id = h1.next := e; omega)
  have lt := AM.get_some_lt r.1
  refine hok _ _ (by omega) (by omega) ⟨hfree, happ⟩ ⟨wa, wc, rv, g4, (o3.fr fr4 (fun id t e => by have := hw3 id t; have e : id = h1.next := e; omega)).rd, r.fr0 fr04, by omega, by omega, fun id t => ⟨by have := hw3 id t; omega, .inr ⟨by have := hw3 id t; omega, by have := o3.lt t; omega⟩⟩, fun id t => ⟨by have := r.2.1.lt t; omega, .inl (.inl t)⟩, .inl (.inr rfl), .inr ⟨Nat.le_refl _, by omega⟩⟩ fr04 (Nat.le_refl _)
set_option maxHeartbeats 2000000 in
theorem fcopy_w {h : AHeap} {q p : Nat} {L : List (List UInt8)} {P : List Int} {mv : Nat} {B : Nat → Prop} (x : Fl h q p L P mv B) (hl : h.low ≤ h.next) (hn : P.length ≤ 4000000) {Q : VQ}
    (hq : ∀ q2 aa ac h', h'.get q2 = some (.cells [pv p, .slice aa P.length ac, .int .i64 mv] 91 false) → Ow h' 3 1 (.slice aa P.length ac) P.length (P.map (.int .i64)) → (∀ id, idOf (.slice aa P.length ac) id → h.next ≤ id ∧ id ≠ q2) → h.next ≤ q2 → Fr none' h h' → Q (pv q2) h') : W 29 [pv q] h Q := by
  obtain ⟨aa, ac, g, o, hne, hlo, hB, m⟩ := x
  have lt := AM.get_some_lt g
  refine AM.enter hp (fn := Tryd.f29) (rs := [.tmp 2]) (nt := 15) (by kernel_rfl) Tryd.func29 rfl rfl rfl (by kernel_rfl) ?_
  (first | (simp (maxSteps := 1000000) (disch := first | omega | (simp only [AM.DB, List.length_set, List.length_map]; first | done | omega)) only [AM.RB, Nat.reduceAdd, Nat.reduceMul, Nat.reduceEqDiff, reduceCtorEq, b29_FP3]) | skip)
  refine fnone_w g ?_
  (first | (simp (maxSteps := 1000000) (disch := first | omega | (simp only [AM.DB, List.length_set, List.length_map]; first | done | omega)) only [AM.RB, Nat.reduceAdd, Nat.reduceMul, Nat.reduceEqDiff, reduceCtorEq, b29_FP3, g]) | skip)
  generalize hE_ : AHeap.put (AHeap.alloc h _) _ _ = h1; obtain ⟨g1, fr1, n1, l1⟩ := AM.box_get hE_ (by omega); clear hE_
  have nx1 := fr1.next
  have lw1 := fr1.low
  have lt1 : h.next < h1.next := AM.get_some_lt g1
  refine clone_w (o.rd.fr0 fr1) (AM.ints_one _ _) (by omega) (by omega) fun v h2 o2 fr2 hid2 => ?_
  obtain ⟨va, vc, rfl⟩ := o2.form
  have nx2 := fr2.next
  have lw2 := fr2.low
  have hx_1 := g1.fr0 fr2
  (first | (simp (maxSteps := 1000000) (disch := first | omega | (simp only [AM.DB, List.length_set, List.length_map]; first | done | omega)) only [AM.RB, Nat.reduceAdd, Nat.reduceMul, Nat.reduceEqDiff, reduceCtorEq, b29_FP3, hx_1]) | skip)
  generalize hE_ : AHeap.put h2 _ _ = h3; obtain ⟨g3, fr3, n3, l3⟩ := AM.put_get hE_ (by omega); clear hE_
  (first | (simp (maxSteps := 1000000) (disch := first | omega | (simp only [AM.DB, List.length_set, List.length_map]; first | done | omega)) only [AM.RB, Nat.reduceAdd, Nat.reduceMul, Nat.reduceEqDiff, reduceCtorEq, b29_FP3]) | skip)
  exact hq _ _ _ _ g3 (o2.fr fr3 (fun id t e => by have := hid2 id t; have e : id = h.next := e; omega)) (fun id t => by have := hid2 id t; omega) (Nat.le_refl _) (Fr.fresh (fr1.trans fr2) fr3 (fun id e => by have e : id = h.next := e; omega))

end Go.Proofs.YtbaohngkapmhlaaDoor
