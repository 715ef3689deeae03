/- Walks of this claim's functions, and plain laws. -/
import Derived.Test.YtodcnfabnlojdaaWa
set_option linter.unusedSimpArgs false
set_option linter.unusedVariables false
namespace Go.Proofs.Ytodcnfabnlojdaa
open Go.AM
set_option maxRecDepth 8000
theorem b70_T4 : type_of% (And.intro (@AM.bin_add) (And.intro (@AM.bin_geq) (And.intro (@AM.bin_lss) (And.intro (@AM.iaO_ok) (And.intro (AM.ia_slice el_22) (And.intro (@AM.ldO_agg) (And.intro (@AM.ldO_one) (And.intro (@AM.ld_ptr) (And.intro (AM.len_slice ul_22) (And.intro (@lk_22) (And.intro (@lk_3) (And.intro (@AM.op_binOp) (And.intro (@AM.op_call) (And.intro (@AM.op_indexAddr) (And.intro (@AM.op_len) (And.intro (@AM.op_load) (And.intro (@AM.op_unOp) (And.intro (@AM.un_neg) (@AM.un_not))))))))))))))))))) := And.intro (@AM.bin_add) (And.intro (@AM.bin_geq) (And.intro (@AM.bin_lss) (And.intro (@AM.iaO_ok) (And.intro (AM.ia_slice el_22) (And.intro (@AM.ldO_agg) (And.intro (@AM.ldO_one) (And.intro (@AM.ld_ptr) (And.intro (AM.len_slice ul_22) (And.intro (@lk_22) (And.intro (@lk_3) (And.intro (@AM.op_binOp) (And.intro (@AM.op_call) (And.intro (@AM.op_indexAddr) (And.intro (@AM.op_len) (And.intro (@AM.op_load) (And.intro (@AM.op_unOp) (And.intro (@AM.un_neg) (@AM.un_not))))))))))))))))))


/-- The robots along waits, from one on. -/
def alongL (waits : List Int) : Nat → Int → List Int
  | 0, _ => []
  | k + 1, x => if 0 ≤ x ∧ x < waits.length then x :: alongL waits k (waits.getD x.toNat 0) else []

theorem along1_w {w1 w2 : Nat} {s : Value} {n : Nat} {waits : List Int} {r : Int} {h : AHeap} {e1 e2 : TypeId} {o1 o2 : Bool} (g1 : h.get w1 = some (.cells [s] e1 o1)) (g2 : h.get w2 = some (.cells [.int .i64 r] e2 o2))
    (hs : Rd h 3 1 s n (waits.map (.int .i64))) (hr : 0 ≤ r ∧ r < n) (hn : n ≤ 4000000000) :
    IterOk Try.prog prims (.func (.func 70) #[] #[.pointer (some ⟨w1, 0, none⟩), .pointer (some ⟨w2, 0, none⟩)]) (fun id => id = w1 ∨ id = w2 ∨ idOf s id) ((alongL waits n (waits.getD r.toNat 0)).map fun x => [.int .i64 x]) h := by
  intro y J E h0 hnx hR hlow hJ hE hy hJ0
  obtain ⟨a, cap, rfl⟩ := hs.form
  have hlen : waits.length = n := by simpa using hs.length
  have g1' : h0.get w1 = some (.cells [.slice a n cap] e1 o1) := by rw [hR w1 (AM.get_some_lt g1) (.inl rfl)]; exact g1
  have g2' : h0.get w2 = some (.cells [.int .i64 r] e2 o2) := by rw [hR w2 (AM.get_some_lt g2) (.inr (.inl rfl))]; exact g2
  have hs0 : Rd h0 3 1 (.slice a n cap) n (waits.map (.int .i64)) := hs.same fun id hi => hR id (hs.lt hi) (.inr (.inr hi))
  refine AM.enter hp (fn := Try.f70) (rs := []) (nt := 32) (by kernel_rfl) Try.func70 rfl rfl rfl (by kernel_rfl) ?_
  simp (maxSteps := 1000000) (disch := first | omega | (simp only [AM.DB, List.length_set, List.length_map]; first | done | omega)) only [AM.RB, Nat.reduceAdd, Nat.reduceMul, Nat.reduceEqDiff, reduceCtorEq, b70_T4, g1', g2', hs0.ia el_22, hs0.ldi lk_3]
  refine AM.loop_w hp 32 (fun q : Nat × Int => [(0, y), (1, .pointer (some ⟨w1, 0, none⟩)), (2, .pointer (some ⟨w2, 0, none⟩)), (4, .int .i64 q.2), (10, .int .i64 n), (11, .int .i64 q.1)])
    (fun q h' => q.1 ≤ n ∧ (∀ id, (id = w1 ∨ id = w2 ∨ idOf (.slice a n cap) id) → h'.get id = h0.get id) ∧ h0.next ≤ h'.next ∧ h'.low = h0.low ∧ (∃ A, J q.1 A h' ∧ ∀ id, A id → h0.next ≤ id ∧ id < h'.next) ∧ (alongL waits n (waits.getD r.toNat 0)).drop q.1 = alongL waits (n - q.1) q.2 ∧ q.1 ≤ (alongL waits n (waits.getD r.toNat 0)).length)
    (fun q => n - q.1) (by kernel_rfl) (0, waits.getD r.toNat 0) ?_ ?_ ?_
  · simp (maxSteps := 1000000) (disch := first | omega | (simp only [AM.DB, List.length_set, List.length_map]; first | done | omega)) only [AM.RB, Nat.reduceAdd, Nat.reduceMul, Nat.reduceEqDiff, reduceCtorEq, b70_T4]
  · exact ⟨Nat.zero_le _, fun _ _ => rfl, Nat.le_refl _, rfl, ⟨none', hJ0, fun _ q => q.elim⟩, rfl, Nat.zero_le _⟩
  · rintro ⟨i, x⟩ h1 ρ ⟨hi, hk, hnx1, hlow1, ⟨A, hJi, hA⟩, hdrop, hlx⟩
    simp only at hi hJi hdrop hlx ⊢
    have k1 : h1.get w1 = some (.cells [.slice a n cap] e1 o1) := by rw [hk w1 (.inl rfl)]; exact g1'
    have hs1 : Rd h1 3 1 (.slice a n cap) n (waits.map (.int .i64)) := hs0.same fun id hi => hk id (.inr (.inr hi))
    simp (maxSteps := 1000000) (disch := first | omega | (simp only [AM.DB, List.length_set, List.length_map]; first | done | omega)) only [AM.RB, Nat.reduceAdd, Nat.reduceMul, Nat.reduceEqDiff, reduceCtorEq, b70_T4]
    refine AM.condV_split (fun hlt => ?_) (fun hlt => ?_)
    · have hin : i < n := by omega
      obtain ⟨k, hkk⟩ : ∃ k, n - i = k + 1 := ⟨n - i - 1, by omega⟩
      rw [hkk] at hdrop
      simp (maxSteps := 1000000) (disch := first | omega | (simp only [AM.DB, List.length_set, List.length_map]; first | done | omega)) only [AM.RB, Nat.reduceAdd, Nat.reduceMul, Nat.reduceEqDiff, reduceCtorEq, b70_T4]
      refine AM.guard_split (fun hneg => ?_) (fun hneg => ?_)
      · simp (maxSteps := 1000000) (disch := first | omega | (simp only [AM.DB, List.length_set, List.length_map]; first | done | omega)) only [AM.RB, Nat.reduceAdd, Nat.reduceMul, Nat.reduceEqDiff, reduceCtorEq, b70_T4, decide_eq_true hneg]
        refine ⟨A, hA, hnx1, hlow1, .inl ?_⟩
        have e : (alongL waits n (waits.getD r.toNat 0)).length = i := by
          have := congrArg List.length hdrop
          rw [alongL, if_neg (by omega)] at this
          rw [List.length_drop, List.length_nil] at this; omega
        rw [List.length_map, e]; exact hJi
      · simp (maxSteps := 1000000) (disch := first | omega | (simp only [AM.DB, List.length_set, List.length_map]; first | done | omega)) only [AM.RB, Nat.reduceAdd, Nat.reduceMul, Nat.reduceEqDiff, reduceCtorEq, b70_T4, decide_eq_false hneg, k1]
        refine AM.guard_split (fun hge => ?_) (fun hge => ?_)
        · simp (maxSteps := 1000000) (disch := first | omega | (simp only [AM.DB, List.length_set, List.length_map]; first | done | omega)) only [AM.RB, Nat.reduceAdd, Nat.reduceMul, Nat.reduceEqDiff, reduceCtorEq, b70_T4, decide_eq_true hge]
          refine ⟨A, hA, hnx1, hlow1, .inl ?_⟩
          have e : (alongL waits n (waits.getD r.toNat 0)).length = i := by
            have := congrArg List.length hdrop
            rw [alongL, if_neg (by omega)] at this
            rw [List.length_drop, List.length_nil] at this; omega
          rw [List.length_map, e]; exact hJi
        · simp (maxSteps := 1000000) (disch := first | omega | (simp only [AM.DB, List.length_set, List.length_map]; first | done | omega)) only [AM.RB, Nat.reduceAdd, Nat.reduceMul, Nat.reduceEqDiff, reduceCtorEq, b70_T4, decide_eq_false hge]
          have hx : 0 ≤ x ∧ x < n := by omega
          rw [alongL, if_pos (by omega)] at hdrop
          have hget : (alongL waits n (waits.getD r.toNat 0))[i]? = some x := by
            have := congrArg (fun l => l[0]?) hdrop
            simpa using this
          have hilt : i < (alongL waits n (waits.getD r.toNat 0)).length := (List.getElem?_eq_some_iff.1 hget).1
          refine AM.CallW.mono (hy i [.int .i64 x] A h1 (by rw [List.getElem?_map, hget]; rfl) hJi hA hnx1 hlow1 (fun id hid => hk id hid)) ?_
          rintro v h2 ⟨b, rfl, q1, q2, q3, q4⟩
          simp (maxSteps := 1000000) (disch := first | omega | (simp only [AM.DB, List.length_set, List.length_map]; first | done | omega)) only [AM.RB, Nat.reduceAdd, Nat.reduceMul, Nat.reduceEqDiff, reduceCtorEq, b70_T4]
          have k2 : ∀ id, (id = w1 ∨ id = w2 ∨ idOf (.slice a n cap) id) → h2.get id = h0.get id := fun id hid => by
            have hlt0 : id < h1.next := by
              rcases hid with rfl | rfl | hid
              · exact AM.get_some_lt k1
              · have : h1.get id = some (.cells [.int .i64 r] e2 o2) := by rw [hk id (.inr (.inl rfl))]; exact g2'
                exact AM.get_some_lt this
              · exact hs1.lt hid
            rw [q3 id hlt0 (.inr hid), hk id hid]
          have hA2 : ∀ id, A id → h0.next ≤ id ∧ id < h2.next := fun id hid => ⟨(hA id hid).1, by have := (hA id hid).2; omega⟩
          refine AM.condV_bool (fun hb => ?_) (fun hb => ?_)
          · have hb' : b = true := by simpa using hb
            subst hb'
            have k3 : h2.get w1 = some (.cells [.slice a n cap] e1 o1) := by rw [k2 w1 (.inl rfl)]; exact g1'
            have hs2 : Rd h2 3 1 (.slice a n cap) n (waits.map (.int .i64)) := hs0.same fun id hi => k2 id (.inr (.inr hi))
            simp (maxSteps := 1000000) (disch := first | omega | (simp only [AM.DB, List.length_set, List.length_map]; first | done | omega)) only [AM.RB, Nat.reduceAdd, Nat.reduceMul, Nat.reduceEqDiff, reduceCtorEq, b70_T4, k3, hs2.ia el_22, hs2.ldi lk_3, AM.wrap_i64]
            refine ⟨(i + 1, waits.getD x.toNat 0), by simp only; omega, ?_, by simp only; omega, k2, by omega, q2.trans hlow1, ⟨A, q4, hA2⟩, ?_, by simp only; omega⟩
            · simp (maxSteps := 1000000) (disch := first | omega | (simp only [AM.DB, List.length_set, List.length_map]; first | done | omega)) only [AM.RB, Nat.reduceAdd, Nat.reduceMul, Nat.reduceEqDiff, reduceCtorEq, b70_T4]
            · simp only
              rw [show n - (i + 1) = k by omega, ← List.drop_drop, hdrop]; rfl
          · have hb' : b = false := by simpa using hb
            subst hb'
            simp (maxSteps := 1000000) (disch := first | omega | (simp only [AM.DB, List.length_set, List.length_map]; first | done | omega)) only [AM.RB, Nat.reduceAdd, Nat.reduceMul, Nat.reduceEqDiff, reduceCtorEq, b70_T4]
            exact ⟨A, hA2, by omega, q2.trans hlow1, .inr q4⟩
    · simp (maxSteps := 1000000) (disch := first | omega | (simp only [AM.DB, List.length_set, List.length_map]; first | done | omega)) only [AM.RB, Nat.reduceAdd, Nat.reduceMul, Nat.reduceEqDiff, reduceCtorEq, b70_T4]
      refine ⟨A, hA, hnx1, hlow1, .inl ?_⟩
      have e : (alongL waits n (waits.getD r.toNat 0)).length = i := by
        have := congrArg List.length hdrop
        rw [show n - i = 0 by omega, alongL] at this
        rw [List.length_drop, List.length_nil] at this; omega
      rw [List.length_map, e]; exact hJi

end Go.Proofs.Ytodcnfabnlojdaa

namespace Go.Proofs.Ytodcnfabnlojdaa
open Go.AM
set_option maxRecDepth 8000
theorem b14_T5 : type_of% (And.intro (@AM.aMax_int) (And.intro (@AM.alK_some) (And.intro (@al_22) (And.intro (@al_3) (And.intro (@AM.bin_add) (And.intro (@AM.bin_gtr) (And.intro (@AM.bin_lss) (And.intro (@AM.bin_neq) (And.intro (@AM.iaO_ok) (And.intro (AM.ia_slice el_22) (And.intro (@AM.ldO_agg) (And.intro (@AM.ldO_one) (And.intro (@AM.ld_ptr) (And.intro (AM.len_slice ul_22) (And.intro (@lk_22) (And.intro (@lk_3) (And.intro (@AM.op_alloc) (And.intro (@AM.op_binOp) (And.intro (@AM.op_call) (And.intro (@AM.op_indexAddr) (And.intro (@AM.op_len) (And.intro (@AM.op_load) (And.intro (@AM.op_max2) (And.intro (@AM.op_store) (And.intro (@AM.resL_two) (And.intro (@AM.stO_agg) (And.intro (@AM.stO_bool) (And.intro (@AM.stO_int) (And.intro (@AM.stO_map) (And.intro (@AM.stO_pointer) (And.intro (@AM.stO_slice) (And.intro (@AM.stO_string) (And.intro (@AM.st_ptr) (And.intro (@sz_22) (@sz_3))))))))))))))))))))))))))))))))))) := And.intro (@AM.aMax_int) (And.intro (@AM.alK_some) (And.intro (@al_22) (And.intro (@al_3) (And.intro (@AM.bin_add) (And.intro (@AM.bin_gtr) (And.intro (@AM.bin_lss) (And.intro (@AM.bin_neq) (And.intro (@AM.iaO_ok) (And.intro (AM.ia_slice el_22) (And.intro (@AM.ldO_agg) (And.intro (@AM.ldO_one) (And.intro (@AM.ld_ptr) (And.intro (AM.len_slice ul_22) (And.intro (@lk_22) (And.intro (@lk_3) (And.intro (@AM.op_alloc) (And.intro (@AM.op_binOp) (And.intro (@AM.op_call) (And.intro (@AM.op_indexAddr) (And.intro (@AM.op_len) (And.intro (@AM.op_load) (And.intro (@AM.op_max2) (And.intro (@AM.op_store) (And.intro (@AM.resL_two) (And.intro (@AM.stO_agg) (And.intro (@AM.stO_bool) (And.intro (@AM.stO_int) (And.intro (@AM.stO_map) (And.intro (@AM.stO_pointer) (And.intro (@AM.stO_slice) (And.intro (@AM.stO_string) (And.intro (@AM.st_ptr) (And.intro (@sz_22) (@sz_3))))))))))))))))))))))))))))))))))


def bumpL (p : Int) (xs out : List Int) : List Int := xs.foldl (fun o x => o.set x.toNat (max (o.getD x.toNat 0) p)) out
def allL (own waits : List Int) : Nat → List Int
  | 0 => own
  | r + 1 => bumpL (own.getD r 0) (alongL waits own.length (waits.getD r 0)) (allL own waits r)
def okAll (own waits : List Int) : Bool := own.length == waits.length && decide (own.length ≤ 64) && own.all fun p => decide (0 ≤ p ∧ p ≤ 15)

theorem alongL_mem (waits : List Int) : ∀ (k : Nat) (x y : Int), y ∈ alongL waits k x → 0 ≤ y ∧ y < waits.length
  | 0, _, _, h => by cases h
  | k + 1, x, y, h => by
    rw [alongL] at h
    split at h
    · rename_i hx
      rcases List.mem_cons.1 h with rfl | h
      · exact hx
      · exact alongL_mem waits k _ y h
    · cases h
theorem predF_all1 : PredF (.func (.func 48) #[] #[]) fun p => !decide (0 ≤ p ∧ p ≤ 15) := by
  intro x h Q hq
  exact all1_w x h Q (hq h (Fr.refl _ _))

theorem all_w {so sw : Value} {n m : Nat} {own waits : List Int} {h : AHeap} (ho : Rd h 3 1 so n (own.map (.int .i64))) (hw : Rd h 3 1 sw m (waits.map (.int .i64))) (hl : h.low ≤ h.next) {Q : VQ}
    (hbad : okAll own waits = false → ∀ h', Fr none' h h' → Q (.tuple #[.slice none 0 0, .int .i64 2]) h')
    (hok : okAll own waits = true → ∀ v h', Ow h' 3 1 v n ((allL own waits n).map (.int .i64)) → Fr none' h h' → (∀ id, idOf v id → h.next ≤ id) → Q (.tuple #[v, .int .i64 0]) h') :
    W 14 [so, sw] h Q := by
  obtain ⟨ao, co, rfl⟩ := ho.form
  obtain ⟨aw, cw, rfl⟩ := hw.form
  have hlo : own.length = n := by simpa using ho.length
  have hlw : waits.length = m := by simpa using hw.length
  refine AM.enter hp (fn := Try.f14) (rs := [.tmp 4, .tmp 5]) (nt := 48) (by kernel_rfl) Try.func14 rfl rfl rfl (by kernel_rfl) ?_
  simp (maxSteps := 1000000) (disch := first | omega | (simp only [AM.DB, List.length_set, List.length_map]; first | done | omega)) only [AM.RB, Nat.reduceAdd, Nat.reduceMul, Nat.reduceEqDiff, reduceCtorEq, b14_T5]
  refine AM.guard_split (fun hnm => ?_) (fun hnm => ?_)
  case' refine_2 =>
    simp (maxSteps := 1000000) (disch := first | omega | (simp only [AM.DB, List.length_set, List.length_map]; first | done | omega)) only [AM.RB, Nat.reduceAdd, Nat.reduceMul, Nat.reduceEqDiff, reduceCtorEq, b14_T5, decide_eq_false hnm]
    refine hbad ?_ h (Fr.refl _ _)
    unfold okAll
    have : (own.length == waits.length) = false := by simp; omega
    rw [this]; rfl
  simp (maxSteps := 1000000) (disch := first | omega | (simp only [AM.DB, List.length_set, List.length_map]; first | done | omega)) only [AM.RB, Nat.reduceAdd, Nat.reduceMul, Nat.reduceEqDiff, reduceCtorEq, b14_T5, decide_eq_true hnm]
  refine AM.guard_split (fun h64 => ?_) (fun h64 => ?_)
  case' refine_1 =>
    simp (maxSteps := 1000000) (disch := first | omega | (simp only [AM.DB, List.length_set, List.length_map]; first | done | omega)) only [AM.RB, Nat.reduceAdd, Nat.reduceMul, Nat.reduceEqDiff, reduceCtorEq, b14_T5, decide_eq_true h64]
    refine hbad ?_ h (Fr.refl _ _)
    unfold okAll
    have : decide (own.length ≤ 64) = false := by simp; omega
    rw [this]; simp
  simp (maxSteps := 1000000) (disch := first | omega | (simp only [AM.DB, List.length_set, List.length_map]; first | done | omega)) only [AM.RB, Nat.reduceAdd, Nat.reduceMul, Nat.reduceEqDiff, reduceCtorEq, b14_T5, decide_eq_false h64]
  have hn : n ≤ 4000000000 := by omega
  have hm : m ≤ 4000000000 := by omega
  refine containsFunc_w predF_all1 ho hn fun h1 fr1 => ?_
  simp (maxSteps := 1000000) (disch := first | omega | (simp only [AM.DB, List.length_set, List.length_map]; first | done | omega)) only [AM.RB, Nat.reduceAdd, Nat.reduceMul, Nat.reduceEqDiff, reduceCtorEq, b14_T5]
  have hnm' : n = m := by omega
  subst hnm'
  refine AM.condV_bool (fun hany => ?_) (fun hany => ?_)
  · simp (maxSteps := 1000000) (disch := first | omega | (simp only [AM.DB, List.length_set, List.length_map]; first | done | omega)) only [AM.RB, Nat.reduceAdd, Nat.reduceMul, Nat.reduceEqDiff, reduceCtorEq, b14_T5]
    refine hbad ?_ h1 fr1
    unfold okAll
    have : (own.all fun p => decide (0 ≤ p ∧ p ≤ 15)) = false := by
      rw [List.all_eq_not_any_not, hany]; rfl
    rw [this]; simp
  have hokk : okAll own waits = true := by
    unfold okAll
    rw [List.all_eq_not_any_not, hany]
    simp; omega
  have hl1 : h1.low ≤ h1.next := by have := fr1.next; have := fr1.low; omega
  simp (maxSteps := 1000000) (disch := first | omega | (simp only [AM.DB, List.length_set, List.length_map]; first | done | omega)) only [AM.RB, Nat.reduceAdd, Nat.reduceMul, Nat.reduceEqDiff, reduceCtorEq, b14_T5]
  refine clone_w (ho.fr0 fr1) (AM.ints_one _ _) hn hl1 fun v h2 hv fr2 hid => ?_
  obtain ⟨av, cv, rfl⟩ := hv.form
  have hl2 := fr2.hl hl1
  simp (maxSteps := 1000000) (disch := first | omega | (simp only [AM.DB, List.length_set, List.length_map]; first | done | omega)) only [AM.RB, Nat.reduceAdd, Nat.reduceMul, Nat.reduceEqDiff, reduceCtorEq, b14_T5]
  have fr02 : Fr none' h ((h2.alloc (.cells [.slice none 0 0] 22 false)).put h2.next (some (.cells [.slice av n cv] 22 false))) := ((fr1.trans fr2).alloc _).put _ (.inl (by have := fr1.next; have := fr2.next; omega))
  refine AM.loop_w hp 48 (fun i : Nat => [(0, .slice ao n co), (1, .slice aw n cw), (5, .int .i64 0), (6, .pointer (some ⟨h2.next, 0, none⟩)), (26, .slice ao n co), (27, .int .i64 n), (28, .int .i64 i)])
    (fun i h' => i ≤ n ∧ Fr none' h h' ∧ h2.next < h'.next ∧ h'.get h2.next = some (.cells [.slice av n cv] 22 false) ∧ Ow h' 3 1 (.slice av n cv) n ((allL own waits i).map (.int .i64)))
    (fun i => n - i) (by kernel_rfl) 0 ?_ ?_ ?_
  · simp (maxSteps := 1000000) (disch := first | omega | (simp only [AM.DB, List.length_set, List.length_map]; first | done | omega)) only [AM.RB, Nat.reduceAdd, Nat.reduceMul, Nat.reduceEqDiff, reduceCtorEq, b14_T5]
  · refine ⟨Nat.zero_le _, fr02, Nat.lt_succ_self _, AM.get_put_self rfl (Nat.lt_succ_self _), ?_⟩
    refine hv.same (fun id hi => ?_) rfl
    have := hv.lt hi
    rw [AM.get_put_ne (by omega), AM.get_alloc_ne (by omega)]
  · rintro i h3 ρ ⟨hi, fr3, hlt3, hg3, hv3⟩
    have hl3 := fr3.hl hl
    have ho3 := ho.fr0 fr3
    have hw3 := hw.fr0 fr3
    simp (maxSteps := 1000000) (disch := first | omega | (simp only [AM.DB, List.length_set, List.length_map]; first | done | omega)) only [AM.RB, Nat.reduceAdd, Nat.reduceMul, Nat.reduceEqDiff, reduceCtorEq, b14_T5]
    refine AM.condV_split (fun hlt => ?_) (fun hlt => ?_)
    · simp (maxSteps := 1000000) (disch := first | omega | (simp only [AM.DB, List.length_set, List.length_map]; first | done | omega)) only [AM.RB, Nat.reduceAdd, Nat.reduceMul, Nat.reduceEqDiff, reduceCtorEq, b14_T5, ho3.ia el_22, ho3.ldi lk_3]
      refine along_w rfl rfl fun w1 w2 h4 g1 g2 fr4 hw1 hw2 => ?_
      simp only [AHeap.next_put, AHeap.next_alloc] at hw1 hw2
      have fr34 : Fr none' h3 h4 := (((Fr.refl _ _).alloc _).put _ (.inl (Nat.le_refl _))).trans fr4
      have hl4 := fr34.hl hl3
      have g3 : h4.get h3.next = some (.cells [.int .i64 (own.getD i 0)] 3 false) := by
        rw [fr4.old _ (Nat.lt_succ_self _) (fun q => q), AM.get_put_self rfl (Nat.lt_succ_self _)]; rfl
      have hlt4 : h3.next < h4.next := AM.get_some_lt g3
      have hv4 := hv3.fr0 fr34
      have hg4 : h4.get h2.next = some (.cells [.slice av n cv] 22 false) := fr34.get hg3 (fun q => q)
      simp (maxSteps := 1000000) (disch := first | omega | (simp only [AM.DB, List.length_set, List.length_map]; first | done | omega)) only [AM.RB, Nat.reduceAdd, Nat.reduceMul, Nat.reduceEqDiff, reduceCtorEq, b14_T5]
      let core : Nat → AHeap → Prop := fun k h' => Fr none' h h' ∧ h'.get h2.next = some (.cells [.slice av n cv] 22 false) ∧ h'.get h3.next = some (.cells [.int .i64 (own.getD i 0)] 3 false) ∧
        Ow h' 3 1 (.slice av n cv) n ((bumpL (own.getD i 0) ((alongL waits n (waits.getD i 0)).take k) (allL own waits i)).map (.int .i64))
      refine AM.range_iter hp (R := fun id => id = w1 ∨ id = w2 ∨ idOf (.slice aw n cw) id) (xs := (alongL waits n (waits.getD (i : Int).toNat 0)).map fun x => [.int .i64 x]) (AM.entersV_of Try.func70 rfl) (by kernel_rfl) (by kernel_rfl) ?_ ?_ hl4 ?_
        (fun k => AM.Core h4.next (core k)) (fun _ _ _ => False) ?_ (fun _ => AM.Stab.no) (fun env x => (env.set 36 (x.getD 0 undef)).set 9 (x.getD 0 undef)) ?_ ?_ ?_ ?_ ?_
      · intro x hx; obtain ⟨q, _, rfl⟩ := List.mem_map.1 hx; rfl
      · rintro id (rfl | rfl | hid)
        · exact AM.get_some_lt g1
        · exact AM.get_some_lt g2
        · exact fr34.lt (hw3.lt hid)
      · exact along1_w g1 g2 (hw3.fr0 fr34) (by omega) hn
      · intro k
        refine AM.Core.stab ?_
        rintro a b hab ⟨c1, c2, c3, c4⟩ fr
        refine ⟨c1.then fr fun id h1 h2 => ?_, ?_, ?_, c4.fr fr fun id h1 h2 => ?_⟩
        · have := (fr3.trans fr34).next; omega
        · exact fr.get c2 (by omega)
        · exact fr.get c3 (by omega)
        · have := hv4.lt h1; omega
      · intro x hx h5
        obtain ⟨q, _, rfl⟩ := List.mem_map.1 hx
        simp (maxSteps := 1000000) (disch := first | omega | (simp only [AM.DB, List.length_set, List.length_map]; first | done | omega)) only [AM.RB, Nat.reduceAdd, Nat.reduceMul, Nat.reduceEqDiff, reduceCtorEq, b14_T5]
      · intro o
        have fr5 : Fr none' h4 (h4.alloc o) := (Fr.refl _ _).alloc _
        exact ⟨⟨Nat.le_succ _, fun id e => by omega⟩, (fr3.trans fr34).trans fr5, fr5.get hg4 (fun q => q), fr5.get g3 (fun q => q), hv4.fr0 fr5⟩
      · rintro k x A h5 hx ⟨⟨c0, c0'⟩, c1, c2, c3, c4⟩ hA hL5 hlow5 hR5
        rw [List.getElem?_map] at hx
        obtain ⟨q, hq', rfl⟩ := Option.map_eq_some_iff.1 hx
        simp only [Int.toNat_natCast] at hq'
        have hqm := List.mem_of_getElem? hq'
        have hqr : 0 ≤ q ∧ q < n := by have := alongL_mem waits n _ q hqm; omega
        simp (maxSteps := 1000000) (disch := first | omega | (simp only [AM.DB, List.length_set, List.length_map]; first | done | omega)) only [AM.RB, Nat.reduceAdd, Nat.reduceMul, Nat.reduceEqDiff, reduceCtorEq, b14_T5]
        refine AM.drawW_fine hp (by kernel_rfl) (by kernel_rfl) (by kernel_rfl) ?_
        simp (maxSteps := 1000000) (disch := first | omega | (simp only [AM.DB, List.length_set, List.length_map]; first | done | omega)) only [AM.RB, Nat.reduceAdd, Nat.reduceMul, Nat.reduceEqDiff, reduceCtorEq, b14_T5, c2, c3, c4.ia el_22, c4.rd.ldi lk_3]
        refine c4.st sz_3 (j := q.toNat) (by omega) rfl rfl fun h6 hv6 fr6 hn6 => ?_
        simp (maxSteps := 1000000) (disch := first | omega | (simp only [AM.DB, List.length_set, List.length_map]; first | done | omega)) only [AM.RB, Nat.reduceAdd, Nat.reduceMul, Nat.reduceEqDiff, reduceCtorEq, b14_T5]
        have hsep : ∀ id, idOf (.slice av n cv) id → id < h4.next ∧ h1.next ≤ id ∧ id < h2.next := fun id h1 => ⟨hv4.lt h1, hid id h1, hv.lt h1⟩
        refine ⟨by omega, fr6.low, fun id h7 h8 => fr6.old id h7 fun h9 => ?_, ⟨by omega, c0'⟩, c1.then fr6 fun id h7 h8 => ?_, fr6.get c2 fun h9 => ?_, fr6.get c3 fun h9 => ?_, ?_⟩
        · have h10 := hsep id h9
          rcases h8 with h8 | rfl | rfl | h8
          · have := c0' id h8; omega
          · omega
          · omega
          · have h11 := hw.lt h8; have := fr1.next; omega
        · have h10 := hsep id h8; have := fr1.next; omega
        · have h10 := hsep _ h9; omega
        · have h10 := hsep _ h9; omega
        · have e : (alongL waits n (waits.getD i 0)).take (k + 1) = (alongL waits n (waits.getD i 0)).take k ++ [q] := by rw [List.take_add_one, hq']; rfl
          rw [e, bumpL, List.foldl_append]
          simpa [List.map_set, bumpL] using hv6
      · rintro A h' ⟨_, c1, c2, c3, c4⟩ hA hnx hlw'
        simp (maxSteps := 1000000) (disch := first | omega | (simp only [AM.DB, List.length_set, List.length_map]; first | done | omega)) only [AM.RB, Nat.reduceAdd, Nat.reduceMul, Nat.reduceEqDiff, reduceCtorEq, b14_T5, AM.wrap_i64]
        refine ⟨i + 1, by omega, ?_, by omega, c1, AM.get_some_lt c2, c2, ?_⟩
        · simp (maxSteps := 1000000) (disch := first | omega | (simp only [AM.DB, List.length_set, List.length_map]; first | done | omega)) only [AM.RB, Nat.reduceAdd, Nat.reduceMul, Nat.reduceEqDiff, reduceCtorEq, b14_T5]
        · have e : (alongL waits n (waits.getD i 0)).take ((alongL waits n (waits.getD (i : Int).toNat 0)).map fun x => [Value.int .i64 x]).length = alongL waits n (waits.getD i 0) := by
            rw [List.length_map, Int.toNat_natCast, List.take_length]
          rw [e] at c4
          rw [allL, hlo]; exact c4
      · intro _ _ _ q; exact q.elim
    · simp (maxSteps := 1000000) (disch := first | omega | (simp only [AM.DB, List.length_set, List.length_map]; first | done | omega)) only [AM.RB, Nat.reduceAdd, Nat.reduceMul, Nat.reduceEqDiff, reduceCtorEq, b14_T5, hg3]
      obtain rfl : i = n := by omega
      have fr4 := fr3
      refine hok hokk _ _ hv3 fr3 fun id hidd => ?_
      have := hid id hidd
      have := fr1.next
      omega

end Go.Proofs.Ytodcnfabnlojdaa

namespace Go.Proofs.Ytodcnfabnlojdaa
open Go.AM
set_option maxRecDepth 8000
theorem b16_T6 : type_of% (And.intro (@AM.bin_add) (And.intro (@AM.bin_lss) (And.intro (@AM.bin_neq) (And.intro (@AM.iaO_ok) (And.intro (AM.ia_slice el_22) (And.intro (@AM.ldO_agg) (And.intro (@AM.ldO_one) (And.intro (@AM.ld_ptr) (And.intro (AM.len_slice ul_22) (And.intro (@lk_3) (And.intro (@AM.op_binOp) (And.intro (@AM.op_indexAddr) (And.intro (@AM.op_len) (@AM.op_load)))))))))))))) := And.intro (@AM.bin_add) (And.intro (@AM.bin_lss) (And.intro (@AM.bin_neq) (And.intro (@AM.iaO_ok) (And.intro (AM.ia_slice el_22) (And.intro (@AM.ldO_agg) (And.intro (@AM.ldO_one) (And.intro (@AM.ld_ptr) (And.intro (AM.len_slice ul_22) (And.intro (@lk_3) (And.intro (@AM.op_binOp) (And.intro (@AM.op_indexAddr) (And.intro (@AM.op_len) (@AM.op_load)))))))))))))


theorem same_w {sa sb : Value} {na nb : Nat} {la lb : List Int} {h : AHeap} (ha : Rd h 3 1 sa na (la.map (.int .i64))) (hb : Rd h 3 1 sb nb (lb.map (.int .i64))) (hn : na ≤ 4000000000) {Q : VQ}
    (hq : Q (.bool (decide (la = lb))) h) : W 16 [sa, sb] h Q := by
  obtain ⟨aa, ca, rfl⟩ := ha.form
  obtain ⟨ab, cb, rfl⟩ := hb.form
  have hla : la.length = na := by simpa using ha.length
  have hlb : lb.length = nb := by simpa using hb.length
  refine AM.enter hp (fn := Try.f16) (rs := [.tmp 4]) (nt := 26) (by kernel_rfl) Try.func16 rfl rfl rfl (by kernel_rfl) ?_
  simp (maxSteps := 1000000) (disch := first | omega | (simp only [AM.DB, List.length_set, List.length_map]; first | done | omega)) only [AM.RB, Nat.reduceAdd, Nat.reduceMul, Nat.reduceEqDiff, reduceCtorEq, b16_T6]
  refine AM.condV_split (fun he => ?_) (fun he => ?_)
  case' refine_2 =>
    simp (maxSteps := 1000000) (disch := first | omega | (simp only [AM.DB, List.length_set, List.length_map]; first | done | omega)) only [AM.RB, Nat.reduceAdd, Nat.reduceMul, Nat.reduceEqDiff, reduceCtorEq, b16_T6]
    have : decide (la = lb) = false := by
      rw [decide_eq_false_iff_not]; rintro rfl; omega
    rw [this] at hq; exact hq
  have he' : na = nb := by omega
  subst he'
  simp (maxSteps := 1000000) (disch := first | omega | (simp only [AM.DB, List.length_set, List.length_map]; first | done | omega)) only [AM.RB, Nat.reduceAdd, Nat.reduceMul, Nat.reduceEqDiff, reduceCtorEq, b16_T6]
  refine AM.loop_w hp 26 (fun i : Nat => [(0, .slice aa na ca), (1, .slice ab na cb), (12, .int .i64 na), (13, .int .i64 i)])
    (fun i h' => i ≤ na ∧ h' = h ∧ ∀ j, j < i → la.getD j 0 = lb.getD j 0) (fun i => na - i) (by kernel_rfl) 0 ?_ ?_ ?_
  · simp (maxSteps := 1000000) (disch := first | omega | (simp only [AM.DB, List.length_set, List.length_map]; first | done | omega)) only [AM.RB, Nat.reduceAdd, Nat.reduceMul, Nat.reduceEqDiff, reduceCtorEq, b16_T6]
  · exact ⟨Nat.zero_le _, rfl, fun j hj => by omega⟩
  · rintro i h1 ρ ⟨hi, rfl, hall⟩
    simp (maxSteps := 1000000) (disch := first | omega | (simp only [AM.DB, List.length_set, List.length_map]; first | done | omega)) only [AM.RB, Nat.reduceAdd, Nat.reduceMul, Nat.reduceEqDiff, reduceCtorEq, b16_T6]
    refine AM.condV_split (fun hlt => ?_) (fun hlt => ?_)
    · simp (maxSteps := 1000000) (disch := first | omega | (simp only [AM.DB, List.length_set, List.length_map]; first | done | omega)) only [AM.RB, Nat.reduceAdd, Nat.reduceMul, Nat.reduceEqDiff, reduceCtorEq, b16_T6]
      refine AM.drawW_fine hp (by kernel_rfl) (by kernel_rfl) (by kernel_rfl) ?_
      simp (maxSteps := 1000000) (disch := first | omega | (simp only [AM.DB, List.length_set, List.length_map]; first | done | omega)) only [AM.RB, Nat.reduceAdd, Nat.reduceMul, Nat.reduceEqDiff, reduceCtorEq, b16_T6, ha.ia el_22, ha.ldi lk_3, hb.ia el_22, hb.ldi lk_3]
      refine AM.condV_split (fun heq => ?_) (fun heq => ?_)
      · simp (maxSteps := 1000000) (disch := first | omega | (simp only [AM.DB, List.length_set, List.length_map]; first | done | omega)) only [AM.RB, Nat.reduceAdd, Nat.reduceMul, Nat.reduceEqDiff, reduceCtorEq, b16_T6, AM.wrap_i64]
        refine ⟨i + 1, by omega, ?_, by omega, fun j hj => ?_⟩
        · simp (maxSteps := 1000000) (disch := first | omega | (simp only [AM.DB, List.length_set, List.length_map]; first | done | omega)) only [AM.RB, Nat.reduceAdd, Nat.reduceMul, Nat.reduceEqDiff, reduceCtorEq, b16_T6]
        · by_cases e : j = i
          · subst e; simpa using heq
          · exact hall j (by omega)
      · simp (maxSteps := 1000000) (disch := first | omega | (simp only [AM.DB, List.length_set, List.length_map]; first | done | omega)) only [AM.RB, Nat.reduceAdd, Nat.reduceMul, Nat.reduceEqDiff, reduceCtorEq, b16_T6]
        have : decide (la = lb) = false := by
          rw [decide_eq_false_iff_not]; rintro rfl; exact heq rfl
        rw [this] at hq; exact hq
    · simp (maxSteps := 1000000) (disch := first | omega | (simp only [AM.DB, List.length_set, List.length_map]; first | done | omega)) only [AM.RB, Nat.reduceAdd, Nat.reduceMul, Nat.reduceEqDiff, reduceCtorEq, b16_T6]
      have : decide (la = lb) = true := by
        rw [decide_eq_true_iff]
        refine List.ext_getElem (by omega) fun j h2 h3 => ?_
        have := hall j (by omega)
        simpa [List.getD, h2, h3] using this
      rw [this] at hq; exact hq

end Go.Proofs.Ytodcnfabnlojdaa

namespace Go.Proofs.Ytodcnfabnlojdaa
open Go.AM
set_option maxRecDepth 8000
end Go.Proofs.Ytodcnfabnlojdaa

namespace Go.Proofs.Ytodcnfabnlojdaa
open Go.AM
set_option maxRecDepth 8000
end Go.Proofs.Ytodcnfabnlojdaa

namespace Go.Proofs.Ytodcnfabnlojdaa
open Go.AM

/-! ### What robots gave: robots, each once, and priorities -/
abbrev IL := List (Int × Int)
def vL (L : IL) : List (Int × Value) := L.map fun q => (q.1, .int .i64 q.2)
def getI : IL → Int → Option Int
  | [], _ => none
  | (k, v) :: l, x => if x = k then some v else getI l x
def setI : IL → Int → Int → IL
  | [], x, v => [(x, v)]
  | (k, w) :: l, x, v => if x = k then (x, v) :: l else (k, w) :: setI l x v
def delI : IL → Int → IL
  | [], _ => []
  | (k, w) :: l, x => if x = k then l else (k, w) :: delI l x
theorem vL_get : ∀ (L : IL) (x : Int), mgetL (vL L) x = (getI L x).map (Value.int .i64)
  | [], _ => rfl
  | (k, v) :: l, x => by
    show mgetL ((k, .int .i64 v) :: vL l) x = _
    unfold mgetL getI
    split
    · rfl
    · exact vL_get l x
theorem vL_set : ∀ (L : IL) (x v : Int), msetL (vL L) x (.int .i64 v) = vL (setI L x v)
  | [], _, _ => rfl
  | (k, w) :: l, x, v => by
    show msetL ((k, .int .i64 w) :: vL l) x _ = _
    unfold msetL setI
    split
    · rfl
    · show _ = (k, Value.int .i64 w) :: vL (setI l x v)
      rw [← vL_set l x v]
theorem vL_del : ∀ (L : IL) (x : Int), mdelL (vL L) x = vL (delI L x)
  | [], _ => rfl
  | (k, w) :: l, x => by
    show mdelL ((k, .int .i64 w) :: vL l) x = _
    unfold mdelL delI
    split
    · rfl
    · show _ = (k, Value.int .i64 w) :: vL (delI l x)
      rw [← vL_del l x]
theorem delI_none : ∀ {L : IL} {x : Int}, getI L x = none → delI L x = L
  | [], _, _ => rfl
  | (k, w) :: l, x, h => by
    unfold getI at h
    split at h
    · cases h
    · rename_i hk
      unfold delI
      rw [if_neg hk, delI_none h]
def nowL (o : Int) (L : IL) : Int := (L.map (·.2)).foldr max o
def fromL (L : IL) : List Int := (L.map (·.1)).mergeSort Go.leI
/-- Robots and priorities that may be. -/
def fitI (q : Int × Int) : Prop := (0 ≤ q.1 ∧ q.1 < 64) ∧ 0 ≤ q.2 ∧ q.2 ≤ 15
def okI (L : IL) : Prop := (∀ q ∈ L, fitI q) ∧ (L.map (·.1)).Nodup
theorem okI_nil : okI [] := ⟨by simp, by simp⟩
theorem setI_keys : ∀ (L : IL) (x v : Int), (setI L x v).map (·.1) = if x ∈ L.map (·.1) then L.map (·.1) else L.map (·.1) ++ [x]
  | [], x, v => by simp [setI]
  | (k, w) :: l, x, v => by
    unfold setI
    split
    · rename_i e; subst e; simp
    · rename_i e
      rw [List.map_cons, setI_keys l x v]
      by_cases h : x ∈ l.map (·.1)
      · rw [if_pos h, if_pos (by simp only [List.map_cons, List.mem_cons]; exact .inr h)]; rfl
      · rw [if_neg h, if_neg (by simp only [List.map_cons, List.mem_cons]; exact fun q => q.elim e h)]; rfl
theorem setI_mem : ∀ {L : IL} {x v : Int} {q : Int × Int}, q ∈ setI L x v → q ∈ L ∨ q = (x, v)
  | [], x, v, q, h => by simp [setI] at h; exact .inr h
  | (k, w) :: l, x, v, q, h => by
    unfold setI at h
    split at h
    · rcases List.mem_cons.1 h with h | h
      · exact .inr h
      · exact .inl (List.mem_cons_of_mem _ h)
    · rcases List.mem_cons.1 h with h | h
      · exact .inl (by rw [h]; exact List.mem_cons_self)
      · exact (setI_mem h).imp (List.mem_cons_of_mem _) id
theorem delI_sub : ∀ (L : IL) (x : Int), (delI L x).Sublist L
  | [], _ => List.Sublist.refl _
  | (k, w) :: l, x => by
    unfold delI
    split
    · exact List.sublist_cons_self _ _
    · exact (delI_sub l x).cons_cons _
theorem okI.set {L : IL} (ok : okI L) {x v : Int} (hx : fitI (x, v)) : okI (setI L x v) := by
  refine ⟨fun q hq => (setI_mem hq).elim (ok.1 q) (fun e => by rw [e]; exact hx), ?_⟩
  rw [setI_keys]
  split
  · exact ok.2
  · rename_i h
    rw [List.nodup_append]
    exact ⟨ok.2, by simp, fun a ha b hb e => by simp at hb; subst hb; exact h (e ▸ ha)⟩
theorem okI.del {L : IL} (ok : okI L) (x : Int) : okI (delI L x) := ⟨fun q hq => ok.1 q ((delI_sub L x).subset hq), ((delI_sub L x).map _).nodup ok.2⟩
/-- No more than 64. -/
theorem okI.len {L : IL} (ok : okI L) : L.length ≤ 64 := by
  have h1 : (L.map (·.1)).Perm (((List.range 64).map Int.ofNat).filter fun x => decide (x ∈ L.map (·.1))) := by
    refine (List.perm_ext_iff_of_nodup ok.2 ?_).2 fun x => ?_
    · exact List.filter_sublist.nodup (by decide)
    · simp only [List.mem_filter, decide_eq_true_eq]
      refine ⟨fun hx => ⟨?_, hx⟩, fun h => h.2⟩
      obtain ⟨q, hq, rfl⟩ := List.mem_map.1 hx
      have := (ok.1 q hq).1
      exact List.mem_map.2 ⟨q.1.toNat, List.mem_range.2 (by omega), by show ((q.1.toNat : Nat) : Int) = q.1; omega⟩
  have h2 := h1.length_eq
  have h3 := List.length_filter_le (fun x => decide (x ∈ L.map (·.1))) ((List.range 64).map Int.ofNat)
  simp only [List.length_map, List.length_range] at h2 h3
  omega
theorem okI.es {L : IL} (ok : okI L) : okEs (encM (vL L)) = true := by
  have h1 := ok.len
  unfold okEs
  simp only [Bool.and_eq_true, decide_eq_true_eq, List.all_eq_true]
  refine ⟨by simp [encM, vL]; unfold roomy; omega, fun p hp => ?_⟩
  simp only [encM, vL, List.map_map, List.mem_map, Function.comp] at hp
  obtain ⟨q, hq, rfl⟩ := hp
  obtain ⟨⟨a, b⟩, c, d⟩ := ok.1 q hq
  have w : ∀ n : Int, 0 ≤ n → n < 64 → isW64 (.int .i64 n) = true := fun n h0 h1 => by
    have e1 : IntKind.i64.min = -9223372036854775808 := by decide
    have e2 : IntKind.i64.max = 9223372036854775807 := by decide
    unfold isW64
    simp only [Lit.wf, e1, e2, Bool.and_eq_true, decide_eq_true_eq]
    omega
  exact ⟨w _ a b, w _ c (by omega)⟩
end Go.Proofs.Ytodcnfabnlojdaa

namespace Go.Proofs.Ytodcnfabnlojdaa
open Go.AM
set_option maxRecDepth 8000
theorem b58_IH6 : type_of% (And.intro (@AM.bin_neq) (And.intro (@AM.op_binOp) (@AM.op_call))) := And.intro (@AM.bin_neq) (And.intro (@AM.op_binOp) (@AM.op_call))
theorem b63_IH6 : type_of% (And.intro (@AM.fa_ptr) (And.intro (@fd_45_0) (And.intro (@AM.ldO_agg) (And.intro (@AM.ldO_one) (And.intro (@AM.ld_ptr) (And.intro (@lk_3) (And.intro (@lk_72) (And.intro (@AM.op_fieldAddr) (And.intro (@AM.op_load) (And.intro (@AM.op_nilCheck) (And.intro (@AM.op_store) (And.intro (@AM.stO_agg) (And.intro (@AM.stO_bool) (And.intro (@AM.stO_int) (And.intro (@AM.stO_map) (And.intro (@AM.stO_pointer) (And.intro (@AM.stO_slice) (And.intro (@AM.stO_string) (And.intro (@AM.st_ptr) (@sz_3)))))))))))))))))))) := And.intro (@AM.fa_ptr) (And.intro (@fd_45_0) (And.intro (@AM.ldO_agg) (And.intro (@AM.ldO_one) (And.intro (@AM.ld_ptr) (And.intro (@lk_3) (And.intro (@lk_72) (And.intro (@AM.op_fieldAddr) (And.intro (@AM.op_load) (And.intro (@AM.op_nilCheck) (And.intro (@AM.op_store) (And.intro (@AM.stO_agg) (And.intro (@AM.stO_bool) (And.intro (@AM.stO_int) (And.intro (@AM.stO_map) (And.intro (@AM.stO_pointer) (And.intro (@AM.stO_slice) (And.intro (@AM.stO_string) (And.intro (@AM.st_ptr) (@sz_3)))))))))))))))))))
theorem b59_IH6 : type_of% (And.intro (@Option.isNone_none.{0}) (And.intro (@Option.isNone_some.{0}) (And.intro (AM.bin_mnil ul_43) (And.intro (@AM.fa_ptr) (And.intro (@fd_45_1) (And.intro (@AM.ldO_agg) (And.intro (@AM.ldO_one) (And.intro (@AM.ld_ptr) (And.intro (@lk_3) (And.intro (@lk_43) (And.intro (@lk_72) (And.intro (@AM.op_binOp) (And.intro (@AM.op_fieldAddr) (And.intro (@AM.op_load) (And.intro (@AM.op_makeMap0) (And.intro (@AM.op_mapUpdate) (And.intro (@AM.op_nilCheck) (And.intro (@AM.op_store) (And.intro (@AM.stO_agg) (And.intro (@AM.stO_bool) (And.intro (@AM.stO_int) (And.intro (@AM.stO_map) (And.intro (@AM.stO_pointer) (And.intro (@AM.stO_slice) (And.intro (@AM.stO_string) (And.intro (@AM.st_ptr) (@sz_43))))))))))))))))))))))))))) := And.intro (@Option.isNone_none.{0}) (And.intro (@Option.isNone_some.{0}) (And.intro (AM.bin_mnil ul_43) (And.intro (@AM.fa_ptr) (And.intro (@fd_45_1) (And.intro (@AM.ldO_agg) (And.intro (@AM.ldO_one) (And.intro (@AM.ld_ptr) (And.intro (@lk_3) (And.intro (@lk_43) (And.intro (@lk_72) (And.intro (@AM.op_binOp) (And.intro (@AM.op_fieldAddr) (And.intro (@AM.op_load) (And.intro (@AM.op_makeMap0) (And.intro (@AM.op_mapUpdate) (And.intro (@AM.op_nilCheck) (And.intro (@AM.op_store) (And.intro (@AM.stO_agg) (And.intro (@AM.stO_bool) (And.intro (@AM.stO_int) (And.intro (@AM.stO_map) (And.intro (@AM.stO_pointer) (And.intro (@AM.stO_slice) (And.intro (@AM.stO_string) (And.intro (@AM.st_ptr) (@sz_43))))))))))))))))))))))))))
theorem b62_IH6 : type_of% (And.intro (@AM.fa_ptr) (And.intro (@fd_45_1) (And.intro (@AM.ldO_agg) (And.intro (@AM.ldO_one) (And.intro (@AM.ld_ptr) (And.intro (@lk_3) (And.intro (@lk_43) (And.intro (@lk_72) (And.intro (@AM.op_delete) (And.intro (@AM.op_fieldAddr) (And.intro (@AM.op_load) (@AM.op_nilCheck)))))))))))) := And.intro (@AM.fa_ptr) (And.intro (@fd_45_1) (And.intro (@AM.ldO_agg) (And.intro (@AM.ldO_one) (And.intro (@AM.ld_ptr) (And.intro (@lk_3) (And.intro (@lk_43) (And.intro (@lk_72) (And.intro (@AM.op_delete) (And.intro (@AM.op_fieldAddr) (And.intro (@AM.op_load) (@AM.op_nilCheck)))))))))))
theorem b68_IH6 : type_of% (And.intro (@AM.fa_ptr) (And.intro (@fd_45_1) (And.intro (@AM.ldO_agg) (And.intro (@AM.ldO_one) (And.intro (@AM.ld_ptr) (And.intro (@lk_43) (And.intro (@lk_72) (And.intro (@AM.op_clear) (And.intro (@AM.op_fieldAddr) (And.intro (@AM.op_load) (@AM.op_nilCheck))))))))))) := And.intro (@AM.fa_ptr) (And.intro (@fd_45_1) (And.intro (@AM.ldO_agg) (And.intro (@AM.ldO_one) (And.intro (@AM.ld_ptr) (And.intro (@lk_43) (And.intro (@lk_72) (And.intro (@AM.op_clear) (And.intro (@AM.op_fieldAddr) (And.intro (@AM.op_load) (@AM.op_nilCheck))))))))))
theorem b28_IH6 : type_of% (And.intro (@List.map_toArray.{0,0}) (And.intro (@Option.isNone_none.{0}) (And.intro (@Option.isNone_some.{0}) (And.intro (AM.bin_pnil ul_72) (And.intro (@AM.boxK_agg) (And.intro (@AM.boxK_bool) (And.intro (@AM.boxK_func) (And.intro (@AM.boxK_int) (And.intro (@AM.boxK_map) (And.intro (@AM.boxK_pointer) (And.intro (@AM.boxK_slice) (And.intro (@AM.boxK_string) (And.intro (@AM.ldO_agg) (And.intro (@AM.ldO_one) (And.intro (@AM.ld_ptr) (And.intro (@lk_3) (And.intro (@lk_72) (And.intro (@AM.op_binOp) (And.intro (@AM.op_box) (And.intro (@AM.op_call) (And.intro (@AM.op_load) (And.intro (@AM.op_makeFunc) (And.intro (@AM.op_unOp) (And.intro (@AM.resL_two) (And.intro (@AM.un_neg) (@AM.un_not)))))))))))))))))))))))))) := And.intro (@List.map_toArray.{0,0}) (And.intro (@Option.isNone_none.{0}) (And.intro (@Option.isNone_some.{0}) (And.intro (AM.bin_pnil ul_72) (And.intro (@AM.boxK_agg) (And.intro (@AM.boxK_bool) (And.intro (@AM.boxK_func) (And.intro (@AM.boxK_int) (And.intro (@AM.boxK_map) (And.intro (@AM.boxK_pointer) (And.intro (@AM.boxK_slice) (And.intro (@AM.boxK_string) (And.intro (@AM.ldO_agg) (And.intro (@AM.ldO_one) (And.intro (@AM.ld_ptr) (And.intro (@lk_3) (And.intro (@lk_72) (And.intro (@AM.op_binOp) (And.intro (@AM.op_box) (And.intro (@AM.op_call) (And.intro (@AM.op_load) (And.intro (@AM.op_makeFunc) (And.intro (@AM.op_unOp) (And.intro (@AM.resL_two) (And.intro (@AM.un_neg) (@AM.un_not)))))))))))))))))))))))))
theorem b24_IH6 : type_of% (And.intro (@List.map_toArray.{0,0}) (And.intro (@Option.isNone_none.{0}) (And.intro (@Option.isNone_some.{0}) (And.intro (@AM.bin_geq) (And.intro (@AM.bin_lss) (And.intro (AM.bin_pnil ul_72) (And.intro (@AM.boxK_agg) (And.intro (@AM.boxK_bool) (And.intro (@AM.boxK_func) (And.intro (@AM.boxK_int) (And.intro (@AM.boxK_map) (And.intro (@AM.boxK_pointer) (And.intro (@AM.boxK_slice) (And.intro (@AM.boxK_string) (And.intro (@AM.ldO_agg) (And.intro (@AM.ldO_one) (And.intro (@AM.ld_ptr) (And.intro (@lk_3) (And.intro (@lk_72) (And.intro (@AM.op_binOp) (And.intro (@AM.op_box) (And.intro (@AM.op_call) (And.intro (@AM.op_load) (And.intro (@AM.op_makeFunc) (And.intro (@AM.op_unOp) (And.intro (@AM.resL_two) (And.intro (@AM.un_neg) (@AM.un_not)))))))))))))))))))))))))))) := And.intro (@List.map_toArray.{0,0}) (And.intro (@Option.isNone_none.{0}) (And.intro (@Option.isNone_some.{0}) (And.intro (@AM.bin_geq) (And.intro (@AM.bin_lss) (And.intro (AM.bin_pnil ul_72) (And.intro (@AM.boxK_agg) (And.intro (@AM.boxK_bool) (And.intro (@AM.boxK_func) (And.intro (@AM.boxK_int) (And.intro (@AM.boxK_map) (And.intro (@AM.boxK_pointer) (And.intro (@AM.boxK_slice) (And.intro (@AM.boxK_string) (And.intro (@AM.ldO_agg) (And.intro (@AM.ldO_one) (And.intro (@AM.ld_ptr) (And.intro (@lk_3) (And.intro (@lk_72) (And.intro (@AM.op_binOp) (And.intro (@AM.op_box) (And.intro (@AM.op_call) (And.intro (@AM.op_load) (And.intro (@AM.op_makeFunc) (And.intro (@AM.op_unOp) (And.intro (@AM.resL_two) (And.intro (@AM.un_neg) (@AM.un_not)))))))))))))))))))))))))))
theorem b27_IH6 : type_of% (And.intro (@List.map_toArray.{0,0}) (And.intro (@Option.isNone_none.{0}) (And.intro (@Option.isNone_some.{0}) (And.intro (AM.bin_pnil' ul_72) (And.intro (@AM.boxK_agg) (And.intro (@AM.boxK_bool) (And.intro (@AM.boxK_func) (And.intro (@AM.boxK_int) (And.intro (@AM.boxK_map) (And.intro (@AM.boxK_pointer) (And.intro (@AM.boxK_slice) (And.intro (@AM.boxK_string) (And.intro (@AM.ldO_agg) (And.intro (@AM.ldO_one) (And.intro (@AM.ld_ptr) (And.intro (@lk_72) (And.intro (@AM.op_binOp) (And.intro (@AM.op_box) (And.intro (@AM.op_call) (And.intro (@AM.op_load) (@AM.op_makeFunc))))))))))))))))))))) := And.intro (@List.map_toArray.{0,0}) (And.intro (@Option.isNone_none.{0}) (And.intro (@Option.isNone_some.{0}) (And.intro (AM.bin_pnil' ul_72) (And.intro (@AM.boxK_agg) (And.intro (@AM.boxK_bool) (And.intro (@AM.boxK_func) (And.intro (@AM.boxK_int) (And.intro (@AM.boxK_map) (And.intro (@AM.boxK_pointer) (And.intro (@AM.boxK_slice) (And.intro (@AM.boxK_string) (And.intro (@AM.ldO_agg) (And.intro (@AM.ldO_one) (And.intro (@AM.ld_ptr) (And.intro (@lk_72) (And.intro (@AM.op_binOp) (And.intro (@AM.op_box) (And.intro (@AM.op_call) (And.intro (@AM.op_load) (@AM.op_makeFunc))))))))))))))))))))
theorem b45_IH6 : type_of% (And.intro (@List.map_toArray.{0,0}) (And.intro (@Option.isNone_none.{0}) (And.intro (@Option.isNone_some.{0}) (And.intro (AM.bin_pnil' ul_72) (And.intro (@AM.boxK_agg) (And.intro (@AM.boxK_bool) (And.intro (@AM.boxK_func) (And.intro (@AM.boxK_int) (And.intro (@AM.boxK_map) (And.intro (@AM.boxK_pointer) (And.intro (@AM.boxK_slice) (And.intro (@AM.boxK_string) (And.intro (@AM.ldO_agg) (And.intro (@AM.ldO_one) (And.intro (@AM.ld_ptr) (And.intro (@lk_72) (And.intro (@AM.op_binOp) (And.intro (@AM.op_box) (And.intro (@AM.op_call) (And.intro (@AM.op_load) (@AM.op_makeFunc))))))))))))))))))))) := And.intro (@List.map_toArray.{0,0}) (And.intro (@Option.isNone_none.{0}) (And.intro (@Option.isNone_some.{0}) (And.intro (AM.bin_pnil' ul_72) (And.intro (@AM.boxK_agg) (And.intro (@AM.boxK_bool) (And.intro (@AM.boxK_func) (And.intro (@AM.boxK_int) (And.intro (@AM.boxK_map) (And.intro (@AM.boxK_pointer) (And.intro (@AM.boxK_slice) (And.intro (@AM.boxK_string) (And.intro (@AM.ldO_agg) (And.intro (@AM.ldO_one) (And.intro (@AM.ld_ptr) (And.intro (@lk_72) (And.intro (@AM.op_binOp) (And.intro (@AM.op_box) (And.intro (@AM.op_call) (And.intro (@AM.op_load) (@AM.op_makeFunc))))))))))))))))))))


/-- A holder in memory: where its map lies, if it has one. -/
def own (p : Nat) (mo : Option Nat) (id : Nat) : Prop := id = p ∨ mo = some id
def Hd (h : AHeap) (p : Nat) (mo : Option Nat) (o : Int) (L : IL) : Prop :=
  h.get p = some (.cells [.int .i64 o, .map mo] 45 false) ∧ h.low ≤ p ∧ mo ≠ some p ∧
    match mo with
    | none => L = []
    | some m => h.get m = some (.map (encM (vL L))) ∧ h.low ≤ m
theorem Hd.fr {S : Nat → Prop} {h h' : AHeap} {p : Nat} {mo : Option Nat} {o : Int} {L : IL} (x : Hd h p mo o L) (fr : Fr S h h') (hS : ∀ id, own p mo id → ¬ S id) : Hd h' p mo o L := by
  obtain ⟨g, hl, hne, hm⟩ := x
  refine ⟨fr.get g (hS p (.inl rfl)), by rw [fr.low]; exact hl, hne, ?_⟩
  cases mo with
  | none => exact hm
  | some m => exact ⟨fr.get hm.1 (hS m (.inr rfl)), by rw [fr.low]; exact hm.2⟩
theorem Hd.fr0 {h h' : AHeap} {p : Nat} {mo : Option Nat} {o : Int} {L : IL} (x : Hd h p mo o L) (fr : Fr none' h h') : Hd h' p mo o L := x.fr fr fun _ _ q => q
theorem Hd.lt {h : AHeap} {p : Nat} {mo : Option Nat} {o : Int} {L : IL} (x : Hd h p mo o L) {id : Nat} (hi : own p mo id) : id < h.next := by
  obtain ⟨g, hl, hne, hm⟩ := x
  rcases hi with rfl | rfl
  · exact AM.get_some_lt g
  · exact AM.get_some_lt hm.1

theorem now_w {h : AHeap} {p : Nat} {mo : Option Nat} {o : Int} {L : IL} (x : Hd h p mo o L) (ok : okI L) {Q : VQ} (hq : Q (.int .i64 (nowL o L)) h) : W 25 [pv p] h Q := by
  obtain ⟨g, hl, hne, hm⟩ := x
  refine AM.callW_prim hp (p := pNow) (by unfold prims; rfl) ⟨0, ?_⟩ hq
  show pNow _ _ _ = _
  unfold pNow
  have hl' := hl
  cases mo with
  | none =>
    subst hm
    simp only [Array.toList_empty, List.nil_append, List.append_nil, pv, g]
    simp [hl', nowL]
  | some m =>
    simp only [Array.toList_empty, List.nil_append, List.append_nil, pv, g]
    simp only [List.getElem?_cons_zero, List.getElem?_cons_succ, hm.1, hl', ok.es, and_self, if_true, nowL]
    simp [encM, vL, List.map_map, Function.comp_def, valOf]
theorem nownil_w {h : AHeap} {Q : VQ} (hq : Q (.int .i64 0) h) : W 25 [.pointer none] h Q :=
  AM.callW_prim hp (p := pNow) (by unfold prims; rfl) ⟨0, rfl⟩ hq
theorem fromL_len (L : IL) : (fromL L).length = L.length := by simp [fromL]
theorem from_w {h : AHeap} {p : Nat} {mo : Option Nat} {o : Int} {L : IL} (x : Hd h p mo o L) (ok : okI L) {Q : VQ}
    (hq : ∀ v h', Ow h' 3 1 v L.length ((fromL L).map (.int .i64)) → Fr none' h h' → (∀ id, idOf v id → h.next ≤ id) → Q v h') : W 26 [pv p] h Q := by
  obtain ⟨g, hl, hne, hm⟩ := x
  have hlow : h.low ≤ h.next := by have := AM.get_some_lt g; omega
  have key : ∃ v h', pFrom (callE Try.prog prims 0) [pv p] h = some (v, h') ∧ Q v h' := by
    unfold pFrom
    have hl' := hl
    cases mo with
    | none =>
      subst hm
      refine ⟨.slice none 0 0, h, ?_, hq _ _ (by simpa [fromL] using Ow.nil h 3 1) (Fr.refl _ _) (fun id q => q.elim)⟩
      simp only [pv, g]
      simp [hl']
    | some m =>
      by_cases h0 : L.length = 0
      · have := List.eq_nil_of_length_eq_zero h0
        subst this
        refine ⟨.slice none 0 0, h, ?_, hq _ _ (by simpa [fromL] using Ow.nil h 3 1) (Fr.refl _ _) (fun id q => q.elim)⟩
        have e := ok.es
        simp only [pv, g]
        simp only [List.getElem?_cons_zero, List.getElem?_cons_succ, hm.1, hl', e, and_self, if_true]
        rfl
      · have hle : (encM (vL L)).length = L.length := by simp [encM, vL]
        have hk : ((encM (vL L)).map fun p => valOf p.1) = L.map (·.1) := by simp [encM, vL, List.map_map, Function.comp_def, valOf]
        refine ⟨sliceTo h.next 0 L.length L.length, h.alloc (.cells ((fromL L).map (.int .i64)) 3 true), ?_, hq _ _ ?_ ((Fr.refl _ _).alloc _) (fun id q => by have q : id = h.next := q; omega)⟩
        · simp only [pv, g]
          simp only [List.getElem?_cons_zero, List.getElem?_cons_succ, hm.1, hl', ok.es, and_self, if_true, hle, if_neg h0, hk]
          rfl
        · have hfl := fromL_len L
          refine .inr ⟨h.next, 0, L.length, (fromL L).map (.int .i64), true, rfl, Nat.le_refl _, by rw [AHeap.get_alloc, if_pos rfl], by simp [hfl], by simp [List.take_of_length_le, hfl], hlow⟩
  obtain ⟨v, h', e, q⟩ := key
  exact AM.callW_prim hp (p := pFrom) (by unfold prims; rfl) ⟨0, e⟩ q
theorem fromnil_w {h : AHeap} {Q : VQ} (hq : Q (.slice none 0 0) h) : W 26 [.pointer none] h Q :=
  AM.callW_prim hp (p := pFrom) (by unfold prims; rfl) ⟨0, rfl⟩ hq

/-- What a call of a holder leaves. -/
def HdTo (h : AHeap) (p : Nat) (mo : Option Nat) (o : Int) (L : IL) (K : AHeap → Prop) : Prop :=
  ∀ h' mo', Hd h' p mo' o L → Fr (own p mo) h h' → (∀ id, mo' = some id → mo = some id ∨ h.next ≤ id) → K h'

theorem turned_w {h : AHeap} {p : Nat} {mo : Option Nat} {o o' : Int} {L L' : IL} {f : Value} (x : Hd h p mo o L) (ok : okI L) (ok' : okI L')
    (hf : ∀ Q : VQ, HdTo h p mo o' L' (fun h' => Q (.tuple #[]) h') → CallW Try.prog prims f [] h Q) {Q : VQ} (hq : HdTo h p mo o' L' fun h' => Q (.bool (decide (nowL o' L' ≠ nowL o L))) h') : W 58 [pv p, f] h Q := by
  refine AM.enter hp (fn := Try.f58) (rs := [.tmp 4]) (nt := 14) (by kernel_rfl) Try.func58 rfl rfl rfl (by kernel_rfl) ?_
  simp (maxSteps := 1000000) (disch := first | omega | (simp only [AM.DB, List.length_set, List.length_map]; first | done | omega)) only [AM.RB, Nat.reduceAdd, Nat.reduceMul, Nat.reduceEqDiff, reduceCtorEq, b58_IH6]
  refine now_w x ok ?_
  simp (maxSteps := 1000000) (disch := first | omega | (simp only [AM.DB, List.length_set, List.length_map]; first | done | omega)) only [AM.RB, Nat.reduceAdd, Nat.reduceMul, Nat.reduceEqDiff, reduceCtorEq, b58_IH6]
  refine hf _ fun h1 mo1 x1 fr1 hm1 => ?_
  simp (maxSteps := 1000000) (disch := first | omega | (simp only [AM.DB, List.length_set, List.length_map]; first | done | omega)) only [AM.RB, Nat.reduceAdd, Nat.reduceMul, Nat.reduceEqDiff, reduceCtorEq, b58_IH6]
  refine now_w x1 ok' ?_
  simp (maxSteps := 1000000) (disch := first | omega | (simp only [AM.DB, List.length_set, List.length_map]; first | done | omega)) only [AM.RB, Nat.reduceAdd, Nat.reduceMul, Nat.reduceEqDiff, reduceCtorEq, b58_IH6]
  have e : (!decide (nowL o' L' = nowL o L)) = decide (nowL o' L' ≠ nowL o L) := by simp
  first
    | exact hq h1 mo1 x1 fr1 hm1
    | (rw [e]; exact hq h1 mo1 x1 fr1 hm1)
    | (have := hq h1 mo1 x1 fr1 hm1; simpa using this)

theorem own1_w {h : AHeap} {p a b : Nat} {mo : Option Nat} {o v : Int} {L : IL} {e1 e2 : TypeId} {o1 o2 : Bool} (x : Hd h p mo o L) (g1 : h.get a = some (.cells [.int .i64 v] e1 o1)) (g2 : h.get b = some (.cells [pv p] e2 o2)) {Q : VQ} (hq : HdTo h p mo v L fun h' => Q (.tuple #[]) h') :
    CallW Try.prog prims (.func (.func 63) #[] #[pv a, pv b]) [] h Q := by
  obtain ⟨g, hl, hne, hm⟩ := x
  have hlt := AM.get_some_lt g
  refine AM.enter hp (fn := Try.f63) (rs := []) (nt := 6) (by kernel_rfl) Try.func63 rfl rfl rfl (by kernel_rfl) ?_
  simp (maxSteps := 1000000) (disch := first | omega | (simp only [AM.DB, List.length_set, List.length_map]; first | done | omega)) only [AM.RB, Nat.reduceAdd, Nat.reduceMul, Nat.reduceEqDiff, reduceCtorEq, b63_IH6, g1, g2, g]
  refine hq _ mo ⟨AM.get_put_self rfl hlt, hl, hne, ?_⟩ ((Fr.refl _ _).put _ (.inr (.inl rfl))) (fun id e => .inl e)
  cases mo with
  | none => exact hm
  | some m => exact ⟨by rw [AM.get_put_ne (fun e => hne (by rw [e]))]; exact hm.1, hm.2⟩
theorem give1_w {h : AHeap} {p a b c : Nat} {mo : Option Nat} {o v r : Int} {L : IL} {e1 e2 e3 : TypeId} {o1 o2 o3 : Bool} (x : Hd h p mo o L) (g1 : h.get a = some (.cells [pv p] e1 o1)) (g2 : h.get b = some (.cells [.int .i64 v] e2 o2)) (g3 : h.get c = some (.cells [.int .i64 r] e3 o3)) (ha : a ≠ p) (hb : b ≠ p) (hc : c ≠ p) {Q : VQ} (hq : HdTo h p mo o (setI L r v) fun h' => Q (.tuple #[]) h') :
    CallW Try.prog prims (.func (.func 59) #[] #[pv a, pv b, pv c]) [] h Q := by
  obtain ⟨g, hl, hne, hm⟩ := x
  have hlt := AM.get_some_lt g
  refine AM.enter hp (fn := Try.f59) (rs := []) (nt := 18) (by kernel_rfl) Try.func59 rfl rfl rfl (by kernel_rfl) ?_
  cases mo with
  | none =>
    have hL : L = [] := hm
    subst hL
    simp (maxSteps := 1000000) (disch := first | omega | (simp only [AM.DB, List.length_set, List.length_map]; first | done | omega)) only [AM.RB, Nat.reduceAdd, Nat.reduceMul, Nat.reduceEqDiff, reduceCtorEq, b59_IH6, g1, g2, g3, g]
    generalize hE_ : AHeap.put (h.alloc (.map [])) p _ = h3
    obtain ⟨g4, fr4, n4, l4⟩ := AM.put_get hE_ (by rw [AHeap.next_alloc]; omega)
    clear hE_
    have al : ∀ {id : Nat} {x : AObj}, h.get id = some x → id ≠ p → h3.get id = some x := fun {id x} e q => fr4.get (by rw [AM.get_alloc_ne (Nat.ne_of_lt (AM.get_some_lt e))]; exact e) q
    have ga := al g1 ha
    have gb := al g2 hb
    have gc := al g3 hc
    have gm : h3.get h.next = some (.map (encM (vL []))) := fr4.get (AM.get_alloc_self rfl) (fun e => by have e : h.next = p := e; omega)
    rw [AHeap.next_alloc] at n4
    rw [AHeap.low_alloc] at l4
    have lm : h3.low ≤ h.next := by omega
    (repeat' (first | (simp (maxSteps := 1000000) (disch := first | omega | (simp only [AM.DB, List.length_set, List.length_map]; first | done | omega)) only [AM.RB, Nat.reduceAdd, Nat.reduceMul, Nat.reduceEqDiff, reduceCtorEq, b59_IH6, ga, gb, gc, g4, AM.update_enc mp_43 gm lm]) | refine AM.drawW_fine hp (by kernel_rfl) (by kernel_rfl) (by kernel_rfl) ?_ | refine AM.opW_tied (by kernel_rfl) ?_ | refine AM.opW_untied (by kernel_rfl) ?_))
    rw [vL_set]
    refine hq _ (some h.next) ⟨by rw [AM.get_put_ne (by omega)]; exact g4, by simp only [AHeap.low_put]; omega, fun e => by cases e; omega, AM.get_put_self rfl (by omega), lm⟩ ?_ (fun id e => .inr (by cases e; exact Nat.le_refl _))
    have fr5 : Fr (own p none) h h3 := ((Fr.refl _ _).alloc _).then fr4 fun id _ e => .inl e
    exact fr5.put _ (.inl (Nat.le_refl _))
  | some m =>
    have gm := hm.1
    have lm := hm.2
    have hltm := AM.get_some_lt gm
    have hmp : p ≠ m := fun e => hne (by rw [e])
    (repeat' (first | (simp (maxSteps := 1000000) (disch := first | omega | (simp only [AM.DB, List.length_set, List.length_map]; first | done | omega)) only [AM.RB, Nat.reduceAdd, Nat.reduceMul, Nat.reduceEqDiff, reduceCtorEq, b59_IH6, g1, g2, g3, g, AM.update_enc mp_43 gm lm]) | refine AM.drawW_fine hp (by kernel_rfl) (by kernel_rfl) (by kernel_rfl) ?_ | refine AM.opW_tied (by kernel_rfl) ?_ | refine AM.opW_untied (by kernel_rfl) ?_))
    rw [vL_set]
    exact hq _ (some m) ⟨by rw [AM.get_put_ne hmp]; exact g, hl, hne, AM.get_put_self rfl hltm, lm⟩ ((Fr.refl _ _).put _ (.inr (.inr rfl))) (fun id e => .inl e)
theorem back1_w {h : AHeap} {p a b : Nat} {mo : Option Nat} {o r : Int} {L : IL} {e1 e2 : TypeId} {o1 o2 : Bool} (x : Hd h p mo o L) (g1 : h.get a = some (.cells [pv p] e1 o1)) (g2 : h.get b = some (.cells [.int .i64 r] e2 o2)) {Q : VQ} (hq : HdTo h p mo o (delI L r) fun h' => Q (.tuple #[]) h') :
    CallW Try.prog prims (.func (.func 62) #[] #[pv a, pv b]) [] h Q := by
  obtain ⟨g, hl, hne, hm⟩ := x
  have hlt := AM.get_some_lt g
  refine AM.enter hp (fn := Try.f62) (rs := []) (nt := 7) (by kernel_rfl) Try.func62 rfl rfl rfl (by kernel_rfl) ?_
  cases mo with
  | none =>
    have hL : L = [] := hm
    subst hL
    (repeat' (first | (simp (maxSteps := 1000000) (disch := first | omega | (simp only [AM.DB, List.length_set, List.length_map]; first | done | omega)) only [AM.RB, Nat.reduceAdd, Nat.reduceMul, Nat.reduceEqDiff, reduceCtorEq, b62_IH6, g1, g2, g, AM.delete_nil mp_43]) | refine AM.drawW_fine hp (by kernel_rfl) (by kernel_rfl) (by kernel_rfl) ?_ | refine AM.opW_tied (by kernel_rfl) ?_ | refine AM.opW_untied (by kernel_rfl) ?_))
    exact hq _ none ⟨g, hl, hne, rfl⟩ (Fr.refl _ _) (fun id e => .inl e)
  | some m =>
    have gm := hm.1
    have lm := hm.2
    have hltm := AM.get_some_lt gm
    have hmp : p ≠ m := fun e => hne (by rw [e])
    (repeat' (first | (simp (maxSteps := 1000000) (disch := first | omega | (simp only [AM.DB, List.length_set, List.length_map]; first | done | omega)) only [AM.RB, Nat.reduceAdd, Nat.reduceMul, Nat.reduceEqDiff, reduceCtorEq, b62_IH6, g1, g2, g, AM.delete_enc mp_43 gm lm]) | refine AM.drawW_fine hp (by kernel_rfl) (by kernel_rfl) (by kernel_rfl) ?_ | refine AM.opW_tied (by kernel_rfl) ?_ | refine AM.opW_untied (by kernel_rfl) ?_))
    cases hg : getI L r with
    | none =>
      rw [delI_none hg] at hq
      rw [vL_get, hg, if_neg (by simp)]
      exact hq _ (some m) ⟨g, hl, hne, gm, lm⟩ (Fr.refl _ _) (fun id e => .inl e)
    | some v =>
      rw [vL_get, hg, if_pos (by simp), vL_del]
      exact hq _ (some m) ⟨by rw [AM.get_put_ne hmp]; exact g, hl, hne, AM.get_put_self rfl hltm, lm⟩ ((Fr.refl _ _).put _ (.inr (.inr rfl))) (fun id e => .inl e)
theorem clear1_w {h : AHeap} {p a : Nat} {mo : Option Nat} {o : Int} {L : IL} {e1 : TypeId} {o1 : Bool} (x : Hd h p mo o L) (g1 : h.get a = some (.cells [pv p] e1 o1)) {Q : VQ} (hq : HdTo h p mo o [] fun h' => Q (.tuple #[]) h') :
    CallW Try.prog prims (.func (.func 68) #[] #[pv a]) [] h Q := by
  obtain ⟨g, hl, hne, hm⟩ := x
  have hlt := AM.get_some_lt g
  refine AM.enter hp (fn := Try.f68) (rs := []) (nt := 5) (by kernel_rfl) Try.func68 rfl rfl rfl (by kernel_rfl) ?_
  cases mo with
  | none =>
    (first | (simp (maxSteps := 1000000) (disch := first | omega | (simp only [AM.DB, List.length_set, List.length_map]; first | done | omega)) only [AM.RB, Nat.reduceAdd, Nat.reduceMul, Nat.reduceEqDiff, reduceCtorEq, b68_IH6, g1, g, AM.clear_nilmap mp_43]) | skip)
    exact hq _ none ⟨g, hl, hne, rfl⟩ (Fr.refl _ _) (fun id e => .inl e)
  | some m =>
    have gm := hm.1
    have lm := hm.2
    have hltm := AM.get_some_lt gm
    have hmp : p ≠ m := fun e => hne (by rw [e])
    (first | (simp (maxSteps := 1000000) (disch := first | omega | (simp only [AM.DB, List.length_set, List.length_map]; first | done | omega)) only [AM.RB, Nat.reduceAdd, Nat.reduceMul, Nat.reduceEqDiff, reduceCtorEq, b68_IH6, g1, g, AM.clear_map mp_43 gm lm]) | skip)
    exact hq _ (some m) ⟨by rw [AM.get_put_ne hmp]; exact g, hl, hne, AM.get_put_self rfl hltm, lm⟩ ((Fr.refl _ _).put _ (.inr (.inr rfl))) (fun id e => .inl e)

theorem two_new (h : AHeap) (c1 c2 : List Value) (e1 e2 : TypeId) : ∃ h2, (h.alloc (.cells c1 e1 false)).alloc (.cells c2 e2 false) = h2 ∧ h2.get h.next = some (.cells c1 e1 false) ∧ h2.get (h.next + 1) = some (.cells c2 e2 false) ∧ Fr none' h h2 ∧ h2.next = h.next + 2 ∧ h2.low = h.low := by
  refine ⟨_, rfl, ?_, ?_, ((Fr.refl _ _).alloc _).alloc _, rfl, rfl⟩
  · rw [AM.get_alloc_ne (by simp), AM.get_alloc_self rfl]
  · rw [AM.get_alloc_self (by simp)]
theorem three_new (h : AHeap) (c1 c2 c3 : List Value) (e1 e2 e3 : TypeId) : ∃ h2, ((h.alloc (.cells c1 e1 false)).alloc (.cells c2 e2 false)).alloc (.cells c3 e3 false) = h2 ∧ h2.get h.next = some (.cells c1 e1 false) ∧ h2.get (h.next + 1) = some (.cells c2 e2 false) ∧ h2.get (h.next + 1 + 1) = some (.cells c3 e3 false) ∧ Fr none' h h2 ∧ h2.next = h.next + 3 ∧ h2.low = h.low := by
  refine ⟨_, rfl, ?_, ?_, ?_, (((Fr.refl _ _).alloc _).alloc _).alloc _, rfl, rfl⟩
  · rw [AM.get_alloc_ne (by simp; omega), AM.get_alloc_ne (by simp), AM.get_alloc_self rfl]
  · rw [AM.get_alloc_ne (by simp), AM.get_alloc_self (by simp)]
  · rw [AM.get_alloc_self (by simp)]
theorem HdTo.lift {h h2 : AHeap} {p : Nat} {mo : Option Nat} {o : Int} {L : IL} {K : AHeap → Prop} (hk : HdTo h p mo o L K) (fr : Fr none' h h2) : HdTo h2 p mo o L K :=
  fun h' mo' x fr' hm => hk h' mo' x (fr.weak.then fr' fun _ _ q => q) (fun i e => (hm i e).imp (fun q => q) (fun q => Nat.le_trans fr.next q))
theorem HdTo.mono {h : AHeap} {p : Nat} {mo : Option Nat} {o : Int} {L : IL} {K K' : AHeap → Prop} (hk : HdTo h p mo o L K) (h1 : ∀ h', K h' → K' h') : HdTo h p mo o L K' :=
  fun h' mo' x fr' hm => h1 _ (hk h' mo' x fr' hm)

theorem own_w {h : AHeap} {p : Nat} {mo : Option Nat} {o : Int} {L : IL} (x : Hd h p mo o L) (ok : okI L) (v : Int) {Q : VQ}
    (hbad : ¬ (0 ≤ v ∧ v ≤ 15) → ∀ h', Fr none' h h' → Q (.tuple #[.bool false, .int .i64 2]) h')
    (hgood : 0 ≤ v ∧ v ≤ 15 → HdTo h p mo v L fun h' => Q (.tuple #[.bool (decide (nowL v L ≠ nowL o L)), .int .i64 0]) h') : W 28 [pv p, .int .i64 v] h Q := by
  refine AM.enter hp (fn := Try.f28) (rs := [.tmp 4, .tmp 5]) (nt := 16) (by kernel_rfl) Try.func28 rfl rfl rfl (by kernel_rfl) ?_
  simp (maxSteps := 1000000) (disch := first | omega | (simp only [AM.DB, List.length_set, List.length_map]; first | done | omega)) only [AM.RB, Nat.reduceAdd, Nat.reduceMul, Nat.reduceEqDiff, reduceCtorEq, b28_IH6]
  obtain ⟨h2, e2, ga, gb, fr2, n2, l2⟩ := two_new h [pv p] [.int .i64 v] 72 3
  rw [e2]
  have x2 := x.fr0 fr2
  refine may_w v _ _ ?_
  by_cases hv : 0 ≤ v ∧ v ≤ 15
  · have d1 : decide (0 ≤ v ∧ v ≤ 15) = true := decide_eq_true hv
    (first | (simp (maxSteps := 1000000) (disch := first | omega | (simp only [AM.DB, List.length_set, List.length_map]; first | done | omega)) only [AM.RB, Nat.reduceAdd, Nat.reduceMul, Nat.reduceEqDiff, reduceCtorEq, b28_IH6, d1, ga, gb]) | skip)
    refine turned_w x2 ok ok (fun Q' hq' => own1_w x2 gb ga hq') (((hgood hv).lift fr2).mono fun h3 q => ?_)
    (first | (simp (maxSteps := 1000000) (disch := first | omega | (simp only [AM.DB, List.length_set, List.length_map]; first | done | omega)) only [AM.RB, Nat.reduceAdd, Nat.reduceMul, Nat.reduceEqDiff, reduceCtorEq, b28_IH6]) | skip)
    exact q
  · have d1 : decide (0 ≤ v ∧ v ≤ 15) = false := decide_eq_false hv
    (first | (simp (maxSteps := 1000000) (disch := first | omega | (simp only [AM.DB, List.length_set, List.length_map]; first | done | omega)) only [AM.RB, Nat.reduceAdd, Nat.reduceMul, Nat.reduceEqDiff, reduceCtorEq, b28_IH6, d1]) | skip)
    exact hbad hv _ fr2
theorem give_w {h : AHeap} {p : Nat} {mo : Option Nat} {o : Int} {L : IL} (x : Hd h p mo o L) (ok : okI L) (r v : Int) {Q : VQ}
    (hbad : ¬ fitI (r, v) → ∀ h', Fr none' h h' → Q (.tuple #[.bool false, .int .i64 2]) h')
    (hgood : fitI (r, v) → HdTo h p mo o (setI L r v) fun h' => Q (.tuple #[.bool (decide (nowL o (setI L r v) ≠ nowL o L)), .int .i64 0]) h') : W 24 [pv p, .int .i64 r, .int .i64 v] h Q := by
  refine AM.enter hp (fn := Try.f24) (rs := [.tmp 6, .tmp 7]) (nt := 26) (by kernel_rfl) Try.func24 rfl rfl rfl (by kernel_rfl) ?_
  simp (maxSteps := 1000000) (disch := first | omega | (simp only [AM.DB, List.length_set, List.length_map]; first | done | omega)) only [AM.RB, Nat.reduceAdd, Nat.reduceMul, Nat.reduceEqDiff, reduceCtorEq, b24_IH6]
  obtain ⟨h2, e2, ga, gb, gc, fr2, n2, l2⟩ := three_new h [pv p] [.int .i64 r] [.int .i64 v] 72 3 3
  rw [e2]
  have x2 := x.fr0 fr2
  have hlt := AM.get_some_lt x.1
  have base : ∀ id, id = h.next ∨ id = h.next + 1 ∨ id = h.next + 1 + 1 → id ≠ p := fun id q => by omega
  by_cases h0 : r < 0
  · have d0 : decide (r < 0) = true := decide_eq_true h0
    (first | (simp (maxSteps := 1000000) (disch := first | omega | (simp only [AM.DB, List.length_set, List.length_map]; first | done | omega)) only [AM.RB, Nat.reduceAdd, Nat.reduceMul, Nat.reduceEqDiff, reduceCtorEq, b24_IH6, d0]) | skip)
    exact hbad (fun q => by have := q.1.1; simp only at this; omega) _ fr2
  have d0 : decide (r < 0) = false := decide_eq_false h0
  by_cases h1 : 64 ≤ r
  · have d1 : decide (64 ≤ r) = true := decide_eq_true h1
    (first | (simp (maxSteps := 1000000) (disch := first | omega | (simp only [AM.DB, List.length_set, List.length_map]; first | done | omega)) only [AM.RB, Nat.reduceAdd, Nat.reduceMul, Nat.reduceEqDiff, reduceCtorEq, b24_IH6, d0, gb, d1]) | skip)
    exact hbad (fun q => by have := q.1.2; simp only at this; omega) _ fr2
  have d1 : decide (64 ≤ r) = false := decide_eq_false h1
  (first | (simp (maxSteps := 1000000) (disch := first | omega | (simp only [AM.DB, List.length_set, List.length_map]; first | done | omega)) only [AM.RB, Nat.reduceAdd, Nat.reduceMul, Nat.reduceEqDiff, reduceCtorEq, b24_IH6, d0, gb, d1, gc]) | skip)
  refine may_w v _ _ ?_
  by_cases hv : 0 ≤ v ∧ v ≤ 15
  · have d2 : decide (0 ≤ v ∧ v ≤ 15) = true := decide_eq_true hv
    have fit : fitI (r, v) := ⟨⟨by simp only; omega, by simp only; omega⟩, hv⟩
    (first | (simp (maxSteps := 1000000) (disch := first | omega | (simp only [AM.DB, List.length_set, List.length_map]; first | done | omega)) only [AM.RB, Nat.reduceAdd, Nat.reduceMul, Nat.reduceEqDiff, reduceCtorEq, b24_IH6, d2, ga, gb, gc]) | skip)
    refine turned_w x2 ok (ok.set fit) (fun Q' hq' => give1_w x2 ga gc gb (base _ (.inl rfl)) (base _ (.inr (.inr rfl))) (base _ (.inr (.inl rfl))) hq') (((hgood fit).lift fr2).mono fun h3 q => ?_)
    (first | (simp (maxSteps := 1000000) (disch := first | omega | (simp only [AM.DB, List.length_set, List.length_map]; first | done | omega)) only [AM.RB, Nat.reduceAdd, Nat.reduceMul, Nat.reduceEqDiff, reduceCtorEq, b24_IH6]) | skip)
    exact q
  · have d2 : decide (0 ≤ v ∧ v ≤ 15) = false := decide_eq_false hv
    (first | (simp (maxSteps := 1000000) (disch := first | omega | (simp only [AM.DB, List.length_set, List.length_map]; first | done | omega)) only [AM.RB, Nat.reduceAdd, Nat.reduceMul, Nat.reduceEqDiff, reduceCtorEq, b24_IH6, d2]) | skip)
    exact hbad (fun q => hv q.2) _ fr2
theorem back_w {h : AHeap} {p : Nat} {mo : Option Nat} {o : Int} {L : IL} (x : Hd h p mo o L) (ok : okI L) (r : Int) {Q : VQ}
    (hgood : HdTo h p mo o (delI L r) fun h' => Q (.bool (decide (nowL o (delI L r) ≠ nowL o L))) h') : W 27 [pv p, .int .i64 r] h Q := by
  refine AM.enter hp (fn := Try.f27) (rs := [.tmp 4]) (nt := 12) (by kernel_rfl) Try.func27 rfl rfl rfl (by kernel_rfl) ?_
  simp (maxSteps := 1000000) (disch := first | omega | (simp only [AM.DB, List.length_set, List.length_map]; first | done | omega)) only [AM.RB, Nat.reduceAdd, Nat.reduceMul, Nat.reduceEqDiff, reduceCtorEq, b27_IH6]
  obtain ⟨h2, e2, ga, gb, fr2, n2, l2⟩ := two_new h [pv p] [.int .i64 r] 72 3
  rw [e2]
  have x2 := x.fr0 fr2
  refine turned_w x2 ok (ok.del r) (fun Q' hq' => back1_w x2 ga gb hq') ((hgood.lift fr2).mono fun h3 q => ?_)
  (first | (simp (maxSteps := 1000000) (disch := first | omega | (simp only [AM.DB, List.length_set, List.length_map]; first | done | omega)) only [AM.RB, Nat.reduceAdd, Nat.reduceMul, Nat.reduceEqDiff, reduceCtorEq, b27_IH6]) | skip)
  exact q
theorem hclear_w {h : AHeap} {p : Nat} {mo : Option Nat} {o : Int} {L : IL} (x : Hd h p mo o L) (ok : okI L) {Q : VQ}
    (hgood : HdTo h p mo o [] fun h' => Q (.bool (decide (nowL o [] ≠ nowL o L))) h') : W 45 [pv p] h Q := by
  refine AM.enter hp (fn := Try.f45) (rs := [.tmp 2]) (nt := 10) (by kernel_rfl) Try.func45 rfl rfl rfl (by kernel_rfl) ?_
  simp (maxSteps := 1000000) (disch := first | omega | (simp only [AM.DB, List.length_set, List.length_map]; first | done | omega)) only [AM.RB, Nat.reduceAdd, Nat.reduceMul, Nat.reduceEqDiff, reduceCtorEq, b45_IH6]
  have fr2 : Fr none' h (h.alloc (.cells [pv p] 72 false)) := (Fr.refl _ _).alloc _
  have ga : (h.alloc (.cells [pv p] 72 false)).get h.next = some (.cells [pv p] 72 false) := AM.get_alloc_self rfl
  have x2 := x.fr0 fr2
  refine turned_w x2 ok okI_nil (fun Q' hq' => clear1_w x2 ga hq') ((hgood.lift fr2).mono fun h3 q => ?_)
  (first | (simp (maxSteps := 1000000) (disch := first | omega | (simp only [AM.DB, List.length_set, List.length_map]; first | done | omega)) only [AM.RB, Nat.reduceAdd, Nat.reduceMul, Nat.reduceEqDiff, reduceCtorEq, b45_IH6]) | skip)
  exact q
end Go.Proofs.Ytodcnfabnlojdaa

namespace Go.Proofs.Ytodcnfabnlojdaa
open Go.AM
set_option maxRecDepth 8000
theorem b23_IH7 : type_of% (And.intro (@AM.alK_some) (And.intro (@al_45) (And.intro (@AM.bin_eql) (And.intro (AM.bsW_int bs_22) (And.intro (AM.bsW_int2 bs_22) (And.intro (AM.bsW_nil bs_22) (And.intro (AM.bsW_slice bs_22) (And.intro (AM.bsW_string bs_22) (And.intro (@AM.ex_tuple) (And.intro (@AM.op_alloc) (And.intro (@AM.op_binOp) (And.intro (@AM.op_buildSlice) (And.intro (@AM.op_call) (And.intro (@AM.op_extract) (And.intro (@AM.op_unOp) (And.intro (@AM.un_neg) (@AM.un_not))))))))))))))))) := And.intro (@AM.alK_some) (And.intro (@al_45) (And.intro (@AM.bin_eql) (And.intro (AM.bsW_int bs_22) (And.intro (AM.bsW_int2 bs_22) (And.intro (AM.bsW_nil bs_22) (And.intro (AM.bsW_slice bs_22) (And.intro (AM.bsW_string bs_22) (And.intro (@AM.ex_tuple) (And.intro (@AM.op_alloc) (And.intro (@AM.op_binOp) (And.intro (@AM.op_buildSlice) (And.intro (@AM.op_call) (And.intro (@AM.op_extract) (And.intro (@AM.op_unOp) (And.intro (@AM.un_neg) (@AM.un_not))))))))))))))))


theorem from27 : fromL [(7, 5), (2, 4)] = [2, 7] := by
  have h1 : fromL [(7, 5), (2, 4)] = fromL [(2, 4), (7, 5)] := Go.mergeSort_of_perm_i (List.Perm.swap _ _ _)
  rw [h1]
  exact List.mergeSort_of_pairwise (by simp)

/-- A holder made since h0. -/
def Hn (h0 h : AHeap) (p : Nat) (mo : Option Nat) (o : Int) (L : IL) : Prop := Hd h p mo o L ∧ Fr none' h0 h ∧ ∀ id, own p mo id → h0.next ≤ id
theorem Hn.step {h0 h : AHeap} {p : Nat} {mo : Option Nat} {o o' : Int} {L L' : IL} (x : Hn h0 h p mo o L) {K : AHeap → Prop} (k : ∀ h' mo', Hn h0 h' p mo' o' L' → K h') : HdTo h p mo o' L' K :=
  fun h' mo' x' fr' hm => k h' mo' ⟨x', x.2.1.fresh fr' x.2.2, fun id q => q.elim (fun e => x.2.2 id (.inl e)) fun e => (hm id e).elim (fun e' => x.2.2 id (.inr e')) (fun e' => Nat.le_trans x.2.1.next e')⟩
theorem Hn.fr0 {h0 h h' : AHeap} {p : Nat} {mo : Option Nat} {o : Int} {L : IL} (x : Hn h0 h p mo o L) (fr : Fr none' h h') : Hn h0 h' p mo o L := ⟨x.1.fr0 fr, x.2.1.trans fr, x.2.2⟩
theorem Hn.new (h : AHeap) (hl : h.low ≤ h.next) : Hn h (h.alloc (.cells [.int .i64 0, .map none] 45 false)) h.next none 0 [] :=
  ⟨⟨AM.get_alloc_self rfl, hl, by simp, rfl⟩, (Fr.refl _ _).alloc _, fun id q => q.elim (fun e => by omega) (fun e => by cases e)⟩

/-- The chapter's first examples. -/
theorem alive_w {h : AHeap} (hl : h.low ≤ h.next) {Q : VQ} (hq : ∀ h', Fr none' h h' → Q (.bool true) h') : W 23 [] h Q := by
  refine AM.enter hp (fn := Try.f23) (rs := [.tmp 0]) (nt := 49) (by kernel_rfl) Try.func23 rfl rfl rfl (by kernel_rfl) ?_
  simp (maxSteps := 1000000) (disch := first | omega | (simp only [AM.DB, List.length_set, List.length_map]; first | done | omega)) only [AM.RB, Nat.reduceAdd, Nat.reduceMul, Nat.reduceEqDiff, reduceCtorEq, b23_IH7]
  have x0 := Hn.new h hl
  generalize h.alloc (.cells [.int .i64 0, .map none] 45 false) = h1 at x0
  have f7 : fitI (7, 5) := by unfold fitI; decide
  have f2 : fitI (2, 4) := by unfold fitI; decide
  have ok7 : okI [(7, 5)] := okI_nil.set f7
  have ok2 : okI [(7, 5), (2, 4)] := ok7.set f2
  refine own_w x0.1 okI_nil 3 (fun c => absurd (by decide) c) fun _ => x0.step fun h2 m2 x2 => ?_
  (first | (simp (maxSteps := 1000000) (disch := first | omega | (simp only [AM.DB, List.length_set, List.length_map]; first | done | omega)) only [AM.RB, Nat.reduceAdd, Nat.reduceMul, Nat.reduceEqDiff, reduceCtorEq, b23_IH7]) | skip)
  refine give_w x2.1 okI_nil 7 5 (fun c => absurd f7 c) fun _ => x2.step fun h3 m3 x3 => ?_
  (first | (simp (maxSteps := 1000000) (disch := first | omega | (simp only [AM.DB, List.length_set, List.length_map]; first | done | omega)) only [AM.RB, Nat.reduceAdd, Nat.reduceMul, Nat.reduceEqDiff, reduceCtorEq, b23_IH7]) | skip)
  refine give_w x3.1 ok7 2 4 (fun c => absurd f2 c) fun _ => x3.step fun h4 m4 x4 => ?_
  have e1 : decide (nowL 3 [] ≠ nowL 0 []) = true := by decide
  have e2 : decide (nowL 3 (setI [] 7 5) ≠ nowL 3 []) = true := by decide
  have e3 : decide (nowL 3 (setI (setI [] 7 5) 2 4) ≠ nowL 3 (setI [] 7 5)) = false := by decide
  have e4 : nowL 3 (setI (setI [] 7 5) 2 4) = 5 := by decide
  have e5 : setI (setI [] 7 5) 2 4 = [(7, 5), (2, 4)] := rfl
  rw [e1, e2, e3]
  (first | (simp (maxSteps := 1000000) (disch := first | omega | (simp only [AM.DB, List.length_set, List.length_map]; first | done | omega)) only [AM.RB, Nat.reduceAdd, Nat.reduceMul, Nat.reduceEqDiff, reduceCtorEq, b23_IH7]) | skip)
  refine now_w x4.1 ok2 ?_
  rw [e4]
  (first | (simp (maxSteps := 1000000) (disch := first | omega | (simp only [AM.DB, List.length_set, List.length_map]; first | done | omega)) only [AM.RB, Nat.reduceAdd, Nat.reduceMul, Nat.reduceEqDiff, reduceCtorEq, b23_IH7]) | skip)
  refine from_w x4.1 ok2 fun v h5 ow fr5 _ => ?_
  rw [e5, from27] at ow
  have x5 := x4.fr0 fr5
  (first | (simp (maxSteps := 1000000) (disch := first | omega | (simp only [AM.DB, List.length_set, List.length_map]; first | done | omega)) only [AM.RB, Nat.reduceAdd, Nat.reduceMul, Nat.reduceEqDiff, reduceCtorEq, b23_IH7]) | skip)
  generalize hE_ : h5.alloc (.cells [.int .i64 2, .int .i64 7] 3 false) = h6
  have fr6 : Fr none' h5 h6 := by rw [← hE_]; exact (Fr.refl _ _).alloc _
  have g6 : h6.get h5.next = some (.cells [.int .i64 2, .int .i64 7] 3 false) := by rw [← hE_]; exact AM.get_alloc_self rfl
  refine same_w (la := [2, 7]) (lb := [2, 7]) (ow.rd.fr0 fr6) (.inr ⟨h5.next, 0, 2, _, _, false, rfl, Nat.le_refl _, g6, by simp, rfl, .inr rfl⟩) (by decide) ?_
  (first | (simp (maxSteps := 1000000) (disch := first | omega | (simp only [AM.DB, List.length_set, List.length_map]; first | done | omega)) only [AM.RB, Nat.reduceAdd, Nat.reduceMul, Nat.reduceEqDiff, reduceCtorEq, b23_IH7]) | skip)
  exact hq _ (x5.2.1.trans fr6)
end Go.Proofs.Ytodcnfabnlojdaa

namespace Go.Proofs.Ytodcnfabnlojdaa
open Go.AM
set_option maxRecDepth 8000
theorem b28_IH16 : type_of% (And.intro (@List.map_toArray.{0,0}) (And.intro (@Option.isNone_none.{0}) (And.intro (@Option.isNone_some.{0}) (And.intro (AM.bin_pnil ul_72) (And.intro (@AM.boxK_agg) (And.intro (@AM.boxK_bool) (And.intro (@AM.boxK_func) (And.intro (@AM.boxK_int) (And.intro (@AM.boxK_map) (And.intro (@AM.boxK_pointer) (And.intro (@AM.boxK_slice) (And.intro (@AM.boxK_string) (And.intro (@AM.ldO_agg) (And.intro (@AM.ldO_one) (And.intro (@AM.ld_ptr) (And.intro (@lk_3) (And.intro (@lk_72) (And.intro (@AM.op_binOp) (And.intro (@AM.op_box) (And.intro (@AM.op_call) (And.intro (@AM.op_load) (And.intro (@AM.op_makeFunc) (And.intro (@AM.op_unOp) (And.intro (@AM.resL_two) (And.intro (@AM.un_neg) (@AM.un_not)))))))))))))))))))))))))) := And.intro (@List.map_toArray.{0,0}) (And.intro (@Option.isNone_none.{0}) (And.intro (@Option.isNone_some.{0}) (And.intro (AM.bin_pnil ul_72) (And.intro (@AM.boxK_agg) (And.intro (@AM.boxK_bool) (And.intro (@AM.boxK_func) (And.intro (@AM.boxK_int) (And.intro (@AM.boxK_map) (And.intro (@AM.boxK_pointer) (And.intro (@AM.boxK_slice) (And.intro (@AM.boxK_string) (And.intro (@AM.ldO_agg) (And.intro (@AM.ldO_one) (And.intro (@AM.ld_ptr) (And.intro (@lk_3) (And.intro (@lk_72) (And.intro (@AM.op_binOp) (And.intro (@AM.op_box) (And.intro (@AM.op_call) (And.intro (@AM.op_load) (And.intro (@AM.op_makeFunc) (And.intro (@AM.op_unOp) (And.intro (@AM.resL_two) (And.intro (@AM.un_neg) (@AM.un_not)))))))))))))))))))))))))
theorem b24_IH16 : type_of% (And.intro (@List.map_toArray.{0,0}) (And.intro (@Option.isNone_none.{0}) (And.intro (@Option.isNone_some.{0}) (And.intro (@AM.bin_geq) (And.intro (@AM.bin_lss) (And.intro (AM.bin_pnil ul_72) (And.intro (@AM.boxK_agg) (And.intro (@AM.boxK_bool) (And.intro (@AM.boxK_func) (And.intro (@AM.boxK_int) (And.intro (@AM.boxK_map) (And.intro (@AM.boxK_pointer) (And.intro (@AM.boxK_slice) (And.intro (@AM.boxK_string) (And.intro (@AM.ldO_agg) (And.intro (@AM.ldO_one) (And.intro (@AM.ld_ptr) (And.intro (@lk_3) (And.intro (@lk_72) (And.intro (@AM.op_binOp) (And.intro (@AM.op_box) (And.intro (@AM.op_call) (And.intro (@AM.op_load) (And.intro (@AM.op_makeFunc) (And.intro (@AM.op_unOp) (And.intro (@AM.resL_two) (And.intro (@AM.un_neg) (@AM.un_not)))))))))))))))))))))))))))) := And.intro (@List.map_toArray.{0,0}) (And.intro (@Option.isNone_none.{0}) (And.intro (@Option.isNone_some.{0}) (And.intro (@AM.bin_geq) (And.intro (@AM.bin_lss) (And.intro (AM.bin_pnil ul_72) (And.intro (@AM.boxK_agg) (And.intro (@AM.boxK_bool) (And.intro (@AM.boxK_func) (And.intro (@AM.boxK_int) (And.intro (@AM.boxK_map) (And.intro (@AM.boxK_pointer) (And.intro (@AM.boxK_slice) (And.intro (@AM.boxK_string) (And.intro (@AM.ldO_agg) (And.intro (@AM.ldO_one) (And.intro (@AM.ld_ptr) (And.intro (@lk_3) (And.intro (@lk_72) (And.intro (@AM.op_binOp) (And.intro (@AM.op_box) (And.intro (@AM.op_call) (And.intro (@AM.op_load) (And.intro (@AM.op_makeFunc) (And.intro (@AM.op_unOp) (And.intro (@AM.resL_two) (And.intro (@AM.un_neg) (@AM.un_not)))))))))))))))))))))))))))
theorem b27_IH16 : type_of% (And.intro (@List.map_toArray.{0,0}) (And.intro (@Option.isNone_none.{0}) (And.intro (@Option.isNone_some.{0}) (And.intro (AM.bin_pnil' ul_72) (And.intro (@AM.boxK_agg) (And.intro (@AM.boxK_bool) (And.intro (@AM.boxK_func) (And.intro (@AM.boxK_int) (And.intro (@AM.boxK_map) (And.intro (@AM.boxK_pointer) (And.intro (@AM.boxK_slice) (And.intro (@AM.boxK_string) (And.intro (@AM.ldO_agg) (And.intro (@AM.ldO_one) (And.intro (@AM.ld_ptr) (And.intro (@lk_72) (And.intro (@AM.op_binOp) (And.intro (@AM.op_box) (And.intro (@AM.op_call) (And.intro (@AM.op_load) (@AM.op_makeFunc))))))))))))))))))))) := And.intro (@List.map_toArray.{0,0}) (And.intro (@Option.isNone_none.{0}) (And.intro (@Option.isNone_some.{0}) (And.intro (AM.bin_pnil' ul_72) (And.intro (@AM.boxK_agg) (And.intro (@AM.boxK_bool) (And.intro (@AM.boxK_func) (And.intro (@AM.boxK_int) (And.intro (@AM.boxK_map) (And.intro (@AM.boxK_pointer) (And.intro (@AM.boxK_slice) (And.intro (@AM.boxK_string) (And.intro (@AM.ldO_agg) (And.intro (@AM.ldO_one) (And.intro (@AM.ld_ptr) (And.intro (@lk_72) (And.intro (@AM.op_binOp) (And.intro (@AM.op_box) (And.intro (@AM.op_call) (And.intro (@AM.op_load) (@AM.op_makeFunc))))))))))))))))))))
theorem b45_IH16 : type_of% (And.intro (@List.map_toArray.{0,0}) (And.intro (@Option.isNone_none.{0}) (And.intro (@Option.isNone_some.{0}) (And.intro (AM.bin_pnil' ul_72) (And.intro (@AM.boxK_agg) (And.intro (@AM.boxK_bool) (And.intro (@AM.boxK_func) (And.intro (@AM.boxK_int) (And.intro (@AM.boxK_map) (And.intro (@AM.boxK_pointer) (And.intro (@AM.boxK_slice) (And.intro (@AM.boxK_string) (And.intro (@AM.ldO_agg) (And.intro (@AM.ldO_one) (And.intro (@AM.ld_ptr) (And.intro (@lk_72) (And.intro (@AM.op_binOp) (And.intro (@AM.op_box) (And.intro (@AM.op_call) (And.intro (@AM.op_load) (@AM.op_makeFunc))))))))))))))))))))) := And.intro (@List.map_toArray.{0,0}) (And.intro (@Option.isNone_none.{0}) (And.intro (@Option.isNone_some.{0}) (And.intro (AM.bin_pnil' ul_72) (And.intro (@AM.boxK_agg) (And.intro (@AM.boxK_bool) (And.intro (@AM.boxK_func) (And.intro (@AM.boxK_int) (And.intro (@AM.boxK_map) (And.intro (@AM.boxK_pointer) (And.intro (@AM.boxK_slice) (And.intro (@AM.boxK_string) (And.intro (@AM.ldO_agg) (And.intro (@AM.ldO_one) (And.intro (@AM.ld_ptr) (And.intro (@lk_72) (And.intro (@AM.op_binOp) (And.intro (@AM.op_box) (And.intro (@AM.op_call) (And.intro (@AM.op_load) (@AM.op_makeFunc))))))))))))))))))))
theorem b13_IH16 : type_of% (And.intro (@AM.alK_some) (And.intro (@al_45) (And.intro (@AM.bin_eql) (And.intro (AM.bsW_int bs_22) (And.intro (AM.bsW_int4 bs_22) (And.intro (AM.bsW_nil bs_22) (And.intro (AM.bsW_slice bs_22) (And.intro (AM.bsW_string bs_22) (And.intro (@AM.ex_tuple) (And.intro (AM.len_slice ul_22) (And.intro (@AM.op_alloc) (And.intro (@AM.op_binOp) (And.intro (@AM.op_buildSlice) (And.intro (@AM.op_call) (And.intro (@AM.op_extract) (And.intro (@AM.op_len) (And.intro (@AM.op_unOp) (And.intro (@AM.un_neg) (@AM.un_not))))))))))))))))))) := And.intro (@AM.alK_some) (And.intro (@al_45) (And.intro (@AM.bin_eql) (And.intro (AM.bsW_int bs_22) (And.intro (AM.bsW_int4 bs_22) (And.intro (AM.bsW_nil bs_22) (And.intro (AM.bsW_slice bs_22) (And.intro (AM.bsW_string bs_22) (And.intro (@AM.ex_tuple) (And.intro (AM.len_slice ul_22) (And.intro (@AM.op_alloc) (And.intro (@AM.op_binOp) (And.intro (@AM.op_buildSlice) (And.intro (@AM.op_call) (And.intro (@AM.op_extract) (And.intro (@AM.op_len) (And.intro (@AM.op_unOp) (And.intro (@AM.un_neg) (@AM.un_not))))))))))))))))))


theorem ownnil_w {h : AHeap} (v : Int) {Q : VQ} (hq : ∀ h', Fr none' h h' → Q (.tuple #[.bool false, .int .i64 1]) h') : W 28 [.pointer none, .int .i64 v] h Q := by
  refine AM.enter hp (fn := Try.f28) (rs := [.tmp 4, .tmp 5]) (nt := 16) (by kernel_rfl) Try.func28 rfl rfl rfl (by kernel_rfl) ?_
  simp (maxSteps := 1000000) (disch := first | omega | (simp only [AM.DB, List.length_set, List.length_map]; first | done | omega)) only [AM.RB, Nat.reduceAdd, Nat.reduceMul, Nat.reduceEqDiff, reduceCtorEq, b28_IH16]
  obtain ⟨h2, e2, ga, gb, fr2, n2, l2⟩ := two_new h [.pointer none] [.int .i64 v] 72 3
  first | rw [e2] | skip
  (first | (simp (maxSteps := 1000000) (disch := first | omega | (simp only [AM.DB, List.length_set, List.length_map]; first | done | omega)) only [AM.RB, Nat.reduceAdd, Nat.reduceMul, Nat.reduceEqDiff, reduceCtorEq, b28_IH16]) | skip)
  exact hq _ fr2
theorem givenil_w {h : AHeap} (r v : Int) {Q : VQ} (hq : ∀ h', Fr none' h h' → Q (.tuple #[.bool false, .int .i64 1]) h') : W 24 [.pointer none, .int .i64 r, .int .i64 v] h Q := by
  refine AM.enter hp (fn := Try.f24) (rs := [.tmp 6, .tmp 7]) (nt := 26) (by kernel_rfl) Try.func24 rfl rfl rfl (by kernel_rfl) ?_
  simp (maxSteps := 1000000) (disch := first | omega | (simp only [AM.DB, List.length_set, List.length_map]; first | done | omega)) only [AM.RB, Nat.reduceAdd, Nat.reduceMul, Nat.reduceEqDiff, reduceCtorEq, b24_IH16]
  obtain ⟨h2, e2, ga, gb, gc, fr2, n2, l2⟩ := three_new h [.pointer none] [.int .i64 r] [.int .i64 v] 72 3 3
  first | rw [e2] | skip
  (first | (simp (maxSteps := 1000000) (disch := first | omega | (simp only [AM.DB, List.length_set, List.length_map]; first | done | omega)) only [AM.RB, Nat.reduceAdd, Nat.reduceMul, Nat.reduceEqDiff, reduceCtorEq, b24_IH16]) | skip)
  exact hq _ fr2
theorem backnil_w {h : AHeap} (r : Int) {Q : VQ} (hq : ∀ h', Fr none' h h' → Q (.bool false) h') : W 27 [.pointer none, .int .i64 r] h Q := by
  refine AM.enter hp (fn := Try.f27) (rs := [.tmp 4]) (nt := 12) (by kernel_rfl) Try.func27 rfl rfl rfl (by kernel_rfl) ?_
  simp (maxSteps := 1000000) (disch := first | omega | (simp only [AM.DB, List.length_set, List.length_map]; first | done | omega)) only [AM.RB, Nat.reduceAdd, Nat.reduceMul, Nat.reduceEqDiff, reduceCtorEq, b27_IH16]
  obtain ⟨h2, e2, ga, gb, fr2, n2, l2⟩ := two_new h [.pointer none] [.int .i64 r] 72 3
  first | rw [e2] | skip
  (first | (simp (maxSteps := 1000000) (disch := first | omega | (simp only [AM.DB, List.length_set, List.length_map]; first | done | omega)) only [AM.RB, Nat.reduceAdd, Nat.reduceMul, Nat.reduceEqDiff, reduceCtorEq, b27_IH16]) | skip)
  exact hq _ fr2
theorem clearnil_w {h : AHeap} {Q : VQ} (hq : ∀ h', Fr none' h h' → Q (.bool false) h') : W 45 [.pointer none] h Q := by
  refine AM.enter hp (fn := Try.f45) (rs := [.tmp 2]) (nt := 10) (by kernel_rfl) Try.func45 rfl rfl rfl (by kernel_rfl) ?_
  (first | (simp (maxSteps := 1000000) (disch := first | omega | (simp only [AM.DB, List.length_set, List.length_map]; first | done | omega)) only [AM.RB, Nat.reduceAdd, Nat.reduceMul, Nat.reduceEqDiff, reduceCtorEq, b45_IH16]) | skip)
  exact hq _ ((Fr.refl _ _).alloc _)

theorem okAll1 : okAll [3, 0, 0, 1] [1, 2, -1, 2] = true := by decide
theorem allL1 : allL [3, 0, 0, 1] [1, 2, -1, 2] 4 = [3, 3, 3, 1] := by decide
theorem okAll2 : okAll [1] [] = false := by decide
theorem okAll3 : okAll [16] [0] = false := by decide
theorem okAll4 : okAll [] [] = true := by decide

set_option maxRecDepth 8000 in
set_option maxHeartbeats 8000000 in
theorem names_w {h : AHeap} (hl : h.low ≤ h.next) : W 13 [] h fun v _ => v = .bool true := by
  refine AM.enter hp (fn := Try.f13) (rs := [.tmp 0]) (nt := 194) (by kernel_rfl) Try.func13 rfl rfl rfl (by kernel_rfl) ?_
  simp (maxSteps := 1000000) (disch := first | omega | (simp only [AM.DB, List.length_set, List.length_map]; first | done | omega)) only [AM.RB, Nat.reduceAdd, Nat.reduceMul, Nat.reduceEqDiff, reduceCtorEq, b13_IH16]
  have x0 := Hn.new h hl
  generalize h.alloc (.cells [.int .i64 0, .map none] 45 false) = h1 at x0
  have f7 : fitI (7, 5) := by unfold fitI; decide
  have f2 : fitI (2, 4) := by unfold fitI; decide
  have f1 : fitI (2, 1) := by unfold fitI; decide
  have ok7 : okI [(7, 5)] := okI_nil.set f7
  have ok2 : okI [(7, 5), (2, 4)] := ok7.set f2
  have ok3 : okI [(2, 4)] := ok2.del 7
  have ok4 : okI [(2, 1)] := ok3.set f1
  refine own_w x0.1 okI_nil 3 (fun c => absurd (by decide) c) fun _ => x0.step fun h2 m2 x2 => ?_
  (first | (simp (maxSteps := 1000000) (disch := first | omega | (simp only [AM.DB, List.length_set, List.length_map]; first | done | omega)) only [AM.RB, Nat.reduceAdd, Nat.reduceMul, Nat.reduceEqDiff, reduceCtorEq, b13_IH16]) | skip)
  refine give_w x2.1 okI_nil 7 5 (fun c => absurd f7 c) fun _ => x2.step fun h3 m3 x3 => ?_
  (first | (simp (maxSteps := 1000000) (disch := first | omega | (simp only [AM.DB, List.length_set, List.length_map]; first | done | omega)) only [AM.RB, Nat.reduceAdd, Nat.reduceMul, Nat.reduceEqDiff, reduceCtorEq, b13_IH16]) | skip)
  refine give_w x3.1 ok7 2 4 (fun c => absurd f2 c) fun _ => x3.step fun h4 m4 x4 => ?_
  (first | (simp (maxSteps := 1000000) (disch := first | omega | (simp only [AM.DB, List.length_set, List.length_map]; first | done | omega)) only [AM.RB, Nat.reduceAdd, Nat.reduceMul, Nat.reduceEqDiff, reduceCtorEq, b13_IH16]) | skip)
  refine back_w x4.1 ok2 7 (x4.step fun h5 m5 x5 => ?_)
  have e1 : decide (nowL 3 (delI (setI (setI [] 7 5) 2 4) 7) ≠ nowL 3 (setI (setI [] 7 5) 2 4)) = true := by decide
  rw [e1]
  (first | (simp (maxSteps := 1000000) (disch := first | omega | (simp only [AM.DB, List.length_set, List.length_map]; first | done | omega)) only [AM.RB, Nat.reduceAdd, Nat.reduceMul, Nat.reduceEqDiff, reduceCtorEq, b13_IH16]) | skip)
  refine now_w x5.1 ok3 ?_
  have e2 : nowL 3 (delI (setI (setI [] 7 5) 2 4) 7) = 4 := by decide
  rw [e2]
  (first | (simp (maxSteps := 1000000) (disch := first | omega | (simp only [AM.DB, List.length_set, List.length_map]; first | done | omega)) only [AM.RB, Nat.reduceAdd, Nat.reduceMul, Nat.reduceEqDiff, reduceCtorEq, b13_IH16]) | skip)
  refine give_w x5.1 ok3 2 1 (fun c => absurd f1 c) fun _ => x5.step fun h6 m6 x6 => ?_
  have e3 : decide (nowL 3 (setI (delI (setI (setI [] 7 5) 2 4) 7) 2 1) ≠ nowL 3 (delI (setI (setI [] 7 5) 2 4) 7)) = true := by decide
  rw [e3]
  (first | (simp (maxSteps := 1000000) (disch := first | omega | (simp only [AM.DB, List.length_set, List.length_map]; first | done | omega)) only [AM.RB, Nat.reduceAdd, Nat.reduceMul, Nat.reduceEqDiff, reduceCtorEq, b13_IH16]) | skip)
  refine back_w x6.1 ok4 9 (x6.step fun h7 m7 x7 => ?_)
  have e4 : decide (nowL 3 (delI (setI (delI (setI (setI [] 7 5) 2 4) 7) 2 1) 9) ≠ nowL 3 (setI (delI (setI (setI [] 7 5) 2 4) 7) 2 1)) = false := by decide
  rw [e4]
  have ok5 : okI (delI (setI (delI (setI (setI [] 7 5) 2 4) 7) 2 1) 9) := ok4.del 9
  have e5 : nowL 3 (delI (setI (delI (setI (setI [] 7 5) 2 4) 7) 2 1) 9) = 3 := by decide
  (first | (simp (maxSteps := 1000000) (disch := first | omega | (simp only [AM.DB, List.length_set, List.length_map]; first | done | omega)) only [AM.RB, Nat.reduceAdd, Nat.reduceMul, Nat.reduceEqDiff, reduceCtorEq, b13_IH16]) | skip)
  refine now_w x7.1 ok5 ?_
  rw [e5]
  (first | (simp (maxSteps := 1000000) (disch := first | omega | (simp only [AM.DB, List.length_set, List.length_map]; first | done | omega)) only [AM.RB, Nat.reduceAdd, Nat.reduceMul, Nat.reduceEqDiff, reduceCtorEq, b13_IH16]) | skip)
  refine hclear_w x7.1 ok5 (x7.step fun h8 m8 x8 => ?_)
  have e6 : decide (nowL 3 [] ≠ nowL 3 (delI (setI (delI (setI (setI [] 7 5) 2 4) 7) 2 1) 9)) = false := by decide
  rw [e6]
  (first | (simp (maxSteps := 1000000) (disch := first | omega | (simp only [AM.DB, List.length_set, List.length_map]; first | done | omega)) only [AM.RB, Nat.reduceAdd, Nat.reduceMul, Nat.reduceEqDiff, reduceCtorEq, b13_IH16]) | skip)
  refine from_w x8.1 okI_nil fun v9 h9 o9 fr9 _ => ?_
  have x9 := x8.fr0 fr9
  obtain ⟨a9, c9, rfl⟩ := o9.form
  (first | (simp (maxSteps := 1000000) (disch := first | omega | (simp only [AM.DB, List.length_set, List.length_map]; first | done | omega)) only [AM.RB, Nat.reduceAdd, Nat.reduceMul, Nat.reduceEqDiff, reduceCtorEq, b13_IH16]) | skip)
  refine own_w x9.1 okI_nil 16 (fun _ h10 fr10 => ?_) (fun c => absurd c (by decide))
  have x10 := x9.fr0 fr10
  (first | (simp (maxSteps := 1000000) (disch := first | omega | (simp only [AM.DB, List.length_set, List.length_map]; first | done | omega)) only [AM.RB, Nat.reduceAdd, Nat.reduceMul, Nat.reduceEqDiff, reduceCtorEq, b13_IH16]) | skip)
  refine own_w x10.1 okI_nil (-1) (fun _ h11 fr11 => ?_) (fun c => absurd c (by decide))
  have x11 := x10.fr0 fr11
  (first | (simp (maxSteps := 1000000) (disch := first | omega | (simp only [AM.DB, List.length_set, List.length_map]; first | done | omega)) only [AM.RB, Nat.reduceAdd, Nat.reduceMul, Nat.reduceEqDiff, reduceCtorEq, b13_IH16]) | skip)
  refine give_w x11.1 okI_nil 64 1 (fun _ h12 fr12 => ?_) (fun c => absurd c (by unfold fitI; decide))
  have x12 := x11.fr0 fr12
  (first | (simp (maxSteps := 1000000) (disch := first | omega | (simp only [AM.DB, List.length_set, List.length_map]; first | done | omega)) only [AM.RB, Nat.reduceAdd, Nat.reduceMul, Nat.reduceEqDiff, reduceCtorEq, b13_IH16]) | skip)
  refine give_w x12.1 okI_nil 1 16 (fun _ h13 fr13 => ?_) (fun c => absurd c (by unfold fitI; decide))
  have x13 := x12.fr0 fr13
  have hl13 := x13.2.1.hl hl
  (first | (simp (maxSteps := 1000000) (disch := first | omega | (simp only [AM.DB, List.length_set, List.length_map]; first | done | omega)) only [AM.RB, Nat.reduceAdd, Nat.reduceMul, Nat.reduceEqDiff, reduceCtorEq, b13_IH16]) | skip)
  generalize hE_ : AHeap.alloc h13 _ = h14; obtain ⟨g14, fr14, n14, l14⟩ := AM.new_get hE_; clear hE_
  (first | (simp (maxSteps := 1000000) (disch := first | omega | (simp only [AM.DB, List.length_set, List.length_map]; first | done | omega)) only [AM.RB, Nat.reduceAdd, Nat.reduceMul, Nat.reduceEqDiff, reduceCtorEq, b13_IH16]) | skip)
  generalize hE_ : AHeap.alloc h14 _ = h15; obtain ⟨g15, fr15, n15, l15⟩ := AM.new_get hE_; clear hE_
  have hl15 : h15.low ≤ h15.next := fr15.hl (fr14.hl hl13)
  have ra : Rd h15 3 1 (.slice (some ⟨h13.next, 0, none⟩) 4 4) 4 ([3, 0, 0, 1].map (.int .i64)) := (AM.Rd.whole (n := 4) g14 rfl).fr0 fr15
  have rb : Rd h15 3 1 (.slice (some ⟨h13.next + 1, 0, none⟩) 4 4) 4 ([1, 2, -1, 2].map (.int .i64)) := by rw [← n14]; exact AM.Rd.whole (n := 4) g15 rfl
  refine all_w ra rb hl15 (fun c => by rw [okAll1] at c; cases c) fun _ v16 h16 o16 fr16 _ => ?_
  rw [allL1] at o16
  have hl16 := fr16.hl hl15
  (first | (simp (maxSteps := 1000000) (disch := first | omega | (simp only [AM.DB, List.length_set, List.length_map]; first | done | omega)) only [AM.RB, Nat.reduceAdd, Nat.reduceMul, Nat.reduceEqDiff, reduceCtorEq, b13_IH16]) | skip)
  generalize hE_ : AHeap.alloc h16 _ = h17; obtain ⟨g17, fr17, n17, l17⟩ := AM.new_get hE_; clear hE_
  have rc : Rd h17 3 1 (.slice (some ⟨h16.next, 0, none⟩) 1 1) 1 ([1].map (.int .i64)) := AM.Rd.whole (n := 1) g17 rfl
  have hl17 := fr17.hl hl16
  refine all_w rc (waits := []) (AM.Rd.nil _ _ _) hl17 (fun _ h18 fr18 => ?_) fun c => by rw [okAll2] at c; cases c
  have hl18 := fr18.hl hl17
  (first | (simp (maxSteps := 1000000) (disch := first | omega | (simp only [AM.DB, List.length_set, List.length_map]; first | done | omega)) only [AM.RB, Nat.reduceAdd, Nat.reduceMul, Nat.reduceEqDiff, reduceCtorEq, b13_IH16]) | skip)
  generalize hE_ : AHeap.alloc h18 _ = h19; obtain ⟨g19, fr19, n19, l19⟩ := AM.new_get hE_; clear hE_
  (first | (simp (maxSteps := 1000000) (disch := first | omega | (simp only [AM.DB, List.length_set, List.length_map]; first | done | omega)) only [AM.RB, Nat.reduceAdd, Nat.reduceMul, Nat.reduceEqDiff, reduceCtorEq, b13_IH16]) | skip)
  generalize hE_ : AHeap.alloc h19 _ = h20; obtain ⟨g20, fr20, n20, l20⟩ := AM.new_get hE_; clear hE_
  have hl20 : h20.low ≤ h20.next := fr20.hl (fr19.hl hl18)
  have rd : Rd h20 3 1 (.slice (some ⟨h18.next, 0, none⟩) 1 1) 1 ([16].map (.int .i64)) := (AM.Rd.whole (n := 1) g19 rfl).fr0 fr20
  have re : Rd h20 3 1 (.slice (some ⟨h18.next + 1, 0, none⟩) 1 1) 1 ([0].map (.int .i64)) := by rw [← n19]; exact AM.Rd.whole (n := 1) g20 rfl
  refine all_w rd re hl20 (fun _ h21 fr21 => ?_) fun c => by rw [okAll3] at c; cases c
  have hl21 := fr21.hl hl20
  (first | (simp (maxSteps := 1000000) (disch := first | omega | (simp only [AM.DB, List.length_set, List.length_map]; first | done | omega)) only [AM.RB, Nat.reduceAdd, Nat.reduceMul, Nat.reduceEqDiff, reduceCtorEq, b13_IH16]) | skip)
  refine all_w (own := []) (waits := []) (AM.Rd.nil _ _ _) (AM.Rd.nil _ _ _) hl21 (fun c => by rw [okAll4] at c; cases c) fun _ v22 h22 o22 fr22 _ => ?_
  have hl22 := fr22.hl hl21
  obtain ⟨a22, c22, rfl⟩ := o22.form
  (first | (simp (maxSteps := 1000000) (disch := first | omega | (simp only [AM.DB, List.length_set, List.length_map]; first | done | omega)) only [AM.RB, Nat.reduceAdd, Nat.reduceMul, Nat.reduceEqDiff, reduceCtorEq, b13_IH16]) | skip)
  generalize hE_ : AHeap.alloc h22 _ = h23; obtain ⟨g23, fr23, n23, l23⟩ := AM.new_get hE_; clear hE_
  have hl23 := fr23.hl hl22
  have rf : Rd h23 3 1 (.slice (some ⟨h22.next, 0, none⟩) 4 4) 4 ([3, 3, 3, 1].map (.int .i64)) := AM.Rd.whole (n := 4) g23 rfl
  have fr1623 : Fr none' h16 h23 := (((((fr17.trans fr18).trans fr19).trans fr20).trans fr21).trans fr22).trans fr23
  refine same_w (o16.fr0 fr1623).rd rf (by decide) ?_
  rw [decide_eq_true rfl]
  (first | (simp (maxSteps := 1000000) (disch := first | omega | (simp only [AM.DB, List.length_set, List.length_map]; first | done | omega)) only [AM.RB, Nat.reduceAdd, Nat.reduceMul, Nat.reduceEqDiff, reduceCtorEq, b13_IH16]) | skip)
  refine ownnil_w 1 fun h24 fr24 => ?_
  (first | (simp (maxSteps := 1000000) (disch := first | omega | (simp only [AM.DB, List.length_set, List.length_map]; first | done | omega)) only [AM.RB, Nat.reduceAdd, Nat.reduceMul, Nat.reduceEqDiff, reduceCtorEq, b13_IH16]) | skip)
  refine givenil_w 1 1 fun h25 fr25 => ?_
  have hl25 := fr25.hl (fr24.hl hl23)
  (first | (simp (maxSteps := 1000000) (disch := first | omega | (simp only [AM.DB, List.length_set, List.length_map]; first | done | omega)) only [AM.RB, Nat.reduceAdd, Nat.reduceMul, Nat.reduceEqDiff, reduceCtorEq, b13_IH16]) | skip)
  refine alive_w hl25 fun h26 fr26 => ?_
  (first | (simp (maxSteps := 1000000) (disch := first | omega | (simp only [AM.DB, List.length_set, List.length_map]; first | done | omega)) only [AM.RB, Nat.reduceAdd, Nat.reduceMul, Nat.reduceEqDiff, reduceCtorEq, b13_IH16]) | skip)
  refine backnil_w 1 fun h27 fr27 => ?_
  (first | (simp (maxSteps := 1000000) (disch := first | omega | (simp only [AM.DB, List.length_set, List.length_map]; first | done | omega)) only [AM.RB, Nat.reduceAdd, Nat.reduceMul, Nat.reduceEqDiff, reduceCtorEq, b13_IH16]) | skip)
  refine clearnil_w fun h28 fr28 => ?_
  (first | (simp (maxSteps := 1000000) (disch := first | omega | (simp only [AM.DB, List.length_set, List.length_map]; first | done | omega)) only [AM.RB, Nat.reduceAdd, Nat.reduceMul, Nat.reduceEqDiff, reduceCtorEq, b13_IH16]) | skip)
  refine nownil_w ?_
  (first | (simp (maxSteps := 1000000) (disch := first | omega | (simp only [AM.DB, List.length_set, List.length_map]; first | done | omega)) only [AM.RB, Nat.reduceAdd, Nat.reduceMul, Nat.reduceEqDiff, reduceCtorEq, b13_IH16]) | skip)
  refine fromnil_w ?_
  (first | (simp (maxSteps := 1000000) (disch := first | omega | (simp only [AM.DB, List.length_set, List.length_map]; first | done | omega)) only [AM.RB, Nat.reduceAdd, Nat.reduceMul, Nat.reduceEqDiff, reduceCtorEq, b13_IH16]) | skip)
end Go.Proofs.Ytodcnfabnlojdaa
