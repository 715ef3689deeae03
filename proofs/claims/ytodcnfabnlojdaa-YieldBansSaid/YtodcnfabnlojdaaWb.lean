/- Walks of this claim's functions, and plain laws. -/
import Derived.Test.YtodcnfabnlojdaaWa
set_option linter.unusedSimpArgs false
set_option linter.unusedVariables false
namespace Go.Proofs.Ytodcnfabnlojdaa
open Go.AM
set_option maxRecDepth 8000
theorem b34_IY8 : type_of% (And.intro (@Option.isNone_none.{0}) (And.intro (@Option.isNone_some.{0}) (And.intro (@AM.bin_leq) (And.intro (AM.bin_pnil ul_55) (And.intro (@AM.fa_ptr) (And.intro (@fd_58_0) (And.intro (@AM.ldO_agg) (And.intro (@AM.ldO_one) (And.intro (@AM.ld_ptr) (And.intro (@lk_56) (And.intro (@AM.op_binOp) (And.intro (@AM.op_fieldAddr) (And.intro (@AM.op_load) (And.intro (@AM.op_lookup) (And.intro (@AM.op_nilCheck) (@AM.resL_two)))))))))))))))) := And.intro (@Option.isNone_none.{0}) (And.intro (@Option.isNone_some.{0}) (And.intro (@AM.bin_leq) (And.intro (AM.bin_pnil ul_55) (And.intro (@AM.fa_ptr) (And.intro (@fd_58_0) (And.intro (@AM.ldO_agg) (And.intro (@AM.ldO_one) (And.intro (@AM.ld_ptr) (And.intro (@lk_56) (And.intro (@AM.op_binOp) (And.intro (@AM.op_fieldAddr) (And.intro (@AM.op_load) (And.intro (@AM.op_lookup) (And.intro (@AM.op_nilCheck) (@AM.resL_two)))))))))))))))
theorem b31_IY8 : type_of% (And.intro (@Option.isNone_none.{0}) (And.intro (@Option.isNone_some.{0}) (And.intro (AM.bin_pnil ul_55) (And.intro (@AM.ex_tuple) (And.intro (@AM.fa_ptr) (And.intro (@fd_58_0) (And.intro (@AM.ldO_agg) (And.intro (@AM.ldO_one) (And.intro (@AM.ld_ptr) (And.intro (@lk_56) (And.intro (@AM.op_binOp) (And.intro (@AM.op_delete) (And.intro (@AM.op_extract) (And.intro (@AM.op_fieldAddr) (And.intro (@AM.op_load) (And.intro (@AM.op_lookup) (@AM.op_nilCheck))))))))))))))))) := And.intro (@Option.isNone_none.{0}) (And.intro (@Option.isNone_some.{0}) (And.intro (AM.bin_pnil ul_55) (And.intro (@AM.ex_tuple) (And.intro (@AM.fa_ptr) (And.intro (@fd_58_0) (And.intro (@AM.ldO_agg) (And.intro (@AM.ldO_one) (And.intro (@AM.ld_ptr) (And.intro (@lk_56) (And.intro (@AM.op_binOp) (And.intro (@AM.op_delete) (And.intro (@AM.op_extract) (And.intro (@AM.op_fieldAddr) (And.intro (@AM.op_load) (And.intro (@AM.op_lookup) (@AM.op_nilCheck))))))))))))))))


/-! ### Bans in memory: cells, each once, and until when -/
def vU (L : IL) : List (Int × Value) := L.map fun q => (q.1, .int .u64 q.2)
theorem vU_get : ∀ (L : IL) (x : Int), mgetL (vU L) x = (getI L x).map (Value.int .u64)
  | [], _ => rfl
  | (k, v) :: l, x => by
    show mgetL ((k, .int .u64 v) :: vU l) x = _
    unfold mgetL getI
    split
    · rfl
    · exact vU_get l x
theorem vU_set : ∀ (L : IL) (x v : Int), msetL (vU L) x (.int .u64 v) = vU (setI L x v)
  | [], _, _ => rfl
  | (k, w) :: l, x, v => by
    show msetL ((k, .int .u64 w) :: vU l) x _ = _
    unfold msetL setI
    split
    · rfl
    · show _ = (k, Value.int .u64 w) :: vU (setI l x v)
      rw [← vU_set l x v]
theorem vU_del : ∀ (L : IL) (x : Int), mdelL (vU L) x = vU (delI L x)
  | [], _ => rfl
  | (k, w) :: l, x => by
    show mdelL ((k, .int .u64 w) :: vU l) x = _
    unfold mdelL delI
    split
    · rfl
    · show _ = (k, Value.int .u64 w) :: vU (delI l x)
      rw [← vU_del l x]
def fitU (q : Int × Int) : Prop := (0 ≤ q.1 ∧ q.1 < 1024) ∧ 0 ≤ q.2 ∧ q.2 < 18446744073709551616
def okU (L : IL) : Prop := (∀ q ∈ L, fitU q) ∧ (L.map (·.1)).Nodup ∧ L.length ≤ 64
theorem okU_nil : okU [] := ⟨by simp, by simp, by simp⟩
theorem prU_vU (L : IL) : (encM (vU L)).map prU = L := by
  simp only [encM, vU, List.map_map]
  exact (List.map_congr_left fun q _ => rfl).trans (List.map_id _)
theorem filt_vU (now : Int) (L : IL) : ((encM (vU L)).filter fun p => onP now (prU p)) = encM (vU (L.filter (onP now))) := by
  simp only [encM, vU, List.map_map, List.filter_map]
  rfl
theorem isW64_n {n : Int} (h0 : 0 ≤ n) (h1 : n < 1024) : isW64 (.int .i64 n) = true := by
  have e1 : IntKind.i64.min = -9223372036854775808 := by decide
  have e2 : IntKind.i64.max = 9223372036854775807 := by decide
  unfold isW64
  simp only [Lit.wf, e1, e2, Bool.and_eq_true, decide_eq_true_eq]
  omega
theorem isWU_n {n : Int} (h0 : 0 ≤ n) (h1 : n < 18446744073709551616) : isWU (.int .u64 n) = true := by
  have e1 : IntKind.u64.min = 0 := by decide
  have e2 : IntKind.u64.max = 18446744073709551615 := by decide
  unfold isWU
  simp only [Lit.wf, e1, e2, Bool.and_eq_true, decide_eq_true_eq]
  omega
theorem okU.es {L : IL} (ok : okU L) : okEsU (encM (vU L)) = true := by
  have h1 := ok.2.2
  unfold okEsU
  simp only [Bool.and_eq_true, decide_eq_true_eq, List.all_eq_true]
  refine ⟨by simp [encM, vU]; unfold roomy; omega, fun p hp => ?_⟩
  simp only [encM, vU, List.map_map, List.mem_map, Function.comp] at hp
  obtain ⟨q, hq, rfl⟩ := hp
  obtain ⟨⟨a, b⟩, c, d⟩ := ok.1 q hq
  exact ⟨isW64_n a b, isWU_n c d⟩
theorem okU.filter {L : IL} (ok : okU L) (f : Int × Int → Bool) : okU (L.filter f) :=
  ⟨fun q hq => ok.1 q (List.mem_filter.1 hq).1, (List.filter_sublist.map _).nodup ok.2.1, Nat.le_trans (List.length_filter_le _ _) ok.2.2⟩
theorem okU.del {L : IL} (ok : okU L) (x : Int) : okU (delI L x) :=
  ⟨fun q hq => ok.1 q ((delI_sub L x).subset hq), ((delI_sub L x).map _).nodup ok.2.1, Nat.le_trans (delI_sub L x).length_le ok.2.2⟩
theorem getI_mem : ∀ {L : IL} {x v : Int}, getI L x = some v → (x, v) ∈ L
  | (k, w) :: l, x, v, h => by
    unfold getI at h
    split at h
    · rename_i e; subst e; cases h; exact List.mem_cons_self
    · exact List.mem_cons_of_mem _ (getI_mem h)
theorem getI_none_iff : ∀ {L : IL} {x : Int}, getI L x = none ↔ x ∉ L.map (·.1)
  | [], x => by simp [getI]
  | (k, w) :: l, x => by
    unfold getI
    split
    · rename_i e; subst e; simp
    · rename_i e; rw [getI_none_iff]; simp [e]
theorem okU.set {L : IL} (ok : okU L) {x v : Int} (hx : fitU (x, v)) (hl : ¬ (getI L x = none ∧ 64 ≤ L.length)) : okU (setI L x v) := by
  have hlen : (setI L x v).length = ((setI L x v).map (·.1)).length := by simp
  refine ⟨fun q hq => (setI_mem hq).elim (ok.1 q) (fun e => by rw [e]; exact hx), ?_, ?_⟩
  · rw [setI_keys]
    split
    · exact ok.2.1
    · rename_i h
      rw [List.nodup_append]
      exact ⟨ok.2.1, by simp, fun a ha b hb e => by simp at hb; subst hb; exact h (e ▸ ha)⟩
  · rw [hlen, setI_keys]
    split
    · simpa using ok.2.2
    · rename_i h
      rw [← getI_none_iff] at h
      have := ok.2.2
      simp only [List.length_append, List.length_map, List.length_cons, List.length_nil]
      have : ¬ 64 ≤ L.length := fun q => hl ⟨h, q⟩
      omega

/-- Bans in memory: where the map lies, if there is one. -/
def Bd (h : AHeap) (p : Nat) (mo : Option Nat) (L : IL) : Prop :=
  h.get p = some (.cells [.map mo] 58 false) ∧ h.low ≤ p ∧ mo ≠ some p ∧
    match mo with
    | none => L = []
    | some m => h.get m = some (.map (encM (vU L))) ∧ h.low ≤ m
theorem Bd.fr {S : Nat → Prop} {h h' : AHeap} {p : Nat} {mo : Option Nat} {L : IL} (x : Bd h p mo L) (fr : Fr S h h') (hS : ∀ id, own p mo id → ¬ S id) : Bd h' p mo L := by
  obtain ⟨g, hl, hne, hm⟩ := x
  refine ⟨fr.get g (hS p (.inl rfl)), by rw [fr.low]; exact hl, hne, ?_⟩
  cases mo with
  | none => exact hm
  | some m => exact ⟨fr.get hm.1 (hS m (.inr rfl)), by rw [fr.low]; exact hm.2⟩
theorem Bd.fr0 {h h' : AHeap} {p : Nat} {mo : Option Nat} {L : IL} (x : Bd h p mo L) (fr : Fr none' h h') : Bd h' p mo L := x.fr fr fun _ _ q => q
theorem Bd.lt {h : AHeap} {p : Nat} {mo : Option Nat} {L : IL} (x : Bd h p mo L) {id : Nat} (hi : own p mo id) : id < h.next := by
  obtain ⟨g, hl, hne, hm⟩ := x
  rcases hi with rfl | rfl
  · exact AM.get_some_lt g
  · exact AM.get_some_lt hm.1
/-- What a call leaves of bans. -/
def BdTo (h : AHeap) (p : Nat) (mo : Option Nat) (L : IL) (K : AHeap → Prop) : Prop :=
  ∀ h' mo', Bd h' p mo' L → Fr (own p mo) h h' → (∀ id, mo' = some id → mo = some id ∨ h.next ≤ id) → K h'

theorem next_w {h : AHeap} {p : Nat} {mo : Option Nat} {L : IL} {now : Int} (x : Bd h p mo L) (ok : okU L) {Q : VQ} (hq : Q (.tuple #[.int .u64 (nxtP (L.filter (onP now))).1, .bool (nxtP (L.filter (onP now))).2]) h) : W 36 [pv p, .int .u64 now] h Q := by
  obtain ⟨g, hl, hne, hm⟩ := x
  refine AM.callW_prim hp (p := pNext) (by unfold prims; rfl) ⟨0, ?_⟩ hq
  show pNext _ _ _ = _
  unfold pNext
  have hl' := hl
  cases mo with
  | none =>
    subst hm
    simp only [Array.toList_empty, List.nil_append, List.append_nil, pv, g]
    simp [hl', nxtP]
  | some m =>
    simp only [Array.toList_empty, List.nil_append, List.append_nil, pv, g]
    simp only [List.getElem?_cons_zero, hm.1, hl', ok.es, and_self, if_true, prU_vU]
def bannedL (now : Int) (L : IL) : List Int := ((L.filter (onP now)).map (·.1)).mergeSort Go.leI
theorem bannedL_len (now : Int) (L : IL) : (bannedL now L).length = (L.filter (onP now)).length := by simp [bannedL]
theorem banned_w {h : AHeap} {p : Nat} {mo : Option Nat} {L : IL} {now : Int} (x : Bd h p mo L) (ok : okU L) {Q : VQ}
    (hq : ∀ v h', Ow h' 3 1 v (bannedL now L).length ((bannedL now L).map (.int .i64)) → Fr none' h h' → (∀ id, idOf v id → h.next ≤ id) → Q v h') : W 33 [pv p, .int .u64 now] h Q := by
  obtain ⟨g, hl, hne, hm⟩ := x
  have hlow : h.low ≤ h.next := by have := AM.get_some_lt g; omega
  have key : ∃ v h', pBanned (callE Try.prog prims 0) [pv p, .int .u64 now] h = some (v, h') ∧ Q v h' := by
    unfold pBanned
    have hl' := hl
    rw [bannedL_len] at hq
    cases mo with
    | none =>
      subst hm
      refine ⟨.slice none 0 0, h, ?_, hq _ _ (by simpa [bannedL] using Ow.nil h 3 1) (Fr.refl _ _) (fun id q => q.elim)⟩
      simp only [pv, g]
      simp [hl']
    | some m =>
      by_cases h0 : (L.filter (onP now)).length = 0
      · have e0 := List.eq_nil_of_length_eq_zero h0
        refine ⟨.slice none 0 0, h, ?_, hq _ _ (by simpa [bannedL, e0] using Ow.nil h 3 1) (Fr.refl _ _) (fun id q => q.elim)⟩
        simp only [pv, g]
        simp only [List.getElem?_cons_zero, hm.1, hl', ok.es, and_self, if_true, prU_vU, h0]
      · refine ⟨sliceTo h.next 0 (L.filter (onP now)).length (L.filter (onP now)).length, h.alloc (.cells ((bannedL now L).map (.int .i64)) 3 true), ?_, hq _ _ ?_ ((Fr.refl _ _).alloc _) (fun id q => ?_)⟩
        · simp only [pv, g]
          simp only [List.getElem?_cons_zero, hm.1, hl', ok.es, and_self, if_true, prU_vU, h0, if_false, bannedL]
        · have hfl := bannedL_len now L
          refine .inr ⟨h.next, 0, (L.filter (onP now)).length, (bannedL now L).map (.int .i64), true, rfl, Nat.le_refl _, by rw [AHeap.get_alloc, if_pos rfl], by simp [hfl], by simp [List.take_of_length_le, hfl], hlow⟩
        · have q : id = h.next := q; omega
  obtain ⟨v, h', e1, e2⟩ := key
  exact AM.callW_prim hp (p := pBanned) (by unfold prims; rfl) ⟨0, e1⟩ e2

def untilU (now : Int) (L : IL) (c : Int) : Int × Bool := if now < (getI L c).getD 0 then ((getI L c).getD 0, true) else (0, false)
theorem until_w {h : AHeap} {p : Nat} {mo : Option Nat} {L : IL} {now c : Int} (x : Bd h p mo L) (h0 : 0 ≤ now) {Q : VQ} (hq : Q (.tuple #[.int .u64 (untilU now L c).1, .bool (untilU now L c).2]) h) : W 34 [pv p, .int .u64 now, .int .i64 c] h Q := by
  obtain ⟨g, hl, hne, hm⟩ := x
  unfold untilU at hq
  refine AM.enter hp (fn := Try.f34) (rs := [.tmp 6, .tmp 7]) (nt := 26) (by kernel_rfl) Try.func34 rfl rfl rfl (by kernel_rfl) ?_
  cases mo with
  | none =>
    obtain rfl : L = [] := hm
    have d1 : decide ((0 : Int) ≤ now) = true := decide_eq_true h0
    (first | (simp (maxSteps := 1000000) (disch := first | omega | (simp only [AM.DB, List.length_set, List.length_map]; first | done | omega)) only [AM.RB, Nat.reduceAdd, Nat.reduceMul, Nat.reduceEqDiff, reduceCtorEq, b34_IY8, g, AM.lookup_nilmap mp_56, d1]) | skip)
    rw [if_neg (by simp [getI]; omega)] at hq
    exact hq
  | some m =>
    have gm := hm.1
    have e1 : ((getI L c).map (Value.int .u64)).getD (.int .u64 0) = .int .u64 ((getI L c).getD 0) := by cases getI L c <;> rfl
    by_cases hu : (getI L c).getD 0 ≤ now
    · have d1 : decide ((getI L c).getD 0 ≤ now) = true := decide_eq_true hu
      (first | (simp (maxSteps := 1000000) (disch := first | omega | (simp only [AM.DB, List.length_set, List.length_map]; first | done | omega)) only [AM.RB, Nat.reduceAdd, Nat.reduceMul, Nat.reduceEqDiff, reduceCtorEq, b34_IY8, g, AM.lookup_enc mp_56 gm, vU_get, e1, d1]) | skip)
      rw [if_neg (by omega)] at hq
      exact hq
    · have d1 : decide ((getI L c).getD 0 ≤ now) = false := decide_eq_false hu
      (first | (simp (maxSteps := 1000000) (disch := first | omega | (simp only [AM.DB, List.length_set, List.length_map]; first | done | omega)) only [AM.RB, Nat.reduceAdd, Nat.reduceMul, Nat.reduceEqDiff, reduceCtorEq, b34_IY8, g, AM.lookup_enc mp_56 gm, vU_get, e1, d1]) | skip)
      rw [if_pos (by omega)] at hq
      exact hq
theorem lift_w {h : AHeap} {p : Nat} {mo : Option Nat} {L : IL} {c : Int} (x : Bd h p mo L) {Q : VQ}
    (hq : BdTo h p mo (delI L c) fun h' => Q (.bool (getI L c).isSome) h') : W 31 [pv p, .int .i64 c] h Q := by
  obtain ⟨g, hl, hne, hm⟩ := x
  have hlt := AM.get_some_lt g
  refine AM.enter hp (fn := Try.f31) (rs := [.tmp 4]) (nt := 24) (by kernel_rfl) Try.func31 rfl rfl rfl (by kernel_rfl) ?_
  cases mo with
  | none =>
    obtain rfl : L = [] := hm
    (first | (simp (maxSteps := 1000000) (disch := first | omega | (simp only [AM.DB, List.length_set, List.length_map]; first | done | omega)) only [AM.RB, Nat.reduceAdd, Nat.reduceMul, Nat.reduceEqDiff, reduceCtorEq, b31_IY8, g, AM.lookup_nilmap2 mp_56, AM.delete_nil mp_56]) | skip)
    exact hq _ none ⟨g, hl, hne, rfl⟩ (Fr.refl _ _) (fun id e => .inl e)
  | some m =>
    have gm := hm.1
    have lm := hm.2
    have hltm := AM.get_some_lt gm
    have hmp : p ≠ m := fun e => hne (by rw [e])
    (first | (simp (maxSteps := 1000000) (disch := first | omega | (simp only [AM.DB, List.length_set, List.length_map]; first | done | omega)) only [AM.RB, Nat.reduceAdd, Nat.reduceMul, Nat.reduceEqDiff, reduceCtorEq, b31_IY8, g, AM.lookup_enc2 mp_56 gm, AM.delete_enc mp_56 gm lm]) | skip)
    cases hg : getI L c with
    | none =>
      rw [delI_none hg, hg] at hq
      rw [vU_get, hg]
      exact hq _ (some m) ⟨g, hl, hne, gm, lm⟩ (Fr.refl _ _) (fun id e => .inl e)
    | some v =>
      rw [hg] at hq
      rw [vU_get, hg]
      simp only [Option.map_some, Option.isSome_some, if_true, vU_del]
      exact hq _ (some m) ⟨by rw [AM.get_put_ne hmp]; exact g, hl, hne, AM.get_put_self rfl hltm, lm⟩ ((Fr.refl _ _).put _ (.inr (.inr rfl))) (fun id e => .inl e)
end Go.Proofs.Ytodcnfabnlojdaa

namespace Go.AM
variable {P : Program}
theorem len_enc {h : AHeap} {t k e : TypeId} (hu : P.underlying t = some (.map k e)) {id : Nat} {l : List (Int × Value)} (hg : h.get id = some (.map (encM l))) : aLen P h t (.map (some id)) = some (.int .i64 l.length) := by
  unfold aLen; rw [hu]; simp [hg, encM]
end Go.AM
namespace Go.Proofs.Ytodcnfabnlojdaa
open Go.AM
set_option maxRecDepth 8000
theorem b65_IY9 : type_of% (And.intro (@List.map_toArray.{0,0}) (And.intro (@AM.boxK_agg) (And.intro (@AM.boxK_bool) (And.intro (@AM.boxK_func) (And.intro (@AM.boxK_int) (And.intro (@AM.boxK_map) (And.intro (@AM.boxK_pointer) (And.intro (@AM.boxK_slice) (And.intro (@AM.boxK_string) (And.intro (@AM.op_box) (@AM.op_makeFunc))))))))))) := And.intro (@List.map_toArray.{0,0}) (And.intro (@AM.boxK_agg) (And.intro (@AM.boxK_bool) (And.intro (@AM.boxK_func) (And.intro (@AM.boxK_int) (And.intro (@AM.boxK_map) (And.intro (@AM.boxK_pointer) (And.intro (@AM.boxK_slice) (And.intro (@AM.boxK_string) (And.intro (@AM.op_box) (@AM.op_makeFunc))))))))))
theorem b29_IY9 : type_of% (And.intro (@Option.isNone_none.{0}) (And.intro (@Option.isNone_some.{0}) (And.intro (@AM.aMax_int) (And.intro (@AM.aMin_int) (And.intro (@AM.bin_add) (And.intro (@AM.bin_geq) (And.intro (@AM.bin_gtr) (And.intro (@AM.bin_lss) (And.intro (AM.bin_pnil ul_55) (And.intro (@AM.bin_sub) (And.intro (@AM.ex_tuple) (And.intro (@AM.fa_ptr) (And.intro (@fd_58_0) (And.intro (@AM.ldO_agg) (And.intro (@AM.ldO_one) (And.intro (@AM.ld_ptr) (And.intro (@lk_56) (And.intro (@AM.op_binOp) (And.intro (@AM.op_call) (And.intro (@AM.op_extract) (And.intro (@AM.op_fieldAddr) (And.intro (@AM.op_len) (And.intro (@AM.op_load) (And.intro (@AM.op_lookup) (And.intro (@AM.op_mapUpdate) (And.intro (@AM.op_max2) (And.intro (@AM.op_min2) (And.intro (@AM.op_nilCheck) (And.intro (@AM.op_store) (And.intro (@AM.op_unOp) (And.intro (@AM.stO_agg) (And.intro (@AM.stO_bool) (And.intro (@AM.stO_int) (And.intro (@AM.stO_map) (And.intro (@AM.stO_pointer) (And.intro (@AM.stO_slice) (And.intro (@AM.stO_string) (And.intro (@AM.st_ptr) (And.intro (@sz_56) (And.intro (@AM.un_neg) (@AM.un_not))))))))))))))))))))))))))))))))))))))))) := And.intro (@Option.isNone_none.{0}) (And.intro (@Option.isNone_some.{0}) (And.intro (@AM.aMax_int) (And.intro (@AM.aMin_int) (And.intro (@AM.bin_add) (And.intro (@AM.bin_geq) (And.intro (@AM.bin_gtr) (And.intro (@AM.bin_lss) (And.intro (AM.bin_pnil ul_55) (And.intro (@AM.bin_sub) (And.intro (@AM.ex_tuple) (And.intro (@AM.fa_ptr) (And.intro (@fd_58_0) (And.intro (@AM.ldO_agg) (And.intro (@AM.ldO_one) (And.intro (@AM.ld_ptr) (And.intro (@lk_56) (And.intro (@AM.op_binOp) (And.intro (@AM.op_call) (And.intro (@AM.op_extract) (And.intro (@AM.op_fieldAddr) (And.intro (@AM.op_len) (And.intro (@AM.op_load) (And.intro (@AM.op_lookup) (And.intro (@AM.op_mapUpdate) (And.intro (@AM.op_max2) (And.intro (@AM.op_min2) (And.intro (@AM.op_nilCheck) (And.intro (@AM.op_store) (And.intro (@AM.op_unOp) (And.intro (@AM.stO_agg) (And.intro (@AM.stO_bool) (And.intro (@AM.stO_int) (And.intro (@AM.stO_map) (And.intro (@AM.stO_pointer) (And.intro (@AM.stO_slice) (And.intro (@AM.stO_string) (And.intro (@AM.st_ptr) (And.intro (@sz_56) (And.intro (@AM.un_neg) (@AM.un_not))))))))))))))))))))))))))))))))))))))))


theorem vU_len (L : IL) : (vU L).length = L.length := by simp [vU]
theorem all_w {h : AHeap} {p : Nat} {now : Int} {Q : VQ} (hq : ∀ h2, h2.get h.next = some (.cells [pv p] 55 false) → h2.get (h.next + 1) = some (.cells [.int .u64 now] 29 false) → Fr none' h h2 → h2.next = h.next + 2 → h2.low = h.low →
    Q (.func (.func 76) #[] #[pv h.next, pv (h.next + 1)]) h2) : W 65 [pv p, .int .u64 now] h Q := by
  obtain ⟨h2, e2, ga, gb, fr2, n2, l2⟩ := two_new h [pv p] [.int .u64 now] 55 29
  refine AM.enter hp (fn := Try.f65) (rs := [.tmp 4]) (nt := 6) (by kernel_rfl) Try.func65 rfl rfl rfl (by kernel_rfl) ?_
  simp (maxSteps := 1000000) (disch := first | omega | (simp only [AM.DB, List.length_set, List.length_map]; first | done | omega)) only [AM.RB, Nat.reduceAdd, Nat.reduceMul, Nat.reduceEqDiff, reduceCtorEq, b65_IY9]
  rw [e2]
  exact hq h2 ga gb fr2 n2 l2
theorem collect_w {h : AHeap} {p a b : Nat} {mo : Option Nat} {L : IL} {now : Int} {ea eb : TypeId} (x : Bd h p mo L) (ok : okU L) (ga : h.get a = some (.cells [pv p] ea false)) (gb : h.get b = some (.cells [.int .u64 now] eb false)) (la : h.low ≤ a) (lb : h.low ≤ b) {Q : VQ}
    (hq : Q (.map (some h.next)) (h.alloc (.map (encM (vU (L.filter (onP now))))))) : W 64 [.func (.func 76) #[] #[pv a, pv b]] h Q := by
  obtain ⟨g, hl, hne, hm⟩ := x
  refine AM.callW_prim hp (p := pCollect) (by unfold prims; rfl) ⟨0, ?_⟩ hq
  show pCollect _ _ _ = _
  unfold pCollect
  cases mo with
  | none =>
    obtain rfl : L = [] := hm
    simp [pv, ga, gb, g, la, lb, hl, encM, vU]
  | some m =>
    simp only [Array.toList_empty, List.nil_append, List.append_nil, pv, ga, gb, g]
    simp only [List.getElem?_cons_zero, hm.1, hl, la, lb, ok.es, and_self, if_true, filt_vU]

/-- What Ban answers, and leaves. -/
def banP (now c t : Int) (L : IL) : Int × IL :=
  if ¬ (0 ≤ c ∧ c < 1024) then (2, L)
  else if getI (L.filter (onP now)) c = none ∧ 64 ≤ (L.filter (onP now)).length then (180, L.filter (onP now))
  else (0, if 0 < t then setI (L.filter (onP now)) c (max ((getI (L.filter (onP now)) c).getD 0) (now + min t (18446744073709551615 - now))) else L.filter (onP now))
theorem getI_fit {L : IL} (ok : okU L) (c : Int) : 0 ≤ (getI L c).getD 0 ∧ (getI L c).getD 0 < 18446744073709551616 := by
  cases hg : getI L c with
  | none => simp
  | some v => exact (ok.1 _ (getI_mem hg)).2
theorem banP_ok {L : IL} (ok : okU L) {now c t : Int} (hn : 0 ≤ now ∧ now < 18446744073709551616) (ht : 0 ≤ t) : okU (banP now c t L).2 := by
  unfold banP
  split
  · exact ok
  · rename_i hc
    split
    · exact ok.filter _
    · rename_i h
      simp only
      split
      · refine (ok.filter _).set ⟨by omega, ?_⟩ h
        have := getI_fit (ok.filter (onP now)) c
        simp only
        omega
      · exact ok.filter _

theorem ban_w {h : AHeap} {p : Nat} {mo : Option Nat} {L : IL} {now c t : Int} (x : Bd h p mo L) (ok : okU L) (hn : 0 ≤ now ∧ now < 18446744073709551616) (ht : 0 ≤ t ∧ t < 18446744073709551616) {Q : VQ}
    (hq : BdTo h p mo (banP now c t L).2 fun h' => Q (.int .i64 (banP now c t L).1) h') : W 29 [pv p, .int .u64 now, .int .i64 c, .int .u64 t] h Q := by
  have hlt0 := AM.get_some_lt x.1
  refine AM.enter hp (fn := Try.f29) (rs := [.tmp 8]) (nt := 67) (by kernel_rfl) Try.func29 rfl rfl rfl (by kernel_rfl) ?_
  by_cases c0 : c < 0
  · have d0 : decide (c < 0) = true := decide_eq_true c0
    (repeat' (first | (simp (maxSteps := 1000000) (disch := first | omega | (simp only [AM.DB, List.length_set, List.length_map]; first | done | omega)) only [AM.RB, Nat.reduceAdd, Nat.reduceMul, Nat.reduceEqDiff, reduceCtorEq, b29_IY9, d0]) | refine AM.drawW_fine hp (by kernel_rfl) (by kernel_rfl) (by kernel_rfl) ?_ | refine AM.opW_tied (by kernel_rfl) ?_ | refine AM.opW_untied (by kernel_rfl) ?_))
    rw [show banP now c t L = (2, L) by unfold banP; rw [if_pos (by omega)]] at hq
    exact hq _ mo x (Fr.refl _ _) (fun id e => .inl e)
  have d0 : decide (c < 0) = false := decide_eq_false c0
  by_cases c1 : 1024 ≤ c
  · have d1 : decide (1024 ≤ c) = true := decide_eq_true c1
    (repeat' (first | (simp (maxSteps := 1000000) (disch := first | omega | (simp only [AM.DB, List.length_set, List.length_map]; first | done | omega)) only [AM.RB, Nat.reduceAdd, Nat.reduceMul, Nat.reduceEqDiff, reduceCtorEq, b29_IY9, d0, d1]) | refine AM.drawW_fine hp (by kernel_rfl) (by kernel_rfl) (by kernel_rfl) ?_ | refine AM.opW_tied (by kernel_rfl) ?_ | refine AM.opW_untied (by kernel_rfl) ?_))
    rw [show banP now c t L = (2, L) by unfold banP; rw [if_pos (by omega)]] at hq
    exact hq _ mo x (Fr.refl _ _) (fun id e => .inl e)
  have d1 : decide (1024 ≤ c) = false := decide_eq_false c1
  (repeat' (first | (simp (maxSteps := 1000000) (disch := first | omega | (simp only [AM.DB, List.length_set, List.length_map]; first | done | omega)) only [AM.RB, Nat.reduceAdd, Nat.reduceMul, Nat.reduceEqDiff, reduceCtorEq, b29_IY9, d0, d1]) | refine AM.drawW_fine hp (by kernel_rfl) (by kernel_rfl) (by kernel_rfl) ?_ | refine AM.opW_tied (by kernel_rfl) ?_ | refine AM.opW_untied (by kernel_rfl) ?_))
  refine all_w fun h2 ga gb fr2 n2 l2 => ?_
  have x2 := x.fr0 fr2
  have lw := x.2.1
  (repeat' (first | (simp (maxSteps := 1000000) (disch := first | omega | (simp only [AM.DB, List.length_set, List.length_map]; first | done | omega)) only [AM.RB, Nat.reduceAdd, Nat.reduceMul, Nat.reduceEqDiff, reduceCtorEq, b29_IY9]) | refine AM.drawW_fine hp (by kernel_rfl) (by kernel_rfl) (by kernel_rfl) ?_ | refine AM.opW_tied (by kernel_rfl) ?_ | refine AM.opW_untied (by kernel_rfl) ?_))
  refine collect_w x2 ok ga gb (by omega) (by omega) ?_
  have g2 := x2.1
  have gn : (h2.alloc (.map (encM (vU (L.filter (onP now)))))).get p = some (.cells [.map mo] 58 false) := by rw [AM.get_alloc_ne (Nat.ne_of_lt (AM.get_some_lt g2))]; exact g2
  have gm := AM.get_alloc_self (h := h2) (o := .map (encM (vU (L.filter (onP now))))) rfl
  have hlp : (h2.alloc (.map (encM (vU (L.filter (onP now)))))).low ≤ p := by rw [AHeap.low_alloc]; omega
  have hlm : (h2.alloc (.map (encM (vU (L.filter (onP now)))))).low ≤ h2.next := by rw [AHeap.low_alloc]; omega
  have frm : Fr none' h (h2.alloc (.map (encM (vU (L.filter (onP now)))))) := fr2.alloc _
  have nxm : (h2.alloc (.map (encM (vU (L.filter (onP now)))))).next = h2.next + 1 := rfl
  generalize h2.alloc (.map (encM (vU (L.filter (onP now))))) = h3 at *
  have lt3 := AM.get_some_lt gn
  obtain ⟨h4, e4⟩ : ∃ h4, h3.put p (some (.cells [.map (some h2.next)] 58 false)) = h4 := ⟨_, rfl⟩
  obtain ⟨gp, fr4, n4, l4⟩ := AM.put_get e4 lt3
  have hne : h2.next ≠ p := by omega
  have gm4 := fr4.get gm hne
  have lm4 : h4.low ≤ h2.next := by omega
  have lp4 : h4.low ≤ p := by omega
  have okF := ok.filter (onP now)
  have hc0 : ¬ ¬ (0 ≤ c ∧ c < 1024) := by omega
  unfold banP at hq
  rw [if_neg hc0] at hq
  generalize L.filter (onP now) = P at *
  have fr04 : Fr (own p mo) h h4 := frm.weak.then fr4 fun id _ q => .inl q
  have e1 : ∀ z, ((getI P z).map (Value.int .u64)).getD (.int .u64 0) = .int .u64 ((getI P z).getD 0) := fun z => by cases getI P z <;> rfl
  have bnd := getI_fit okF c
  have b4 : Bd h4 p (some h2.next) P := ⟨gp, lp4, fun e => hne (by cases e; rfl), gm4, lm4⟩
  have nw : ∀ id, some h2.next = some id → mo = some id ∨ h.next ≤ id := fun id e => .inr (by cases e; omega)
  (repeat' (first | (simp (maxSteps := 1000000) (disch := first | omega | (simp only [AM.DB, List.length_set, List.length_map]; first | done | omega)) only [AM.RB, Nat.reduceAdd, Nat.reduceMul, Nat.reduceEqDiff, reduceCtorEq, b29_IY9, gn]) | refine AM.drawW_fine hp (by kernel_rfl) (by kernel_rfl) (by kernel_rfl) ?_ | refine AM.opW_tied (by kernel_rfl) ?_ | refine AM.opW_untied (by kernel_rfl) ?_))
  rw [e4]
  have is1 : ((getI P c).map (Value.int .u64)).isSome = (getI P c).isSome := by cases getI P c <;> rfl
  by_cases hf : getI P c = none ∧ 64 ≤ P.length
  · have di : (getI P c).isSome = false := by rw [hf.1]; rfl
    have dl : decide ((64 : Int) ≤ P.length) = true := decide_eq_true (by omega)
    rw [if_pos hf] at hq
    (repeat' (first | (simp (maxSteps := 1000000) (disch := first | omega | (simp only [AM.DB, List.length_set, List.length_map]; first | done | omega)) only [AM.RB, Nat.reduceAdd, Nat.reduceMul, Nat.reduceEqDiff, reduceCtorEq, b29_IY9, gp, AM.lookup_enc2 mp_56 gm4, vU_get, e1, is1, di, AM.len_enc ul_56 gm4, vU_len, dl]) | refine AM.drawW_fine hp (by kernel_rfl) (by kernel_rfl) (by kernel_rfl) ?_ | refine AM.opW_tied (by kernel_rfl) ?_ | refine AM.opW_untied (by kernel_rfl) ?_))
    exact hq _ _ b4 fr04 nw
  rw [if_neg hf] at hq
  have m0 := AM.lookup_enc2 mp_56 gm4 c
  rw [vU_get, e1, is1] at m0
  have m1 := AM.lookup_enc mp_56 gm4 c
  rw [vU_get, e1] at m1
  have w1 : IntKind.u64.wrap (18446744073709551615 - now) = 18446744073709551615 - now := AM.wrap_u64 (by omega) (by omega)
  have mn : (if 18446744073709551615 - now < t then 18446744073709551615 - now else t) = min t (18446744073709551615 - now) := by split <;> omega
  have w2 : IntKind.u64.wrap (now + min t (18446744073709551615 - now)) = now + min t (18446744073709551615 - now) := AM.wrap_u64 (by omega) (by omega)
  have lt4 := AM.get_some_lt gm4
  have fin : ∀ P' : IL, Bd (h4.put h2.next (some (.map (encM (vU P'))))) p (some h2.next) P' ∧ Fr (own p mo) h (h4.put h2.next (some (.map (encM (vU P'))))) := fun P' =>
    ⟨⟨by rw [AM.get_put_ne (fun e => hne e.symm)]; exact gp, lp4, b4.2.2.1, AM.get_put_self rfl lt4, lm4⟩, fr04.put _ (.inl (by omega))⟩
  cases his : (getI P c).isSome with
  | true =>
    rw [his] at m0
    by_cases t0 : 0 < t
    · have dt : decide (0 < t) = true := decide_eq_true t0
      rw [if_pos t0] at hq
      (repeat' (first | (simp (maxSteps := 1000000) (disch := first | omega | (simp only [AM.DB, List.length_set, List.length_map]; first | done | omega)) only [AM.RB, Nat.reduceAdd, Nat.reduceMul, Nat.reduceEqDiff, reduceCtorEq, b29_IY9, gp, m0, dt, m1, w1, mn, w2, AM.update_enc mp_56 gm4 lm4, vU_set]) | refine AM.drawW_fine hp (by kernel_rfl) (by kernel_rfl) (by kernel_rfl) ?_ | refine AM.opW_tied (by kernel_rfl) ?_ | refine AM.opW_untied (by kernel_rfl) ?_))
      exact hq _ _ (fin _).1 (fin _).2 nw
    · have dt : decide (0 < t) = false := decide_eq_false t0
      rw [if_neg t0] at hq
      (repeat' (first | (simp (maxSteps := 1000000) (disch := first | omega | (simp only [AM.DB, List.length_set, List.length_map]; first | done | omega)) only [AM.RB, Nat.reduceAdd, Nat.reduceMul, Nat.reduceEqDiff, reduceCtorEq, b29_IY9, gp, m0, dt]) | refine AM.drawW_fine hp (by kernel_rfl) (by kernel_rfl) (by kernel_rfl) ?_ | refine AM.opW_tied (by kernel_rfl) ?_ | refine AM.opW_untied (by kernel_rfl) ?_))
      exact hq _ _ b4 fr04 nw
  | false =>
    rw [his] at m0
    have hn0 : getI P c = none := Option.isNone_iff_eq_none.1 (by rw [← Option.not_isSome, his]; rfl)
    have dl : decide ((64 : Int) ≤ P.length) = false := decide_eq_false (fun q => hf ⟨hn0, by omega⟩)
    by_cases t0 : 0 < t
    · have dt : decide (0 < t) = true := decide_eq_true t0
      rw [if_pos t0] at hq
      (repeat' (first | (simp (maxSteps := 1000000) (disch := first | omega | (simp only [AM.DB, List.length_set, List.length_map]; first | done | omega)) only [AM.RB, Nat.reduceAdd, Nat.reduceMul, Nat.reduceEqDiff, reduceCtorEq, b29_IY9, gp, m0, AM.len_enc ul_56 gm4, vU_len, dl, dt, m1, w1, mn, w2, AM.update_enc mp_56 gm4 lm4, vU_set]) | refine AM.drawW_fine hp (by kernel_rfl) (by kernel_rfl) (by kernel_rfl) ?_ | refine AM.opW_tied (by kernel_rfl) ?_ | refine AM.opW_untied (by kernel_rfl) ?_))
      exact hq _ _ (fin _).1 (fin _).2 nw
    · have dt : decide (0 < t) = false := decide_eq_false t0
      rw [if_neg t0] at hq
      (repeat' (first | (simp (maxSteps := 1000000) (disch := first | omega | (simp only [AM.DB, List.length_set, List.length_map]; first | done | omega)) only [AM.RB, Nat.reduceAdd, Nat.reduceMul, Nat.reduceEqDiff, reduceCtorEq, b29_IY9, gp, m0, AM.len_enc ul_56 gm4, vU_len, dl, dt]) | refine AM.drawW_fine hp (by kernel_rfl) (by kernel_rfl) (by kernel_rfl) ?_ | refine AM.opW_tied (by kernel_rfl) ?_ | refine AM.opW_untied (by kernel_rfl) ?_))
      exact hq _ _ b4 fr04 nw
end Go.Proofs.Ytodcnfabnlojdaa

namespace Go.Proofs.Ytodcnfabnlojdaa
open Go.AM
set_option maxRecDepth 8000
theorem b38_IY10 : type_of% (And.intro (@AM.bin_add) (And.intro (@AM.bin_lss) (And.intro (@AM.bin_neq) (And.intro (@AM.iaO_ok) (And.intro (AM.ia_slice el_22) (And.intro (@AM.ldO_agg) (And.intro (@AM.ldO_one) (And.intro (@AM.ld_ptr) (And.intro (AM.len_slice ul_22) (And.intro (@lk_3) (And.intro (@AM.op_binOp) (And.intro (@AM.op_indexAddr) (And.intro (@AM.op_len) (@AM.op_load)))))))))))))) := And.intro (@AM.bin_add) (And.intro (@AM.bin_lss) (And.intro (@AM.bin_neq) (And.intro (@AM.iaO_ok) (And.intro (AM.ia_slice el_22) (And.intro (@AM.ldO_agg) (And.intro (@AM.ldO_one) (And.intro (@AM.ld_ptr) (And.intro (AM.len_slice ul_22) (And.intro (@lk_3) (And.intro (@AM.op_binOp) (And.intro (@AM.op_indexAddr) (And.intro (@AM.op_len) (@AM.op_load)))))))))))))
theorem sameY_w {sa sb : Value} {na nb : Nat} {la lb : List Int} {h : AHeap} (ha : Rd h 3 1 sa na (la.map (.int .i64))) (hb : Rd h 3 1 sb nb (lb.map (.int .i64))) (hn : na ≤ 4000000000) {Q : VQ}
    (hq : Q (.bool (decide (la = lb))) h) : W 38 [sa, sb] h Q := by
  obtain ⟨aa, ca, rfl⟩ := ha.form
  obtain ⟨ab, cb, rfl⟩ := hb.form
  have hla : la.length = na := by simpa using ha.length
  have hlb : lb.length = nb := by simpa using hb.length
  refine AM.enter hp (fn := Try.f38) (rs := [.tmp 4]) (nt := 26) (by kernel_rfl) Try.func38 rfl rfl rfl (by kernel_rfl) ?_
  simp (maxSteps := 1000000) (disch := first | omega | (simp only [AM.DB, List.length_set, List.length_map]; first | done | omega)) only [AM.RB, Nat.reduceAdd, Nat.reduceMul, Nat.reduceEqDiff, reduceCtorEq, b38_IY10]
  refine AM.condV_split (fun he => ?_) (fun he => ?_)
  case' refine_2 =>
    simp (maxSteps := 1000000) (disch := first | omega | (simp only [AM.DB, List.length_set, List.length_map]; first | done | omega)) only [AM.RB, Nat.reduceAdd, Nat.reduceMul, Nat.reduceEqDiff, reduceCtorEq, b38_IY10]
    have : decide (la = lb) = false := by
      rw [decide_eq_false_iff_not]; rintro rfl; omega
    rw [this] at hq; exact hq
  have he' : na = nb := by omega
  subst he'
  simp (maxSteps := 1000000) (disch := first | omega | (simp only [AM.DB, List.length_set, List.length_map]; first | done | omega)) only [AM.RB, Nat.reduceAdd, Nat.reduceMul, Nat.reduceEqDiff, reduceCtorEq, b38_IY10]
  refine AM.loop_w hp 26 (fun i : Nat => [(0, .slice aa na ca), (1, .slice ab na cb), (12, .int .i64 na), (13, .int .i64 i)])
    (fun i h' => i ≤ na ∧ h' = h ∧ ∀ j, j < i → la.getD j 0 = lb.getD j 0) (fun i => na - i) (by kernel_rfl) 0 ?_ ?_ ?_
  · simp (maxSteps := 1000000) (disch := first | omega | (simp only [AM.DB, List.length_set, List.length_map]; first | done | omega)) only [AM.RB, Nat.reduceAdd, Nat.reduceMul, Nat.reduceEqDiff, reduceCtorEq, b38_IY10]
  · exact ⟨Nat.zero_le _, rfl, fun j hj => by omega⟩
  · rintro i h1 ρ ⟨hi, rfl, hall⟩
    simp (maxSteps := 1000000) (disch := first | omega | (simp only [AM.DB, List.length_set, List.length_map]; first | done | omega)) only [AM.RB, Nat.reduceAdd, Nat.reduceMul, Nat.reduceEqDiff, reduceCtorEq, b38_IY10]
    refine AM.condV_split (fun hlt => ?_) (fun hlt => ?_)
    · simp (maxSteps := 1000000) (disch := first | omega | (simp only [AM.DB, List.length_set, List.length_map]; first | done | omega)) only [AM.RB, Nat.reduceAdd, Nat.reduceMul, Nat.reduceEqDiff, reduceCtorEq, b38_IY10]
      refine AM.drawW_fine hp (by kernel_rfl) (by kernel_rfl) (by kernel_rfl) ?_
      simp (maxSteps := 1000000) (disch := first | omega | (simp only [AM.DB, List.length_set, List.length_map]; first | done | omega)) only [AM.RB, Nat.reduceAdd, Nat.reduceMul, Nat.reduceEqDiff, reduceCtorEq, b38_IY10, ha.ia el_22, ha.ldi lk_3, hb.ia el_22, hb.ldi lk_3]
      refine AM.condV_split (fun heq => ?_) (fun heq => ?_)
      · simp (maxSteps := 1000000) (disch := first | omega | (simp only [AM.DB, List.length_set, List.length_map]; first | done | omega)) only [AM.RB, Nat.reduceAdd, Nat.reduceMul, Nat.reduceEqDiff, reduceCtorEq, b38_IY10, AM.wrap_i64]
        refine ⟨i + 1, by omega, ?_, by omega, fun j hj => ?_⟩
        · simp (maxSteps := 1000000) (disch := first | omega | (simp only [AM.DB, List.length_set, List.length_map]; first | done | omega)) only [AM.RB, Nat.reduceAdd, Nat.reduceMul, Nat.reduceEqDiff, reduceCtorEq, b38_IY10]
        · by_cases e : j = i
          · subst e; simpa using heq
          · exact hall j (by omega)
      · simp (maxSteps := 1000000) (disch := first | omega | (simp only [AM.DB, List.length_set, List.length_map]; first | done | omega)) only [AM.RB, Nat.reduceAdd, Nat.reduceMul, Nat.reduceEqDiff, reduceCtorEq, b38_IY10]
        have : decide (la = lb) = false := by
          rw [decide_eq_false_iff_not]; rintro rfl; exact heq rfl
        rw [this] at hq; exact hq
    · simp (maxSteps := 1000000) (disch := first | omega | (simp only [AM.DB, List.length_set, List.length_map]; first | done | omega)) only [AM.RB, Nat.reduceAdd, Nat.reduceMul, Nat.reduceEqDiff, reduceCtorEq, b38_IY10]
      have : decide (la = lb) = true := by
        rw [decide_eq_true_iff]
        refine List.ext_getElem (by omega) fun j h2 h3 => ?_
        have := hall j (by omega)
        simpa [List.getD, h2, h3] using this
      rw [this] at hq; exact hq

/-- Bans made since h0. -/
def Bz (h0 h : AHeap) (p : Nat) (mo : Option Nat) (L : IL) : Prop := Bd h p mo L ∧ Fr none' h0 h ∧ ∀ id, own p mo id → h0.next ≤ id
theorem Bz.step {h0 h : AHeap} {p : Nat} {mo : Option Nat} {L L' : IL} (x : Bz h0 h p mo L) {K : AHeap → Prop} (k : ∀ h' mo', Bz h0 h' p mo' L' → K h') : BdTo h p mo L' K :=
  fun h' mo' x' fr' hm => k h' mo' ⟨x', x.2.1.fresh fr' x.2.2, fun id q => q.elim (fun e => x.2.2 id (.inl e)) fun e => (hm id e).elim (fun e' => x.2.2 id (.inr e')) (fun e' => Nat.le_trans x.2.1.next e')⟩
theorem Bz.fr0 {h0 h h' : AHeap} {p : Nat} {mo : Option Nat} {L : IL} (x : Bz h0 h p mo L) (fr : Fr none' h h') : Bz h0 h' p mo L := ⟨x.1.fr0 fr, x.2.1.trans fr, x.2.2⟩
theorem Bz.new (h : AHeap) (hl : h.low ≤ h.next) : Bz h (h.alloc (.cells [.map none] 58 false)) h.next none [] :=
  ⟨⟨AM.get_alloc_self rfl, hl, by simp, rfl⟩, (Fr.refl _ _).alloc _, fun id q => q.elim (fun e => by omega) (fun e => by cases e)⟩

end Go.Proofs.Ytodcnfabnlojdaa

namespace Go.Proofs.Ytodcnfabnlojdaa
open Go.AM
set_option maxRecDepth 8000
theorem b66_IY13 : type_of% (And.intro (@AM.bin_add) (And.intro (@AM.bin_eql) (And.intro (@AM.bin_lss) (And.intro (@AM.fa_ptr) (And.intro (@fd_102_0) (And.intro (@fd_62_0) (And.intro (@AM.iaO_ok) (And.intro (AM.ia_slice el_60) (And.intro (@AM.ldO_agg) (And.intro (@AM.ldO_one) (And.intro (@AM.ld_ptr) (And.intro (AM.len_slice ul_60) (And.intro (@lk_3) (And.intro (@lk_60) (And.intro (@AM.op_binOp) (And.intro (@AM.op_fieldAddr) (And.intro (@AM.op_indexAddr) (And.intro (@AM.op_len) (And.intro (@AM.op_load) (@AM.op_nilCheck)))))))))))))))))))) := And.intro (@AM.bin_add) (And.intro (@AM.bin_eql) (And.intro (@AM.bin_lss) (And.intro (@AM.fa_ptr) (And.intro (@fd_102_0) (And.intro (@fd_62_0) (And.intro (@AM.iaO_ok) (And.intro (AM.ia_slice el_60) (And.intro (@AM.ldO_agg) (And.intro (@AM.ldO_one) (And.intro (@AM.ld_ptr) (And.intro (AM.len_slice ul_60) (And.intro (@lk_3) (And.intro (@lk_60) (And.intro (@AM.op_binOp) (And.intro (@AM.op_fieldAddr) (And.intro (@AM.op_indexAddr) (And.intro (@AM.op_len) (And.intro (@AM.op_load) (@AM.op_nilCheck)))))))))))))))))))
theorem b35_IY13 : type_of% (And.intro (@AM.bin_leq) (And.intro (@AM.bin_lss) (And.intro (@AM.fa_ptr) (And.intro (@fd_102_1) (And.intro (@fd_62_0) (And.intro (@AM.iaO_ok) (And.intro (AM.ia_slice el_60) (And.intro (@AM.ldO_agg) (And.intro (@AM.ldO_one) (And.intro (@AM.ld_ptr) (And.intro (@lk_29) (And.intro (@lk_60) (And.intro (@AM.op_binOp) (And.intro (@AM.op_call) (And.intro (@AM.op_fieldAddr) (And.intro (@AM.op_indexAddr) (And.intro (@AM.op_load) (And.intro (@AM.op_nilCheck) (@AM.resL_two))))))))))))))))))) := And.intro (@AM.bin_leq) (And.intro (@AM.bin_lss) (And.intro (@AM.fa_ptr) (And.intro (@fd_102_1) (And.intro (@fd_62_0) (And.intro (@AM.iaO_ok) (And.intro (AM.ia_slice el_60) (And.intro (@AM.ldO_agg) (And.intro (@AM.ldO_one) (And.intro (@AM.ld_ptr) (And.intro (@lk_29) (And.intro (@lk_60) (And.intro (@AM.op_binOp) (And.intro (@AM.op_call) (And.intro (@AM.op_fieldAddr) (And.intro (@AM.op_indexAddr) (And.intro (@AM.op_load) (And.intro (@AM.op_nilCheck) (@AM.resL_two))))))))))))))))))


/-! ### The reference's bans: a slice of cells and ticks -/
abbrev encB (q : Int × Int) : List Value := [.int .i64 q.1, .int .u64 q.2]
abbrev dB : Int × Int := (0, 0)
theorem encB_len (q : Int × Int) : (encB q).length = 2 := rfl
theorem encB_one (L : IL) : (L.flatMap encB).all (·.oneCell') = true := by
  simp only [List.all_flatMap, List.all_eq_true]
  intro q _ x hx
  simp only [encB, List.mem_cons, List.not_mem_nil, or_false] at hx
  rcases hx with rfl | rfl <;> rfl
def Rb (h : AHeap) (q : Nat) (s : Value) (L : IL) : Prop :=
  h.get q = some (.cells [s] 62 false) ∧ h.low ≤ q ∧ Ow h 102 2 s L.length (L.flatMap encB) ∧ ∀ id, idOf s id → id ≠ q
def ownR (q : Nat) (s : Value) (id : Nat) : Prop := id = q ∨ idOf s id
theorem Rb.fr {S : Nat → Prop} {h h' : AHeap} {q : Nat} {s : Value} {L : IL} (x : Rb h q s L) (fr : Fr S h h') (hS : ∀ id, ownR q s id → ¬ S id) : Rb h' q s L :=
  ⟨fr.get x.1 (hS q (.inl rfl)), by rw [fr.low]; exact x.2.1, x.2.2.1.fr fr (fun id i => hS id (.inr i)), x.2.2.2⟩
theorem Rb.fr0 {h h' : AHeap} {q : Nat} {s : Value} {L : IL} (x : Rb h q s L) (fr : Fr none' h h') : Rb h' q s L := x.fr fr fun _ _ i => i
theorem Rb.lt {h : AHeap} {q : Nat} {s : Value} {L : IL} (x : Rb h q s L) {id : Nat} (hi : ownR q s id) : id < h.next := by
  rcases hi with rfl | i
  · exact AM.get_some_lt x.1
  · exact x.2.2.1.lt i

theorem getI_at : ∀ (L : IL) (c : Int) (i : Nat), i < L.length → (L.getD i dB).1 = c → (∀ j, j < i → (L.getD j dB).1 ≠ c) →
    getI L c = some (L.getD i dB).2 ∧ (∀ v, setI L c v = L.set i (c, v)) ∧ delI L c = L.take i ++ L.drop (i + 1)
  | (k, w) :: l, c, 0, _, e, _ => by
    have e : k = c := e
    subst e
    exact ⟨by simp [getI], fun v => by simp [setI], by simp [delI]⟩
  | (k, w) :: l, c, i + 1, hi, e, hn => by
    have h0 : k ≠ c := hn 0 (by omega)
    obtain ⟨h1, h2, h3⟩ := getI_at l c i (by simpa using hi) (by simpa using e) (fun j hj => by simpa using hn (j + 1) (by omega))
    refine ⟨?_, fun v => ?_, ?_⟩
    · unfold getI; rw [if_neg (fun e => h0 e.symm)]; simpa using h1
    · unfold setI; rw [if_neg (fun e => h0 e.symm), h2]; rfl
    · unfold delI; rw [if_neg (fun e => h0 e.symm), h3]; rfl
theorem getI_no : ∀ (L : IL) (c : Int), (∀ j, j < L.length → (L.getD j dB).1 ≠ c) → getI L c = none ∧ (∀ v, setI L c v = L ++ [(c, v)]) ∧ delI L c = L
  | [], c, _ => ⟨rfl, fun _ => rfl, rfl⟩
  | (k, w) :: l, c, hn => by
    have h0 : k ≠ c := hn 0 (by simp)
    obtain ⟨h1, h2, h3⟩ := getI_no l c (fun j hj => by simpa using hn (j + 1) (by simpa using hj))
    refine ⟨?_, fun v => ?_, ?_⟩
    · unfold getI; rw [if_neg (fun e => h0 e.symm)]; exact h1
    · unfold setI; rw [if_neg (fun e => h0 e.symm), h2]; rfl
    · unfold delI; rw [if_neg (fun e => h0 e.symm), h3]

theorem refFind_w {h : AHeap} {q : Nat} {s : Value} {L : IL} {c : Int} (x : Rb h q s L) (hn : L.length ≤ 1000000) {Q : VQ}
    (h1 : ∀ i, i < L.length → L.getD i dB = (c, (L.getD i dB).2) → getI L c = some (L.getD i dB).2 → (∀ v, setI L c v = L.set i (c, v)) → delI L c = L.take i ++ L.drop (i + 1) → Q (.int .i64 i) h)
    (h2 : getI L c = none → (∀ v, setI L c v = L ++ [(c, v)]) → delI L c = L → Q (.int .i64 (-1)) h) : W 66 [pv q, .int .i64 c] h Q := by
  obtain ⟨g, hl, ow, hne⟩ := x
  obtain ⟨sa, sc, rfl⟩ := ow.form
  have rd := ow.rd
  refine AM.enter hp (fn := Try.f66) (rs := [.tmp 4]) (nt := 26) (by kernel_rfl) Try.func66 rfl rfl rfl (by kernel_rfl) ?_
  simp (maxSteps := 1000000) (disch := first | omega | (simp only [AM.DB, List.length_set, List.length_map]; first | done | omega)) only [AM.RB, Nat.reduceAdd, Nat.reduceMul, Nat.reduceEqDiff, reduceCtorEq, b66_IY13]
  refine AM.loop_w hp 26 (fun i : Nat => [(0, pv q), (1, .int .i64 c), (4, .int .i64 0), (5, .int .i64 i)])
    (fun i h' => h' = h ∧ i ≤ L.length ∧ ∀ j, j < i → (L.getD j dB).1 ≠ c) (fun i => L.length - i) (by kernel_rfl) 0 ?_ ?_ ?_
  · simp (maxSteps := 1000000) (disch := first | omega | (simp only [AM.DB, List.length_set, List.length_map]; first | done | omega)) only [AM.RB, Nat.reduceAdd, Nat.reduceMul, Nat.reduceEqDiff, reduceCtorEq, b66_IY13]
    first | rfl | skip
  · exact ⟨rfl, Nat.zero_le _, fun j hj => by omega⟩
  rintro i hh ρ ⟨rfl, hi, hall⟩
  (first | (simp (maxSteps := 1000000) (disch := first | omega | (simp only [AM.DB, List.length_set, List.length_map]; first | done | omega)) only [AM.RB, Nat.reduceAdd, Nat.reduceMul, Nat.reduceEqDiff, reduceCtorEq, b66_IY13, g]) | skip)
  refine AM.condV_split (fun hlt => ?_) (fun hlt => ?_)
  · have hin : i < L.length := by omega
    by_cases he : (L.getD i dB).1 = c
    · have de : decide ((L.getD i dB).1 = c) = true := decide_eq_true he
      obtain ⟨e1, e2, e3⟩ := getI_at L c i hin he hall
      (first | (simp (maxSteps := 1000000) (disch := first | omega | (simp only [AM.DB, List.length_set, List.length_map]; first | done | omega)) only [AM.RB, Nat.reduceAdd, Nat.reduceMul, Nat.reduceEqDiff, reduceCtorEq, b66_IY13, g, rd.ia el_60, rd.fa fd_102_0, rd.ldsF encB_len lk_3 rfl dB, Int.toNat_natCast, encB, de]) | skip)
      exact h1 i hin (by rw [← he]) e1 e2 e3
    · have de : decide ((L.getD i dB).1 = c) = false := decide_eq_false he
      (first | (simp (maxSteps := 1000000) (disch := first | omega | (simp only [AM.DB, List.length_set, List.length_map]; first | done | omega)) only [AM.RB, Nat.reduceAdd, Nat.reduceMul, Nat.reduceEqDiff, reduceCtorEq, b66_IY13, g, rd.ia el_60, rd.fa fd_102_0, rd.ldsF encB_len lk_3 rfl dB, Int.toNat_natCast, encB, de, AM.wrap_i64]) | skip)
      refine ⟨i + 1, by omega, ?_, by omega, fun j hj => ?_⟩
      · simp (maxSteps := 1000000) (disch := first | omega | (simp only [AM.DB, List.length_set, List.length_map]; first | done | omega)) only [AM.RB, Nat.reduceAdd, Nat.reduceMul, Nat.reduceEqDiff, reduceCtorEq, b66_IY13]
        first | rfl | skip
      · by_cases q : j = i
        · subst q; exact he
        · exact hall j (by omega)
  · obtain ⟨e1, e2, e3⟩ := getI_no L c (fun j hj => hall j (by omega))
    (first | (simp (maxSteps := 1000000) (disch := first | omega | (simp only [AM.DB, List.length_set, List.length_map]; first | done | omega)) only [AM.RB, Nat.reduceAdd, Nat.reduceMul, Nat.reduceEqDiff, reduceCtorEq, b66_IY13, g]) | skip)
    exact h2 e1 e2 e3

theorem refUntil_w {h : AHeap} {q : Nat} {s : Value} {L : IL} {now c : Int} (x : Rb h q s L) (h0 : 0 ≤ now) (hn : L.length ≤ 1000000) {Q : VQ} (hq : Q (.tuple #[.int .u64 (untilU now L c).1, .bool (untilU now L c).2]) h) : W 35 [pv q, .int .u64 now, .int .i64 c] h Q := by
  unfold untilU at hq
  have x' := x
  obtain ⟨g, hl, ow, hne⟩ := x
  obtain ⟨sa, sc, rfl⟩ := ow.form
  have rd := ow.rd
  refine AM.enter hp (fn := Try.f35) (rs := [.tmp 6, .tmp 7]) (nt := 34) (by kernel_rfl) Try.func35 rfl rfl rfl (by kernel_rfl) ?_
  simp (maxSteps := 1000000) (disch := first | omega | (simp only [AM.DB, List.length_set, List.length_map]; first | done | omega)) only [AM.RB, Nat.reduceAdd, Nat.reduceMul, Nat.reduceEqDiff, reduceCtorEq, b35_IY13]
  refine refFind_w x' hn (fun i hi ei e1 e2 e3 => ?_) (fun e1 e2 e3 => ?_)
  · have di : decide ((i : Int) < 0) = false := decide_eq_false (by omega)
    rw [e1] at hq
    simp only [Option.getD_some] at hq
    by_cases hu : (L.getD i dB).2 ≤ now
    · have du : decide ((L.getD i dB).2 ≤ now) = true := decide_eq_true hu
      (first | (simp (maxSteps := 1000000) (disch := first | omega | (simp only [AM.DB, List.length_set, List.length_map]; first | done | omega)) only [AM.RB, Nat.reduceAdd, Nat.reduceMul, Nat.reduceEqDiff, reduceCtorEq, b35_IY13, g, di, rd.ia el_60, rd.fa fd_102_1, rd.ldsF encB_len lk_29 rfl dB, Int.toNat_natCast, encB, du]) | skip)
      rw [if_neg (by omega)] at hq
      exact hq
    · have du : decide ((L.getD i dB).2 ≤ now) = false := decide_eq_false hu
      (first | (simp (maxSteps := 1000000) (disch := first | omega | (simp only [AM.DB, List.length_set, List.length_map]; first | done | omega)) only [AM.RB, Nat.reduceAdd, Nat.reduceMul, Nat.reduceEqDiff, reduceCtorEq, b35_IY13, g, di, rd.ia el_60, rd.fa fd_102_1, rd.ldsF encB_len lk_29 rfl dB, Int.toNat_natCast, encB, du]) | skip)
      rw [if_pos (by omega)] at hq
      exact hq
  · rw [e1] at hq
    rw [if_neg (by simp; omega)] at hq
    (first | (simp (maxSteps := 1000000) (disch := first | omega | (simp only [AM.DB, List.length_set, List.length_map]; first | done | omega)) only [AM.RB, Nat.reduceAdd, Nat.reduceMul, Nat.reduceEqDiff, reduceCtorEq, b35_IY13, show decide ((-1 : Int) < 0) = true from rfl]) | skip)
    exact hq
end Go.Proofs.Ytodcnfabnlojdaa

namespace Go.Proofs.Ytodcnfabnlojdaa
open Go.AM
set_option maxRecDepth 8000
theorem b37_IY14 : type_of% (And.intro (@AM.bin_add) (And.intro (@AM.bin_gtr) (And.intro (@AM.bin_lss) (And.intro (@AM.fa_ptr) (And.intro (@fd_102_1) (And.intro (@fd_62_0) (And.intro (@AM.iaO_ok) (And.intro (AM.ia_slice el_60) (And.intro (@AM.ldO_agg) (And.intro (@AM.ldO_one) (And.intro (@AM.ld_ptr) (And.intro (AM.len_slice ul_60) (And.intro (@lk_29) (And.intro (@lk_60) (And.intro (@AM.op_binOp) (And.intro (@AM.op_fieldAddr) (And.intro (@AM.op_indexAddr) (And.intro (@AM.op_len) (And.intro (@AM.op_load) (And.intro (@AM.op_nilCheck) (And.intro (@AM.op_unOp) (And.intro (@AM.resL_two) (And.intro (@AM.un_neg) (@AM.un_not)))))))))))))))))))))))) := And.intro (@AM.bin_add) (And.intro (@AM.bin_gtr) (And.intro (@AM.bin_lss) (And.intro (@AM.fa_ptr) (And.intro (@fd_102_1) (And.intro (@fd_62_0) (And.intro (@AM.iaO_ok) (And.intro (AM.ia_slice el_60) (And.intro (@AM.ldO_agg) (And.intro (@AM.ldO_one) (And.intro (@AM.ld_ptr) (And.intro (AM.len_slice ul_60) (And.intro (@lk_29) (And.intro (@lk_60) (And.intro (@AM.op_binOp) (And.intro (@AM.op_fieldAddr) (And.intro (@AM.op_indexAddr) (And.intro (@AM.op_len) (And.intro (@AM.op_load) (And.intro (@AM.op_nilCheck) (And.intro (@AM.op_unOp) (And.intro (@AM.resL_two) (And.intro (@AM.un_neg) (@AM.un_not)))))))))))))))))))))))
theorem b39_IY14 : type_of% (And.intro (@AM.bin_add) (And.intro (@AM.bin_lss) (And.intro (AM.bsW_int bs_22) (And.intro (AM.bsW_nil bs_22) (And.intro (AM.bsW_slice bs_22) (And.intro (AM.bsW_string bs_22) (And.intro (@AM.ex_tuple) (And.intro (@AM.op_append) (And.intro (@AM.op_binOp) (And.intro (@AM.op_buildSlice) (And.intro (@AM.op_call) (@AM.op_extract)))))))))))) := And.intro (@AM.bin_add) (And.intro (@AM.bin_lss) (And.intro (AM.bsW_int bs_22) (And.intro (AM.bsW_nil bs_22) (And.intro (AM.bsW_slice bs_22) (And.intro (AM.bsW_string bs_22) (And.intro (@AM.ex_tuple) (And.intro (@AM.op_append) (And.intro (@AM.op_binOp) (And.intro (@AM.op_buildSlice) (And.intro (@AM.op_call) (@AM.op_extract)))))))))))


theorem nxtP_snoc (l : IL) (x : Int × Int) : nxtP (l ++ [x]) = if (nxtP l).2 = false ∨ x.2 < (nxtP l).1 then (x.2, true) else nxtP l := by unfold nxtP; rw [List.foldl_append]; rfl
theorem take_snoc (L : IL) (i : Nat) (hi : i < L.length) : L.take (i + 1) = L.take i ++ [L.getD i dB] := by
  rw [List.take_add_one, List.getElem?_eq_getElem hi]; simp [List.getD, hi]
theorem filt_snoc (now : Int) (L : IL) (i : Nat) (hi : i < L.length) : (L.take (i + 1)).filter (onP now) = (L.take i).filter (onP now) ++ if now < (L.getD i dB).2 then [L.getD i dB] else [] := by
  rw [take_snoc L i hi, List.filter_append]
  by_cases h : now < (L.getD i dB).2
  · rw [if_pos h, List.filter_cons_of_pos (by simpa [onP] using h)]; rfl
  · rw [if_neg h, List.filter_cons_of_neg (by simpa [onP] using h)]; rfl

theorem refNext_w {h : AHeap} {q : Nat} {s : Value} {L : IL} {now : Int} (x : Rb h q s L) (hn : L.length ≤ 1000000) {Q : VQ} (hq : Q (.tuple #[.int .u64 (nxtP (L.filter (onP now))).1, .bool (nxtP (L.filter (onP now))).2]) h) : W 37 [pv q, .int .u64 now] h Q := by
  obtain ⟨g, hl, ow, hne⟩ := x
  obtain ⟨sa, sc, rfl⟩ := ow.form
  have rd := ow.rd
  refine AM.enter hp (fn := Try.f37) (rs := [.tmp 4, .tmp 5]) (nt := 42) (by kernel_rfl) Try.func37 rfl rfl rfl (by kernel_rfl) ?_
  simp (maxSteps := 1000000) (disch := first | omega | (simp only [AM.DB, List.length_set, List.length_map]; first | done | omega)) only [AM.RB, Nat.reduceAdd, Nat.reduceMul, Nat.reduceEqDiff, reduceCtorEq, b37_IY14]
  refine AM.loop_w hp 42 (fun i : Nat => [(0, pv q), (1, .int .u64 now), (4, .int .u64 0), (5, .bool false), (6, .int .u64 (nxtP ((L.take i).filter (onP now))).1), (7, .bool (nxtP ((L.take i).filter (onP now))).2), (8, .int .i64 i)])
    (fun i h' => h' = h ∧ i ≤ L.length) (fun i => L.length - i) (by kernel_rfl) 0 ?_ ?_ ?_
  · simp (maxSteps := 1000000) (disch := first | omega | (simp only [AM.DB, List.length_set, List.length_map]; first | done | omega)) only [AM.RB, Nat.reduceAdd, Nat.reduceMul, Nat.reduceEqDiff, reduceCtorEq, b37_IY14]
    first | rfl | (simp [nxtP]) | skip
  · exact ⟨rfl, Nat.zero_le _⟩
  rintro i hh ρ ⟨rfl, hi⟩
  (first | (simp (maxSteps := 1000000) (disch := first | omega | (simp only [AM.DB, List.length_set, List.length_map]; first | done | omega)) only [AM.RB, Nat.reduceAdd, Nat.reduceMul, Nat.reduceEqDiff, reduceCtorEq, b37_IY14, g]) | skip)
  refine AM.condV_split (fun hlt => ?_) (fun hlt => ?_)
  · have hin : i < L.length := by omega
    have hs := filt_snoc now L i hin
    have hsn := nxtP_snoc ((L.take i).filter (onP now)) (L.getD i dB)
    by_cases hon : now < (L.getD i dB).2
    · have d1 : decide (now < (L.getD i dB).2) = true := decide_eq_true hon
      rw [if_pos hon] at hs
      rw [← hs] at hsn
      generalize nxtP ((L.take i).filter (onP now)) = a at *
      obtain ⟨b, is⟩ := a
      cases is with
      | false =>
        (first | (simp (maxSteps := 1000000) (disch := first | omega | (simp only [AM.DB, List.length_set, List.length_map]; first | done | omega)) only [AM.RB, Nat.reduceAdd, Nat.reduceMul, Nat.reduceEqDiff, reduceCtorEq, b37_IY14, g, rd.ia el_60, rd.fa fd_102_1, rd.ldsF encB_len lk_29 rfl dB, Int.toNat_natCast, encB, d1, AM.wrap_i64]) | skip)
        rw [if_pos (.inl rfl)] at hsn
        refine ⟨i + 1, by omega, ?_, by omega⟩
        rw [hsn]
        simp (maxSteps := 1000000) (disch := first | omega | (simp only [AM.DB, List.length_set, List.length_map]; first | done | omega)) only [AM.RB, Nat.reduceAdd, Nat.reduceMul, Nat.reduceEqDiff, reduceCtorEq, b37_IY14]
        first | rfl | skip
      | true =>
        by_cases hb : (L.getD i dB).2 < b
        · have d2 : decide ((L.getD i dB).2 < b) = true := decide_eq_true hb
          (first | (simp (maxSteps := 1000000) (disch := first | omega | (simp only [AM.DB, List.length_set, List.length_map]; first | done | omega)) only [AM.RB, Nat.reduceAdd, Nat.reduceMul, Nat.reduceEqDiff, reduceCtorEq, b37_IY14, g, rd.ia el_60, rd.fa fd_102_1, rd.ldsF encB_len lk_29 rfl dB, Int.toNat_natCast, encB, d1, d2, AM.wrap_i64]) | skip)
          rw [if_pos (.inr hb)] at hsn
          refine ⟨i + 1, by omega, ?_, by omega⟩
          rw [hsn]
          simp (maxSteps := 1000000) (disch := first | omega | (simp only [AM.DB, List.length_set, List.length_map]; first | done | omega)) only [AM.RB, Nat.reduceAdd, Nat.reduceMul, Nat.reduceEqDiff, reduceCtorEq, b37_IY14]
          first | rfl | skip
        · have d2 : decide ((L.getD i dB).2 < b) = false := decide_eq_false hb
          (first | (simp (maxSteps := 1000000) (disch := first | omega | (simp only [AM.DB, List.length_set, List.length_map]; first | done | omega)) only [AM.RB, Nat.reduceAdd, Nat.reduceMul, Nat.reduceEqDiff, reduceCtorEq, b37_IY14, g, rd.ia el_60, rd.fa fd_102_1, rd.ldsF encB_len lk_29 rfl dB, Int.toNat_natCast, encB, d1, d2, AM.wrap_i64]) | skip)
          rw [if_neg (fun e => e.elim (fun e => by cases e) hb)] at hsn
          refine ⟨i + 1, by omega, ?_, by omega⟩
          rw [hsn]
          simp (maxSteps := 1000000) (disch := first | omega | (simp only [AM.DB, List.length_set, List.length_map]; first | done | omega)) only [AM.RB, Nat.reduceAdd, Nat.reduceMul, Nat.reduceEqDiff, reduceCtorEq, b37_IY14]
          first | rfl | skip
    · have d1 : decide (now < (L.getD i dB).2) = false := decide_eq_false hon
      rw [if_neg hon, List.append_nil] at hs
      (first | (simp (maxSteps := 1000000) (disch := first | omega | (simp only [AM.DB, List.length_set, List.length_map]; first | done | omega)) only [AM.RB, Nat.reduceAdd, Nat.reduceMul, Nat.reduceEqDiff, reduceCtorEq, b37_IY14, g, rd.ia el_60, rd.fa fd_102_1, rd.ldsF encB_len lk_29 rfl dB, Int.toNat_natCast, encB, d1, AM.wrap_i64]) | skip)
      refine ⟨i + 1, by omega, ?_, by omega⟩
      rw [hs]
      simp (maxSteps := 1000000) (disch := first | omega | (simp only [AM.DB, List.length_set, List.length_map]; first | done | omega)) only [AM.RB, Nat.reduceAdd, Nat.reduceMul, Nat.reduceEqDiff, reduceCtorEq, b37_IY14]
      first | rfl | skip
  · obtain rfl : i = L.length := by omega
    rw [List.take_length]
    (first | (simp (maxSteps := 1000000) (disch := first | omega | (simp only [AM.DB, List.length_set, List.length_map]; first | done | omega)) only [AM.RB, Nat.reduceAdd, Nat.reduceMul, Nat.reduceEqDiff, reduceCtorEq, b37_IY14, g]) | skip)
    exact hq

theorem mem_getI : ∀ {L : IL} {x v : Int}, (L.map (·.1)).Nodup → (x, v) ∈ L → getI L x = some v
  | (k, w) :: l, x, v, hn, hm => by
    simp only [List.map_cons, List.nodup_cons] at hn
    rcases List.mem_cons.1 hm with e | e
    · cases e; simp [getI]
    · unfold getI
      rw [if_neg (fun q => hn.1 (by rw [← q]; exact List.mem_map.2 ⟨_, e, rfl⟩))]
      exact mem_getI hn.2 e
def refB (now : Int) (L : IL) (n : Nat) : List Int := ((List.range n).map Int.ofNat).filter fun c => (untilU now L c).2
theorem refB_succ (now : Int) (L : IL) (n : Nat) : refB now L (n + 1) = refB now L n ++ if (untilU now L n).2 then [(n : Int)] else [] := by
  unfold refB
  rw [List.range_succ, List.map_append, List.filter_append]
  cases h : (untilU now L n).2 with
  | true => simp [h]
  | false => simp [h]
theorem refB_len (now : Int) (L : IL) (n : Nat) : (refB now L n).length ≤ n := by
  have := List.length_filter_le (fun c => (untilU now L c).2) ((List.range n).map Int.ofNat)
  simpa [refB] using this
theorem refB_all {now : Int} {L : IL} (h0 : 0 ≤ now) (ok : okU L) : refB now L 1024 = bannedL now L := by
  have hs : (refB now L 1024).Pairwise (fun a b => Go.leI a b = true) := by
    unfold refB
    refine List.Pairwise.filter _ ?_
    rw [List.pairwise_map]
    exact (List.pairwise_lt_range).imp fun {a b} q => by simp [Go.leI]; omega
  have hp : (refB now L 1024).Perm ((L.filter (onP now)).map (·.1)) := by
    refine (List.perm_ext_iff_of_nodup ?_ ((List.filter_sublist.map _).nodup ok.2.1)).2 fun x => ?_
    · unfold refB
      refine (List.filter_sublist).nodup ?_
      rw [List.nodup_iff_pairwise_ne, List.pairwise_map]
      exact (List.pairwise_lt_range).imp fun {a b} q e => by have : (a : Int) = b := e; omega
    · constructor
      · intro hx
        obtain ⟨h1, h2⟩ := List.mem_filter.1 hx
        unfold untilU at h2
        split at h2
        · rename_i hu
          cases hg : getI L x with
          | none => rw [hg] at hu; simp at hu; omega
          | some v =>
            rw [hg] at hu
            exact List.mem_map.2 ⟨(x, v), List.mem_filter.2 ⟨getI_mem hg, by simpa [onP] using hu⟩, rfl⟩
        · simp at h2
      · intro hx
        obtain ⟨⟨k, v⟩, h1, rfl⟩ := List.mem_map.1 hx
        obtain ⟨h2, h3⟩ := List.mem_filter.1 h1
        have hf := ok.1 _ h2
        refine List.mem_filter.2 ⟨List.mem_map.2 ⟨k.toNat, List.mem_range.2 (by have := hf.1; simp only at this; omega), by have := hf.1; simp only at this ⊢; show ((k.toNat : Nat) : Int) = k; omega⟩, ?_⟩
        have e := mem_getI ok.2.1 h2
        have h3 : now < v := by simpa [onP] using h3
        simp only [untilU, e, Option.getD_some, if_pos h3]
  have e1 : (refB now L 1024).mergeSort Go.leI = refB now L 1024 := List.mergeSort_of_pairwise hs
  rw [← e1]
  exact Go.mergeSort_of_perm_i hp

theorem refBanned_w {h : AHeap} {q : Nat} {s : Value} {L : IL} {now : Int} (x : Rb h q s L) (h0 : 0 ≤ now) (hn : L.length ≤ 1000000) (hl : h.low ≤ h.next) {Q : VQ}
    (hq : ∀ v h', Ow h' 3 1 v (refB now L 1024).length ((refB now L 1024).map (.int .i64)) → Fr none' h h' → (∀ id, idOf v id → h.next ≤ id) → Q v h') : W 39 [pv q, .int .u64 now] h Q := by
  refine AM.enter hp (fn := Try.f39) (rs := [.tmp 4]) (nt := 26) (by kernel_rfl) Try.func39 rfl rfl rfl (by kernel_rfl) ?_
  simp (maxSteps := 1000000) (disch := first | omega | (simp only [AM.DB, List.length_set, List.length_map]; first | done | omega)) only [AM.RB, Nat.reduceAdd, Nat.reduceMul, Nat.reduceEqDiff, reduceCtorEq, b39_IY14]
  refine AM.loop_w hp 26 (fun p : Nat × Value => [(0, pv q), (1, .int .u64 now), (5, p.2), (6, .int .i64 p.1)])
    (fun p h' => p.1 ≤ 1024 ∧ Ow h' 3 1 p.2 (refB now L p.1).length ((refB now L p.1).map (.int .i64)) ∧ Fr none' h h' ∧ ∀ id, idOf p.2 id → h.next ≤ id) (fun p => 1024 - p.1) (by kernel_rfl) (0, .slice none 0 0) ?_ ?_ ?_
  · simp (maxSteps := 1000000) (disch := first | omega | (simp only [AM.DB, List.length_set, List.length_map]; first | done | omega)) only [AM.RB, Nat.reduceAdd, Nat.reduceMul, Nat.reduceEqDiff, reduceCtorEq, b39_IY14]
    first | rfl | skip
  · exact ⟨Nat.zero_le _, Ow.nil _ _ _, Fr.refl _ _, fun _ q => q.elim⟩
  rintro ⟨i, v⟩ h1 ρ ⟨hi, ow, fr1, hid⟩
  simp only at hi ow hid
  have x1 := x.fr0 fr1
  have hl1 := fr1.hl hl
  have rbl := refB_len now L i
  have rbs := refB_succ now L i
  (first | (simp (maxSteps := 1000000) (disch := first | omega | (simp only [AM.DB, List.length_set, List.length_map]; first | done | omega)) only [AM.RB, Nat.reduceAdd, Nat.reduceMul, Nat.reduceEqDiff, reduceCtorEq, b39_IY14]) | skip)
  refine AM.condV_split (fun hlt => ?_) (fun hlt => ?_)
  · (first | (simp (maxSteps := 1000000) (disch := first | omega | (simp only [AM.DB, List.length_set, List.length_map]; first | done | omega)) only [AM.RB, Nat.reduceAdd, Nat.reduceMul, Nat.reduceEqDiff, reduceCtorEq, b39_IY14]) | skip)
    refine refUntil_w x1 h0 hn ?_
    obtain ⟨va, vc, rfl⟩ := ow.form
    cases hu : (untilU now L i).2 with
    | true =>
      rw [hu, if_pos rfl] at rbs
      (first | (simp (maxSteps := 1000000) (disch := first | omega | (simp only [AM.DB, List.length_set, List.length_map]; first | done | omega)) only [AM.RB, Nat.reduceAdd, Nat.reduceMul, Nat.reduceEqDiff, reduceCtorEq, b39_IY14]) | skip)
      generalize hE_ : AHeap.alloc h1 _ = h2; obtain ⟨g2, fr2, n2, l2⟩ := AM.new_get hE_; clear hE_
      refine AM.appends_w ap_22 ap_22 (ow.fr0 fr2) (AM.Rd.whole (n := 1) (c := [.int .i64 (i : Int)]) g2 rfl) rfl (fr2.hl hl1) (AM.fits (by omega) (by omega)) (AM.fits' (by omega)) fun v3 h3 ow3 fr3 hid3 => ?_
      have n1 := fr1.next
      (first | (simp (maxSteps := 1000000) (disch := first | omega | (simp only [AM.DB, List.length_set, List.length_map]; first | done | omega)) only [AM.RB, Nat.reduceAdd, Nat.reduceMul, Nat.reduceEqDiff, reduceCtorEq, b39_IY14, AM.wrap_i64]) | skip)
      refine ⟨(i + 1, v3), by simp only; omega, ?_, by simp only; omega, ?_, (fr1.trans fr2).fresh fr3 (fun id q => hid id q), fun id q => (hid3 id q).elim (hid id) (fun q => by have := fr2.next; omega)⟩
      · simp (maxSteps := 1000000) (disch := first | omega | (simp only [AM.DB, List.length_set, List.length_map]; first | done | omega)) only [AM.RB, Nat.reduceAdd, Nat.reduceMul, Nat.reduceEqDiff, reduceCtorEq, b39_IY14]
        first | rfl | skip
      · simp only
        rw [rbs]
        simpa using ow3
    | false =>
      rw [hu] at rbs
      simp only [Bool.false_eq_true, if_false, List.append_nil] at rbs
      (first | (simp (maxSteps := 1000000) (disch := first | omega | (simp only [AM.DB, List.length_set, List.length_map]; first | done | omega)) only [AM.RB, Nat.reduceAdd, Nat.reduceMul, Nat.reduceEqDiff, reduceCtorEq, b39_IY14, AM.wrap_i64]) | skip)
      refine ⟨(i + 1, _), by simp only; omega, ?_, by simp only; omega, ?_, fr1, hid⟩
      · simp (maxSteps := 1000000) (disch := first | omega | (simp only [AM.DB, List.length_set, List.length_map]; first | done | omega)) only [AM.RB, Nat.reduceAdd, Nat.reduceMul, Nat.reduceEqDiff, reduceCtorEq, b39_IY14]
        first | rfl | skip
      · simp only
        rw [rbs]
        exact ow
  · obtain rfl : i = 1024 := by omega
    (first | (simp (maxSteps := 1000000) (disch := first | omega | (simp only [AM.DB, List.length_set, List.length_map]; first | done | omega)) only [AM.RB, Nat.reduceAdd, Nat.reduceMul, Nat.reduceEqDiff, reduceCtorEq, b39_IY14]) | skip)
    exact hq _ _ ow fr1 hid
end Go.Proofs.Ytodcnfabnlojdaa

namespace Go.AM
variable {P : Program}
/-- What is stored in a field of an element: one cell. -/
theorem Ow.stF {h : AHeap} {e t : TypeId} {sz n : Nat} {s : Value} {cs : List Value} (x : Ow h e sz s n cs) (ht : szI P t = some 1) {j f : Nat} (hj : j < n) (hf : f < sz) {v : Value} (hv : v.cells = #[v]) (h1 : v.oneCell' = true) {K : VQ}
    (hq : ∀ h', Ow h' e sz s n (cs.set (j * sz + f) v) → Fr (idOf s) h h' → h'.next = h.next → K undef h') : optH (aStore P h t (elF s sz j f) v) K := by
  rcases x with ⟨rfl, rfl, _⟩ | ⟨id, off, cap, c, o, rfl, b, hg, f', rfl, k⟩
  · omega
  · unfold elF
    simp only
    have h2 : j * sz + sz ≤ n * sz := by have := Nat.mul_le_mul_right sz (show j + 1 ≤ n by omega); rw [Nat.add_mul, Nat.one_mul] at this; omega
    have h3 := Nat.mul_le_mul_right sz b
    rw [st_ptr, ht, hg]
    simp only [Option.bind_some]
    rw [stO_one hv h1 k (by omega), optH_some]
    refine hq _ (.inr ⟨id, off, cap, _, o, rfl, b, get_put_self rfl (get_some_lt hg), by simpa using f', ?_, k⟩) ((Fr.refl _ h).put _ (.inr rfl)) rfl
    apply List.ext_getElem?
    intro i
    simp only [List.getElem?_take, List.getElem?_drop, List.getElem?_set, List.length_take, List.length_drop]
    by_cases h4 : i < n * sz
    · simp only [h4, if_true]
      by_cases h5 : j * sz + f = i
      · subst h5; rw [if_pos rfl, if_pos (by omega), if_pos (by omega), if_pos (by omega)]
      · rw [if_neg (by omega), if_neg h5]
    · simp only [h4, if_false]
      by_cases h5 : j * sz + f = i
      · omega
      · rw [if_neg h5]
end Go.AM
namespace Go.Proofs.Ytodcnfabnlojdaa
open Go.AM
set_option maxRecDepth 8000
theorem b32_IY15 : type_of% (And.intro (@AM.bin_add) (And.intro (@AM.bin_lss) (And.intro (@AM.fa_ptr) (And.intro (@fd_62_0) (And.intro (@AM.ldO_agg) (And.intro (@AM.ldO_one) (And.intro (@AM.ld_ptr) (And.intro (@lk_60) (And.intro (@AM.op_append) (And.intro (@AM.op_binOp) (And.intro (@AM.op_call) (And.intro (@AM.op_fieldAddr) (And.intro (@AM.op_load) (And.intro (@AM.op_nilCheck) (And.intro (@AM.op_slice) (And.intro (@AM.op_store) (And.intro (@AM.stO_agg) (And.intro (@AM.stO_bool) (And.intro (@AM.stO_int) (And.intro (@AM.stO_map) (And.intro (@AM.stO_pointer) (And.intro (@AM.stO_slice) (And.intro (@AM.stO_string) (And.intro (@AM.st_ptr) (@sz_60))))))))))))))))))))))))) := And.intro (@AM.bin_add) (And.intro (@AM.bin_lss) (And.intro (@AM.fa_ptr) (And.intro (@fd_62_0) (And.intro (@AM.ldO_agg) (And.intro (@AM.ldO_one) (And.intro (@AM.ld_ptr) (And.intro (@lk_60) (And.intro (@AM.op_append) (And.intro (@AM.op_binOp) (And.intro (@AM.op_call) (And.intro (@AM.op_fieldAddr) (And.intro (@AM.op_load) (And.intro (@AM.op_nilCheck) (And.intro (@AM.op_slice) (And.intro (@AM.op_store) (And.intro (@AM.stO_agg) (And.intro (@AM.stO_bool) (And.intro (@AM.stO_int) (And.intro (@AM.stO_map) (And.intro (@AM.stO_pointer) (And.intro (@AM.stO_slice) (And.intro (@AM.stO_string) (And.intro (@AM.st_ptr) (@sz_60))))))))))))))))))))))))
theorem b30_IY15 : type_of% (And.intro (@AM.bdV_some) (And.intro (@bd_102) (And.intro (@AM.bin_add) (And.intro (@AM.bin_eql) (And.intro (@AM.bin_geq) (And.intro (@AM.bin_gtr) (And.intro (@AM.bin_lss) (And.intro (@AM.bin_sub) (And.intro (AM.bsW_agg bs_60) (And.intro (AM.bsW_nil bs_60) (And.intro (@AM.fa_ptr) (And.intro (@fd_102_1) (And.intro (@fd_62_0) (And.intro (@AM.fillL_cons) (And.intro (@AM.fillL_nil) (And.intro (@AM.fillS_agg) (And.intro (@AM.fillS_bool) (And.intro (@AM.fillS_func) (And.intro (@AM.fillS_int) (And.intro (@AM.fillS_map) (And.intro (@AM.fillS_pointer) (And.intro (@AM.fillS_slice) (And.intro (@AM.fillS_string) (And.intro (@AM.iaO_ok) (And.intro (AM.ia_slice el_60) (And.intro (@AM.ldO_agg) (And.intro (@AM.ldO_one) (And.intro (@AM.ld_ptr) (And.intro (AM.len_slice ul_60) (And.intro (@lk_102) (And.intro (@lk_29) (And.intro (@lk_60) (And.intro (@AM.op_append) (And.intro (@AM.op_binOp) (And.intro (@AM.op_build) (And.intro (@AM.op_buildSlice) (And.intro (@AM.op_call) (And.intro (@AM.op_fieldAddr) (And.intro (@AM.op_indexAddr) (And.intro (@AM.op_len) (And.intro (@AM.op_load) (And.intro (@AM.op_nilCheck) (And.intro (@AM.op_store) (And.intro (@AM.stO_agg) (And.intro (@AM.stO_bool) (And.intro (@AM.stO_int) (And.intro (@AM.stO_map) (And.intro (@AM.stO_pointer) (And.intro (@AM.stO_slice) (And.intro (@AM.stO_string) (And.intro (@AM.st_ptr) (And.intro (@sz_29) (@sz_60))))))))))))))))))))))))))))))))))))))))))))))))))))) := And.intro (@AM.bdV_some) (And.intro (@bd_102) (And.intro (@AM.bin_add) (And.intro (@AM.bin_eql) (And.intro (@AM.bin_geq) (And.intro (@AM.bin_gtr) (And.intro (@AM.bin_lss) (And.intro (@AM.bin_sub) (And.intro (AM.bsW_agg bs_60) (And.intro (AM.bsW_nil bs_60) (And.intro (@AM.fa_ptr) (And.intro (@fd_102_1) (And.intro (@fd_62_0) (And.intro (@AM.fillL_cons) (And.intro (@AM.fillL_nil) (And.intro (@AM.fillS_agg) (And.intro (@AM.fillS_bool) (And.intro (@AM.fillS_func) (And.intro (@AM.fillS_int) (And.intro (@AM.fillS_map) (And.intro (@AM.fillS_pointer) (And.intro (@AM.fillS_slice) (And.intro (@AM.fillS_string) (And.intro (@AM.iaO_ok) (And.intro (AM.ia_slice el_60) (And.intro (@AM.ldO_agg) (And.intro (@AM.ldO_one) (And.intro (@AM.ld_ptr) (And.intro (AM.len_slice ul_60) (And.intro (@lk_102) (And.intro (@lk_29) (And.intro (@lk_60) (And.intro (@AM.op_append) (And.intro (@AM.op_binOp) (And.intro (@AM.op_build) (And.intro (@AM.op_buildSlice) (And.intro (@AM.op_call) (And.intro (@AM.op_fieldAddr) (And.intro (@AM.op_indexAddr) (And.intro (@AM.op_len) (And.intro (@AM.op_load) (And.intro (@AM.op_nilCheck) (And.intro (@AM.op_store) (And.intro (@AM.stO_agg) (And.intro (@AM.stO_bool) (And.intro (@AM.stO_int) (And.intro (@AM.stO_map) (And.intro (@AM.stO_pointer) (And.intro (@AM.stO_slice) (And.intro (@AM.stO_string) (And.intro (@AM.st_ptr) (And.intro (@sz_29) (@sz_60))))))))))))))))))))))))))))))))))))))))))))))))))))


theorem flatB_take (L : IL) (i : Nat) (hi : i ≤ L.length) : (L.flatMap encB).take (i * 2) = (L.take i).flatMap encB ∧ (L.flatMap encB).drop (i * 2) = (L.drop i).flatMap encB := by
  have h1 : L.flatMap encB = (L.take i).flatMap encB ++ (L.drop i).flatMap encB := by rw [← List.flatMap_append, List.take_append_drop]
  have hl : ((L.take i).flatMap encB).length = i * 2 := by rw [AM.flat_length encB_len]; simp; omega
  rw [h1, List.take_left' hl, List.drop_left' hl]; exact ⟨rfl, rfl⟩

theorem flatB_set : ∀ (L : IL) (i : Nat) (u : Int), i < L.length → (L.flatMap encB).set (i * 2 + 1) (.int .u64 u) = (L.set i ((L.getD i dB).1, u)).flatMap encB
  | q :: l, 0, u, _ => by simp [encB]
  | q :: l, i + 1, u, h => by
    have ih := flatB_set l i u (by simpa using h)
    rw [show (i + 1) * 2 + 1 = (i * 2 + 1) + 2 by omega]
    simp only [List.flatMap_cons, encB, List.cons_append, List.nil_append, List.set_cons_succ, List.getD_cons_succ] at ih ⊢
    rw [ih]
theorem setB_self : ∀ (L : IL) (i : Nat), i < L.length → L.set i (L.getD i dB) = L
  | q :: l, 0, _ => rfl
  | q :: l, i + 1, h => by
    have := setB_self l i (by simpa using h)
    simp only [List.set_cons_succ, List.getD_cons_succ, this]

/-- What a call leaves of the reference's bans. -/
def RbTo (h : AHeap) (q : Nat) (s : Value) (L : IL) (K : AHeap → Prop) : Prop :=
  ∀ h' s', Rb h' q s' L → Fr (ownR q s) h h' → (∀ id, idOf s' id → idOf s id ∨ h.next ≤ id) → K h'

theorem refLift_w {h : AHeap} {q : Nat} {s : Value} {L : IL} {c : Int} (x : Rb h q s L) (hn : L.length ≤ 1000000) {Q : VQ}
    (hq : RbTo h q s (delI L c) fun h' => Q (.bool (getI L c).isSome) h') : W 32 [pv q, .int .i64 c] h Q := by
  have x' := x
  obtain ⟨g, hl, ow, hne⟩ := x
  have hlt := AM.get_some_lt g
  refine AM.enter hp (fn := Try.f32) (rs := [.tmp 4]) (nt := 32) (by kernel_rfl) Try.func32 rfl rfl rfl (by kernel_rfl) ?_
  simp (maxSteps := 1000000) (disch := first | omega | (simp only [AM.DB, List.length_set, List.length_map]; first | done | omega)) only [AM.RB, Nat.reduceAdd, Nat.reduceMul, Nat.reduceEqDiff, reduceCtorEq, b32_IY15]
  refine refFind_w x' hn (fun i hi ei e1 e2 e3 => ?_) (fun e1 e2 e3 => ?_)
  · have di : decide ((i : Int) < 0) = false := decide_eq_false (by omega)
    have t1 : ((i : Int) + 1).toNat = i + 1 := by omega
    have ow' := ow
    rcases ow with ⟨_, h0, _⟩ | ⟨id, off, cap, cs, o, rfl, hnc, hg, hf, hd, hlo⟩
    · omega
    have idne : id ≠ q := hne id rfl
    (first | (simp (maxSteps := 1000000) (disch := first | omega | (simp only [AM.DB, List.length_set, List.length_map]; first | done | omega)) only [AM.RB, Nat.reduceAdd, Nat.reduceMul, Nat.reduceEqDiff, reduceCtorEq, b32_IY15, g, di, AM.slc el_60 hg, AM.slbs_hi_i, AM.slbs_lo_i, Int.toNat_natCast, t1, Nat.sub_zero, Nat.zero_mul, Nat.add_zero, AM.wrap_i64]) | skip)
    have c1 := AM.Ow.cut (i := 0) (j := i) (m := cap) ow' (by omega) (by omega) (by omega) (Nat.le_refl _)
    have c2 := AM.Ow.cut (i := i + 1) (j := L.length) (m := cap) ow' (by omega) (Nat.le_refl _) hnc (Nat.le_refl _)
    simp only [Nat.sub_zero, Nat.zero_mul, Nat.add_zero, List.drop_zero] at c1
    rw [(flatB_take L i (by omega)).1] at c1
    rw [(flatB_take L (i + 1) (by omega)).2] at c2
    have l2 : ((L.drop (i + 1)).flatMap encB).length = (L.length - (i + 1)) * 2 := by rw [AM.flat_length encB_len, List.length_drop]
    rw [List.take_of_length_le (by omega)] at c2
    refine AM.appends_w ap_60 ap_60 (AM.Ow.nil _ _ _) c1.rd (encB_one _) (by omega) (AM.fits (by omega) (by omega)) (AM.fits' (by omega)) fun v1 h1 o1 fr1 hid1 => ?_
    have fr1' : Fr none' h h1 := fr1.mono fun id _ q => q.elim
    simp only [Nat.zero_add, List.nil_append] at o1
    have g1 := g.fr0 fr1'
    have hg1 := hg.fr0 fr1'
    have c21 := c2.fr0 fr1'
    obtain ⟨va, vc, rfl⟩ := o1.form
    (first | (simp (maxSteps := 1000000) (disch := first | omega | (simp only [AM.DB, List.length_set, List.length_map]; first | done | omega)) only [AM.RB, Nat.reduceAdd, Nat.reduceMul, Nat.reduceEqDiff, reduceCtorEq, b32_IY15, g1, AM.slc el_60 hg1, AM.slbs_hi_i, AM.slbs_lo_i, Int.toNat_natCast, t1, Nat.sub_zero, Nat.zero_mul, Nat.add_zero, AM.wrap_i64]) | skip)
    have n1 := fr1.next
    have w1 := fr1.low
    refine AM.appends_w ap_60 ap_60 o1 c21.rd (encB_one _) (by omega) (AM.fits (by omega) (by omega)) (AM.fits' (by omega)) fun v2 h2 o2 fr2 hid2 => ?_
    have hid1' : ∀ id, idOf (.slice va i vc) id → h.next ≤ id := fun id q => (hid1 id q).elim (fun q => q.elim) (fun q => q)
    have fr02 : Fr none' h h2 := fr1'.fresh fr2 hid1'
    have g2 := g.fr0 fr02
    have n2 := fr2.next
    have w2 := fr2.low
    have hid2' : ∀ id, idOf v2 id → h.next ≤ id := fun id q => (hid2 id q).elim (hid1' id) (fun q => by omega)
    obtain ⟨vb, vd, rfl⟩ := o2.form
    (first | (simp (maxSteps := 1000000) (disch := first | omega | (simp only [AM.DB, List.length_set, List.length_map]; first | done | omega)) only [AM.RB, Nat.reduceAdd, Nat.reduceMul, Nat.reduceEqDiff, reduceCtorEq, b32_IY15, g2]) | skip)
    generalize hE_ : AHeap.put h2 _ _ = h3; obtain ⟨g3, fr3, n3, l3⟩ := AM.put_get hE_ (by omega); clear hE_
    have hlen : i + (L.length - (i + 1)) = (delI L c).length := by rw [e3]; simp; omega
    rw [e1] at hq
    refine hq _ (.slice vb _ vd) ⟨?_, by omega, ?_, fun id q => by have := hid2' id q; omega⟩ (fr02.weak.then fr3 fun id _ q => .inl q) (fun id q => .inr (hid2' id q))
    · exact g3
    · rw [e3, List.flatMap_append, ← e3, ← hlen]
      exact (by simpa using o2 : Ow h2 _ 2 _ _ _).fr fr3 fun id q e => by have := hid2' id q; omega
  · rw [e1, e3] at hq
    (first | (simp (maxSteps := 1000000) (disch := first | omega | (simp only [AM.DB, List.length_set, List.length_map]; first | done | omega)) only [AM.RB, Nat.reduceAdd, Nat.reduceMul, Nat.reduceEqDiff, reduceCtorEq, b32_IY15, show decide ((-1 : Int) < 0) = true from rfl]) | skip)
    exact hq h s x' (Fr.refl _ _) (fun id q => .inl q)

theorem refPut_w {h : AHeap} {q : Nat} {s : Value} {L : IL} {now c t : Int} (x : Rb h q s L) (hn : L.length ≤ 1000000) (hnow : 0 ≤ now ∧ now < 18446744073709551616) (ht : 0 ≤ t ∧ t < 18446744073709551616) {Q : VQ}
    (hq : RbTo h q s (banP now c t L).2 fun h' => Q (.int .i64 (banP now c t L).1) h') : W 30 [pv q, .int .u64 now, .int .i64 c, .int .u64 t] h Q := by
  have x' := x
  obtain ⟨g, hl, ow, hne⟩ := x
  have hlt := AM.get_some_lt g
  have rd := ow.rd
  refine AM.enter hp (fn := Try.f30) (rs := [.tmp 8]) (nt := 106) (by kernel_rfl) Try.func30 rfl rfl rfl (by kernel_rfl) ?_
  by_cases c0 : c < 0
  · have d0 : decide (c < 0) = true := decide_eq_true c0
    (repeat' (first | (simp (maxSteps := 1000000) (disch := first | omega | (simp only [AM.DB, List.length_set, List.length_map]; first | done | omega)) only [AM.RB, Nat.reduceAdd, Nat.reduceMul, Nat.reduceEqDiff, reduceCtorEq, b30_IY15, d0]) | refine AM.build_w ?_))
    rw [show banP now c t L = (2, L) by unfold banP; rw [if_pos (by omega)]] at hq
    exact hq _ s x' (Fr.refl _ _) (fun id e => .inl e)
  have d0 : decide (c < 0) = false := decide_eq_false c0
  by_cases c1 : 1024 ≤ c
  · have d1 : decide (1024 ≤ c) = true := decide_eq_true c1
    (repeat' (first | (simp (maxSteps := 1000000) (disch := first | omega | (simp only [AM.DB, List.length_set, List.length_map]; first | done | omega)) only [AM.RB, Nat.reduceAdd, Nat.reduceMul, Nat.reduceEqDiff, reduceCtorEq, b30_IY15, d0, d1]) | refine AM.build_w ?_))
    rw [show banP now c t L = (2, L) by unfold banP; rw [if_pos (by omega)]] at hq
    exact hq _ s x' (Fr.refl _ _) (fun id e => .inl e)
  have d1 : decide (1024 ≤ c) = false := decide_eq_false c1
  unfold banP at hq
  rw [if_neg (by omega)] at hq
  obtain ⟨sa, sc, rfl⟩ := ow.form
  (repeat' (first | (simp (maxSteps := 1000000) (disch := first | omega | (simp only [AM.DB, List.length_set, List.length_map]; first | done | omega)) only [AM.RB, Nat.reduceAdd, Nat.reduceMul, Nat.reduceEqDiff, reduceCtorEq, b30_IY15, d0, d1]) | refine AM.build_w ?_))
  refine AM.loop_w hp 106 (fun p : Nat × Value => [(0, pv q), (1, .int .u64 now), (2, .int .i64 c), (3, .int .u64 t), (9, p.2), (10, .int .i64 p.1)])
    (fun p h' => p.1 ≤ L.length ∧ Ow h' 102 2 p.2 ((L.take p.1).filter (onP now)).length (((L.take p.1).filter (onP now)).flatMap encB) ∧ Fr none' h h' ∧ ∀ id, idOf p.2 id → h.next ≤ id) (fun p => L.length - p.1) (by kernel_rfl) (0, .slice none 0 0) ?_ ?_ ?_
  · simp (maxSteps := 1000000) (disch := first | omega | (simp only [AM.DB, List.length_set, List.length_map]; first | done | omega)) only [AM.RB, Nat.reduceAdd, Nat.reduceMul, Nat.reduceEqDiff, reduceCtorEq, b30_IY15]
    first | rfl | skip
  · exact ⟨Nat.zero_le _, by simpa using Ow.nil _ _ _, Fr.refl _ _, fun _ q => q.elim⟩
  rintro ⟨i, v⟩ h1 ρ ⟨hi, o1, fr1, hid1⟩
  simp only at hi o1 hid1
  have g1 := g.fr0 fr1
  have rd1 := rd.fr0 fr1
  have n1 := fr1.next
  have w1 := fr1.low
  obtain ⟨va, vc, rfl⟩ := o1.form
  (repeat' (first | (simp (maxSteps := 1000000) (disch := first | omega | (simp only [AM.DB, List.length_set, List.length_map]; first | done | omega)) only [AM.RB, Nat.reduceAdd, Nat.reduceMul, Nat.reduceEqDiff, reduceCtorEq, b30_IY15, g1]) | refine AM.build_w ?_))
  refine AM.condV_split (fun hlt => ?_) (fun hlt => ?_)
  · have hin : i < L.length := by omega
    have hs := filt_snoc now L i hin
    have hlf : ((L.take i).filter (onP now)).length ≤ i := by have := List.length_filter_le (onP now) (L.take i); simp at this; omega
    by_cases hon : now < (L.getD i dB).2
    · have du : decide (now < (L.getD i dB).2) = true := decide_eq_true hon
      rw [if_pos hon] at hs
      (repeat' (first | (simp (maxSteps := 1000000) (disch := first | omega | (simp only [AM.DB, List.length_set, List.length_map]; first | done | omega)) only [AM.RB, Nat.reduceAdd, Nat.reduceMul, Nat.reduceEqDiff, reduceCtorEq, b30_IY15, g1, rd1.ia el_60, rd1.fa fd_102_1, rd1.ldsF encB_len lk_29 rfl dB, rd1.lds encB_len lk_102 rfl dB, Int.toNat_natCast, encB, du, AM.bsW_agg bs_60]) | refine AM.build_w ?_))
      generalize hE_ : AHeap.alloc h1 _ = h2; obtain ⟨g2, fr2, n2, l2⟩ := AM.new_get hE_; clear hE_
      refine AM.appends_w ap_60 ap_60 (o1.fr0 fr2) (AM.Rd.whole (n := 1) (c := encB (L.getD i dB)) g2 rfl) rfl (by omega) (AM.fits (by omega) (by omega)) (AM.fits' (by omega)) fun v3 h3 o3 fr3 hid3 => ?_
      (repeat' (first | (simp (maxSteps := 1000000) (disch := first | omega | (simp only [AM.DB, List.length_set, List.length_map]; first | done | omega)) only [AM.RB, Nat.reduceAdd, Nat.reduceMul, Nat.reduceEqDiff, reduceCtorEq, b30_IY15, AM.wrap_i64]) | refine AM.build_w ?_))
      refine ⟨(i + 1, v3), by simp only; omega, ?_, by simp only; omega, ?_, (fr1.trans fr2).fresh fr3 (fun id q => hid1 id q), fun id q => (hid3 id q).elim (hid1 id) (fun q => by have := fr2.next; omega)⟩
      · simp (maxSteps := 1000000) (disch := first | omega | (simp only [AM.DB, List.length_set, List.length_map]; first | done | omega)) only [AM.RB, Nat.reduceAdd, Nat.reduceMul, Nat.reduceEqDiff, reduceCtorEq, b30_IY15]
        first | rfl | skip
      · simp only
        rw [hs]
        simpa using o3
    · have du : decide (now < (L.getD i dB).2) = false := decide_eq_false hon
      rw [if_neg hon, List.append_nil] at hs
      (repeat' (first | (simp (maxSteps := 1000000) (disch := first | omega | (simp only [AM.DB, List.length_set, List.length_map]; first | done | omega)) only [AM.RB, Nat.reduceAdd, Nat.reduceMul, Nat.reduceEqDiff, reduceCtorEq, b30_IY15, g1, rd1.ia el_60, rd1.fa fd_102_1, rd1.ldsF encB_len lk_29 rfl dB, Int.toNat_natCast, encB, du, AM.wrap_i64]) | refine AM.build_w ?_))
      refine ⟨(i + 1, _), by simp only; omega, ?_, by simp only; omega, ?_, fr1, hid1⟩
      · simp (maxSteps := 1000000) (disch := first | omega | (simp only [AM.DB, List.length_set, List.length_map]; first | done | omega)) only [AM.RB, Nat.reduceAdd, Nat.reduceMul, Nat.reduceEqDiff, reduceCtorEq, b30_IY15]
        first | rfl | skip
      · simp only
        rw [hs]; exact o1
  · obtain rfl : i = L.length := by omega
    simp only [List.take_length] at o1 hid1 ⊢
    have hlP : (L.filter (onP now)).length ≤ L.length := List.length_filter_le _ _
    generalize L.filter (onP now) = P at *
    (repeat' (first | (simp (maxSteps := 1000000) (disch := first | omega | (simp only [AM.DB, List.length_set, List.length_map]; first | done | omega)) only [AM.RB, Nat.reduceAdd, Nat.reduceMul, Nat.reduceEqDiff, reduceCtorEq, b30_IY15, g1]) | refine AM.build_w ?_))
    generalize hE_ : AHeap.put h1 _ _ = h2; obtain ⟨g2, fr2, n2, l2⟩ := AM.put_get hE_ (by omega); clear hE_
    have o2 := o1.fr fr2 fun id q e => by have := hid1 id q; omega
    have fr02 : Fr (ownR q (.slice sa L.length sc)) h h2 := fr1.weak.then fr2 fun id _ q => .inl q
    have x2 : Rb h2 q (.slice va P.length vc) P := ⟨g2, by omega, o2, fun id q => by have := hid1 id q; omega⟩
    have nw : ∀ id, idOf (.slice va P.length vc) id → idOf (.slice sa L.length sc) id ∨ h.next ≤ id := fun id q => .inr (hid1 id q)
    have hP6 : P.length ≤ 1000000 := by omega
    have wv : IntKind.u64.wrap (18446744073709551615 - now) = 18446744073709551615 - now := AM.wrap_u64 (by omega) (by omega)
    obtain ⟨u, hu⟩ : ∃ u, u = now + min t (18446744073709551615 - now) := ⟨_, rfl⟩
    have hub : 0 ≤ u ∧ u < 18446744073709551616 := by omega
    rw [← hu] at hq
    (repeat' (first | (simp (maxSteps := 1000000) (disch := first | omega | (simp only [AM.DB, List.length_set, List.length_map]; first | done | omega)) only [AM.RB, Nat.reduceAdd, Nat.reduceMul, Nat.reduceEqDiff, reduceCtorEq, b30_IY15]) | refine AM.build_w ?_))
    refine refFind_w x2 hP6 (fun i hi2 ei e1 e2 e3 => ?_) (fun e1 e2 e3 => ?_)
    · have di : decide ((i : Int) < 0) = false := decide_eq_false (by omega)
      rw [if_neg (by rw [e1]; simp)] at hq
      rw [e1] at hq
      simp only [Option.getD_some] at hq
      by_cases t0 : t = 0
      · have dt : decide (t = 0) = true := decide_eq_true t0
        rw [if_neg (by omega)] at hq
        (repeat' (first | (simp (maxSteps := 1000000) (disch := first | omega | (simp only [AM.DB, List.length_set, List.length_map]; first | done | omega)) only [AM.RB, Nat.reduceAdd, Nat.reduceMul, Nat.reduceEqDiff, reduceCtorEq, b30_IY15, di, dt]) | refine AM.build_w ?_))
        exact hq _ _ x2 fr02 nw
      have dt : decide (t = 0) = false := decide_eq_false t0
      rw [if_pos (by omega), e2] at hq
      have o2r := o2.rd
      by_cases hm : t < 18446744073709551615 - now
      · have dm : decide (t < 18446744073709551615 - now) = true := decide_eq_true hm
        have w3 : IntKind.u64.wrap (now + t) = u := by rw [AM.wrap_u64 (by omega) (by omega)]; omega
        by_cases hl3 : (P.getD i dB).2 < u
        · have dl : decide ((P.getD i dB).2 < u) = true := decide_eq_true hl3
          (repeat' (first | (simp (maxSteps := 1000000) (disch := first | omega | (simp only [AM.DB, List.length_set, List.length_map]; first | done | omega)) only [AM.RB, Nat.reduceAdd, Nat.reduceMul, Nat.reduceEqDiff, reduceCtorEq, b30_IY15, di, dt, wv, dm, w3, g2, o2r.ia el_60, o2r.fa fd_102_1, o2r.ldsF encB_len lk_29 rfl dB, Int.toNat_natCast, encB, dl]) | refine AM.build_w ?_))
          refine o2.stF sz_29 (j := i) hi2 (by omega) rfl rfl fun h3 o3 fr3 n3 => ?_
          have l3 := fr3.low
          (repeat' (first | (simp (maxSteps := 1000000) (disch := first | omega | (simp only [AM.DB, List.length_set, List.length_map]; first | done | omega)) only [AM.RB, Nat.reduceAdd, Nat.reduceMul, Nat.reduceEqDiff, reduceCtorEq, b30_IY15]) | refine AM.build_w ?_))
          have e4 : P.set i (c, max (P.getD i dB).2 u) = P.set i ((P.getD i dB).1, u) := by
            have e5 : (P.getD i dB).1 = c := by rw [ei]
            rw [e5, Int.max_eq_right (by omega)]
          rw [flatB_set P i u hi2, ← e4] at o3
          have el : P.length = (P.set i (c, max (P.getD i dB).2 u)).length := by rw [List.length_set]
          refine hq h3 (.slice va P.length vc) ⟨fr3.get g2 (fun q => by have := hid1 _ q; omega), by omega, ?_, fun id q => by have := hid1 id q; omega⟩ (fr02.then fr3 fun id q1 q2 => by have := hid1 id q2; omega) nw
          rw [← el]; exact o3
        · have dl : decide ((P.getD i dB).2 < u) = false := decide_eq_false hl3
          (repeat' (first | (simp (maxSteps := 1000000) (disch := first | omega | (simp only [AM.DB, List.length_set, List.length_map]; first | done | omega)) only [AM.RB, Nat.reduceAdd, Nat.reduceMul, Nat.reduceEqDiff, reduceCtorEq, b30_IY15, di, dt, wv, dm, w3, g2, o2r.ia el_60, o2r.fa fd_102_1, o2r.ldsF encB_len lk_29 rfl dB, Int.toNat_natCast, encB, dl]) | refine AM.build_w ?_))
          have e4 : P.set i (c, max (P.getD i dB).2 u) = P := by
            rw [Int.max_eq_left (by omega), ← ei]; exact setB_self P i hi2
          rw [e4] at hq
          exact hq _ _ x2 fr02 nw
        
      · have dm : decide (t < 18446744073709551615 - now) = false := decide_eq_false hm
        obtain rfl : u = 18446744073709551615 := by omega
        by_cases hl3 : (P.getD i dB).2 < (18446744073709551615 : Int)
        · have dl : decide ((P.getD i dB).2 < (18446744073709551615 : Int)) = true := decide_eq_true hl3
          (repeat' (first | (simp (maxSteps := 1000000) (disch := first | omega | (simp only [AM.DB, List.length_set, List.length_map]; first | done | omega)) only [AM.RB, Nat.reduceAdd, Nat.reduceMul, Nat.reduceEqDiff, reduceCtorEq, b30_IY15, di, dt, wv, dm, g2, o2r.ia el_60, o2r.fa fd_102_1, o2r.ldsF encB_len lk_29 rfl dB, Int.toNat_natCast, encB, dl]) | refine AM.build_w ?_))
          refine o2.stF sz_29 (j := i) hi2 (by omega) rfl rfl fun h3 o3 fr3 n3 => ?_
          have l3 := fr3.low
          (repeat' (first | (simp (maxSteps := 1000000) (disch := first | omega | (simp only [AM.DB, List.length_set, List.length_map]; first | done | omega)) only [AM.RB, Nat.reduceAdd, Nat.reduceMul, Nat.reduceEqDiff, reduceCtorEq, b30_IY15]) | refine AM.build_w ?_))
          have e4 : P.set i (c, max (P.getD i dB).2 (18446744073709551615 : Int)) = P.set i ((P.getD i dB).1, (18446744073709551615 : Int)) := by
            have e5 : (P.getD i dB).1 = c := by rw [ei]
            rw [e5, Int.max_eq_right (by omega)]
          rw [flatB_set P i (18446744073709551615 : Int) hi2, ← e4] at o3
          have el : P.length = (P.set i (c, max (P.getD i dB).2 (18446744073709551615 : Int))).length := by rw [List.length_set]
          refine hq h3 (.slice va P.length vc) ⟨fr3.get g2 (fun q => by have := hid1 _ q; omega), by omega, ?_, fun id q => by have := hid1 id q; omega⟩ (fr02.then fr3 fun id q1 q2 => by have := hid1 id q2; omega) nw
          rw [← el]; exact o3
        · have dl : decide ((P.getD i dB).2 < (18446744073709551615 : Int)) = false := decide_eq_false hl3
          (repeat' (first | (simp (maxSteps := 1000000) (disch := first | omega | (simp only [AM.DB, List.length_set, List.length_map]; first | done | omega)) only [AM.RB, Nat.reduceAdd, Nat.reduceMul, Nat.reduceEqDiff, reduceCtorEq, b30_IY15, di, dt, wv, dm, g2, o2r.ia el_60, o2r.fa fd_102_1, o2r.ldsF encB_len lk_29 rfl dB, Int.toNat_natCast, encB, dl]) | refine AM.build_w ?_))
          have e4 : P.set i (c, max (P.getD i dB).2 (18446744073709551615 : Int)) = P := by
            rw [Int.max_eq_left (by omega), ← ei]; exact setB_self P i hi2
          rw [e4] at hq
          exact hq _ _ x2 fr02 nw
        
    · have dn : decide ((-1 : Int) < 0) = true := rfl
      by_cases h64 : 64 ≤ P.length
      · have dg : decide ((64 : Int) ≤ P.length) = true := decide_eq_true (by omega)
        rw [if_pos ⟨e1, h64⟩] at hq
        (repeat' (first | (simp (maxSteps := 1000000) (disch := first | omega | (simp only [AM.DB, List.length_set, List.length_map]; first | done | omega)) only [AM.RB, Nat.reduceAdd, Nat.reduceMul, Nat.reduceEqDiff, reduceCtorEq, b30_IY15, dn, dg, g2]) | refine AM.build_w ?_))
        exact hq _ _ x2 fr02 nw
      have dg : decide ((64 : Int) ≤ P.length) = false := decide_eq_false (by omega)
      rw [if_neg (fun e => h64 e.2), e1] at hq
      by_cases t0 : t = 0
      · have dt : decide (t = 0) = true := decide_eq_true t0
        rw [if_neg (by omega)] at hq
        (repeat' (first | (simp (maxSteps := 1000000) (disch := first | omega | (simp only [AM.DB, List.length_set, List.length_map]; first | done | omega)) only [AM.RB, Nat.reduceAdd, Nat.reduceMul, Nat.reduceEqDiff, reduceCtorEq, b30_IY15, dn, dg, dt, g2]) | refine AM.build_w ?_))
        exact hq _ _ x2 fr02 nw
      have dt : decide (t = 0) = false := decide_eq_false t0
      rw [if_pos (by omega), e2] at hq
      by_cases hm : t < 18446744073709551615 - now
      · have dm : decide (t < 18446744073709551615 - now) = true := decide_eq_true hm
        have w3 : IntKind.u64.wrap (now + t) = u := by rw [AM.wrap_u64 (by omega) (by omega)]; omega
        (repeat' (first | (simp (maxSteps := 1000000) (disch := first | omega | (simp only [AM.DB, List.length_set, List.length_map]; first | done | omega)) only [AM.RB, Nat.reduceAdd, Nat.reduceMul, Nat.reduceEqDiff, reduceCtorEq, b30_IY15, dn, dt, wv, dm, dg, w3, g2, AM.bsW_agg bs_60]) | refine AM.build_w ?_))
        generalize hE_ : AHeap.alloc h2 _ = h3; obtain ⟨g3, fr3, n3, l3⟩ := AM.new_get hE_; clear hE_
        refine AM.appends_w ap_60 ap_60 (o2.fr0 fr3) (AM.Rd.whole (n := 1) (c := encB (c, u)) g3 rfl) rfl (by omega) (AM.fits (by omega) (by omega)) (AM.fits' (by omega)) fun v4 h4 o4 fr4 hid4 => ?_
        have gq4 := fr4.get (g2.fr0 fr3) (fun q => by have := hid1 _ q; omega)
        have n4 := fr4.next
        have w4 := fr4.low
        have hid4' : ∀ id, idOf v4 id → h.next ≤ id := fun id q => (hid4 id q).elim (fun q => hid1 id q) (fun q => by omega)
        obtain ⟨vd, ve, rfl⟩ := o4.form
        (repeat' (first | (simp (maxSteps := 1000000) (disch := first | omega | (simp only [AM.DB, List.length_set, List.length_map]; first | done | omega)) only [AM.RB, Nat.reduceAdd, Nat.reduceMul, Nat.reduceEqDiff, reduceCtorEq, b30_IY15, gq4]) | refine AM.build_w ?_))
        generalize hE_ : AHeap.put h4 _ _ = h5; obtain ⟨g5, fr5, n5, l5⟩ := AM.put_get hE_ (by omega); clear hE_
        have e4 : max ((none : Option Int).getD 0) u = u := by simp; omega
        rw [e4] at hq
        have el : P.length + 1 = (P ++ [(c, u)]).length := by simp
        have fr04 : Fr (ownR q (.slice sa L.length sc)) h h4 := (fr02.trans fr3.weak).then fr4 fun id q1 q2 => by have := hid1 id q2; omega
        refine hq h5 (.slice vd (P.length + 1) ve) ⟨g5, by omega, ?_, fun id q => by have := hid4' id q; omega⟩ (fr04.then fr5 fun id _ q => .inl q) (fun id q => .inr (hid4' id q))
        rw [← el, List.flatMap_append]
        exact (by simpa using o4 : Ow h4 _ 2 _ _ _).fr fr5 fun id q e => by have := hid4' id q; omega
        
      · have dm : decide (t < 18446744073709551615 - now) = false := decide_eq_false hm
        obtain rfl : u = 18446744073709551615 := by omega
        (repeat' (first | (simp (maxSteps := 1000000) (disch := first | omega | (simp only [AM.DB, List.length_set, List.length_map]; first | done | omega)) only [AM.RB, Nat.reduceAdd, Nat.reduceMul, Nat.reduceEqDiff, reduceCtorEq, b30_IY15, dn, dt, wv, dm, dg, g2, AM.bsW_agg bs_60]) | refine AM.build_w ?_))
        generalize hE_ : AHeap.alloc h2 _ = h3; obtain ⟨g3, fr3, n3, l3⟩ := AM.new_get hE_; clear hE_
        refine AM.appends_w ap_60 ap_60 (o2.fr0 fr3) (AM.Rd.whole (n := 1) (c := encB (c, (18446744073709551615 : Int))) g3 rfl) rfl (by omega) (AM.fits (by omega) (by omega)) (AM.fits' (by omega)) fun v4 h4 o4 fr4 hid4 => ?_
        have gq4 := fr4.get (g2.fr0 fr3) (fun q => by have := hid1 _ q; omega)
        have n4 := fr4.next
        have w4 := fr4.low
        have hid4' : ∀ id, idOf v4 id → h.next ≤ id := fun id q => (hid4 id q).elim (fun q => hid1 id q) (fun q => by omega)
        obtain ⟨vd, ve, rfl⟩ := o4.form
        (repeat' (first | (simp (maxSteps := 1000000) (disch := first | omega | (simp only [AM.DB, List.length_set, List.length_map]; first | done | omega)) only [AM.RB, Nat.reduceAdd, Nat.reduceMul, Nat.reduceEqDiff, reduceCtorEq, b30_IY15, gq4]) | refine AM.build_w ?_))
        generalize hE_ : AHeap.put h4 _ _ = h5; obtain ⟨g5, fr5, n5, l5⟩ := AM.put_get hE_ (by omega); clear hE_
        have e4 : max ((none : Option Int).getD 0) (18446744073709551615 : Int) = (18446744073709551615 : Int) := by simp; omega
        rw [e4] at hq
        have el : P.length + 1 = (P ++ [(c, (18446744073709551615 : Int))]).length := by simp
        have fr04 : Fr (ownR q (.slice sa L.length sc)) h h4 := (fr02.trans fr3.weak).then fr4 fun id q1 q2 => by have := hid1 id q2; omega
        refine hq h5 (.slice vd (P.length + 1) ve) ⟨g5, by omega, ?_, fun id q => by have := hid4' id q; omega⟩ (fr04.then fr5 fun id _ q => .inl q) (fun id q => .inr (hid4' id q))
        rw [← el, List.flatMap_append]
        exact (by simpa using o4 : Ow h4 _ 2 _ _ _).fr fr5 fun id q e => by have := hid4' id q; omega
        
end Go.Proofs.Ytodcnfabnlojdaa

namespace Go.Proofs.Ytodcnfabnlojdaa
open Go.AM
set_option maxRecDepth 8000
theorem b8_IY16 : type_of% (And.intro (@AM.alK_some) (And.intro (@al_64) (And.intro (@AM.bdV_some) (And.intro (@bd_58) (And.intro (@bd_62) (And.intro (@AM.bin_add) (And.intro (AM.bin_beq ul_4) (And.intro (AM.bin_bne ul_4) (And.intro (@AM.bin_eql) (And.intro (@AM.bin_gtr) (And.intro (@AM.bin_lss) (And.intro (@AM.bin_neq) (And.intro (@AM.boxK_agg) (And.intro (@AM.boxK_bool) (And.intro (@AM.boxK_func) (And.intro (@AM.boxK_int) (And.intro (@AM.boxK_map) (And.intro (@AM.boxK_pointer) (And.intro (@AM.boxK_slice) (And.intro (@AM.boxK_string) (And.intro (@AM.ex_tuple) (And.intro (@AM.fa_ptr) (And.intro (@fd_64_0) (And.intro (@fd_64_1) (And.intro (@fd_64_2) (And.intro (@fd_64_3) (And.intro (@AM.fillL_cons) (And.intro (@AM.fillL_nil) (And.intro (@AM.fillS_agg) (And.intro (@AM.fillS_bool) (And.intro (@AM.fillS_func) (And.intro (@AM.fillS_int) (And.intro (@AM.fillS_map) (And.intro (@AM.fillS_pointer) (And.intro (@AM.fillS_slice) (And.intro (@AM.fillS_string) (And.intro (@AM.iaO_ok) (And.intro (AM.ia_slice el_54) (And.intro (@AM.ldO_agg) (And.intro (@AM.ldO_one) (And.intro (@AM.ld_ptr) (And.intro (AM.len_slice ul_54) (And.intro (@lk_29) (And.intro (@lk_3) (And.intro (@lk_64) (And.intro (@AM.op_alloc) (And.intro (@AM.op_binOp) (And.intro (@AM.op_box) (And.intro (@AM.op_build) (And.intro (@AM.op_call) (And.intro (@AM.op_extract) (And.intro (@AM.op_fieldAddr) (And.intro (@AM.op_indexAddr) (And.intro (@AM.op_len) (And.intro (@AM.op_load) (And.intro (@AM.op_store) (And.intro (@AM.op_unOp) (And.intro (@AM.stO_agg) (And.intro (@AM.stO_bool) (And.intro (@AM.stO_int) (And.intro (@AM.stO_map) (And.intro (@AM.stO_pointer) (And.intro (@AM.stO_slice) (And.intro (@AM.stO_string) (And.intro (@AM.st_ptr) (And.intro (@sz_64) (And.intro (@AM.un_neg) (@AM.un_not)))))))))))))))))))))))))))))))))))))))))))))))))))))))))))))))))))) := And.intro (@AM.alK_some) (And.intro (@al_64) (And.intro (@AM.bdV_some) (And.intro (@bd_58) (And.intro (@bd_62) (And.intro (@AM.bin_add) (And.intro (AM.bin_beq ul_4) (And.intro (AM.bin_bne ul_4) (And.intro (@AM.bin_eql) (And.intro (@AM.bin_gtr) (And.intro (@AM.bin_lss) (And.intro (@AM.bin_neq) (And.intro (@AM.boxK_agg) (And.intro (@AM.boxK_bool) (And.intro (@AM.boxK_func) (And.intro (@AM.boxK_int) (And.intro (@AM.boxK_map) (And.intro (@AM.boxK_pointer) (And.intro (@AM.boxK_slice) (And.intro (@AM.boxK_string) (And.intro (@AM.ex_tuple) (And.intro (@AM.fa_ptr) (And.intro (@fd_64_0) (And.intro (@fd_64_1) (And.intro (@fd_64_2) (And.intro (@fd_64_3) (And.intro (@AM.fillL_cons) (And.intro (@AM.fillL_nil) (And.intro (@AM.fillS_agg) (And.intro (@AM.fillS_bool) (And.intro (@AM.fillS_func) (And.intro (@AM.fillS_int) (And.intro (@AM.fillS_map) (And.intro (@AM.fillS_pointer) (And.intro (@AM.fillS_slice) (And.intro (@AM.fillS_string) (And.intro (@AM.iaO_ok) (And.intro (AM.ia_slice el_54) (And.intro (@AM.ldO_agg) (And.intro (@AM.ldO_one) (And.intro (@AM.ld_ptr) (And.intro (AM.len_slice ul_54) (And.intro (@lk_29) (And.intro (@lk_3) (And.intro (@lk_64) (And.intro (@AM.op_alloc) (And.intro (@AM.op_binOp) (And.intro (@AM.op_box) (And.intro (@AM.op_build) (And.intro (@AM.op_call) (And.intro (@AM.op_extract) (And.intro (@AM.op_fieldAddr) (And.intro (@AM.op_indexAddr) (And.intro (@AM.op_len) (And.intro (@AM.op_load) (And.intro (@AM.op_store) (And.intro (@AM.op_unOp) (And.intro (@AM.stO_agg) (And.intro (@AM.stO_bool) (And.intro (@AM.stO_int) (And.intro (@AM.stO_map) (And.intro (@AM.stO_pointer) (And.intro (@AM.stO_slice) (And.intro (@AM.stO_string) (And.intro (@AM.st_ptr) (And.intro (@sz_64) (And.intro (@AM.un_neg) (@AM.un_not)))))))))))))))))))))))))))))))))))))))))))))))))))))))))))))))))))


abbrev OpY := Int × Int × Int × Int
abbrev encY (o : OpY) : List Value := [.int .i64 o.1, .int .u64 o.2.1, .int .i64 o.2.2.1, .int .u64 o.2.2.2]
abbrev dY : OpY := (0, 0, 0, 0)
theorem encY_len (o : OpY) : (encY o).length = 4 := rfl
/-- Its ticks are numbers of their kind. -/
def wfY (o : OpY) : Prop := (0 ≤ o.2.1 ∧ o.2.1 < 18446744073709551616) ∧ 0 ≤ o.2.2.2 ∧ o.2.2.2 < 18446744073709551616

/-- The program's bans, and the reference's, both made since h0. -/
def Two (h0 h : AHeap) (p q : Nat) (mo : Option Nat) (s : Value) (L : IL) : Prop :=
  okU L ∧ Bd h p mo L ∧ Rb h q s L ∧ Fr none' h0 h ∧ (∀ id, own p mo id → h0.next ≤ id) ∧ (∀ id, ownR q s id → h0.next ≤ id) ∧ ∀ id, ownR q s id → ¬ own p mo id
theorem Two.fr0 {h0 h h' : AHeap} {p q : Nat} {mo : Option Nat} {s : Value} {L : IL} (x : Two h0 h p q mo s L) (fr : Fr none' h h') : Two h0 h' p q mo s L := by
  obtain ⟨a, b, c, d, e, f, g⟩ := x
  exact ⟨a, b.fr0 fr, c.fr0 fr, d.trans fr, e, f, g⟩
/-- Both go from L to L'. -/
theorem Two.step {h0 h h1 h2 : AHeap} {p q : Nat} {mo mo1 : Option Nat} {s s2 : Value} {L L' : IL} (x : Two h0 h p q mo s L) (ok : okU L') (b1 : Bd h1 p mo1 L') (fr1 : Fr (own p mo) h h1) (nw1 : ∀ id, mo1 = some id → mo = some id ∨ h.next ≤ id)
    (b2 : Rb h2 q s2 L') (fr2 : Fr (ownR q s) h1 h2) (nw2 : ∀ id, idOf s2 id → idOf s id ∨ h1.next ≤ id) : Two h0 h2 p q mo1 s2 L' := by
  obtain ⟨a, b, c, d, e, f, g⟩ := x
  have nx := d.next
  have n1 := fr1.next
  have o1 : ∀ id, own p mo1 id → own p mo id ∨ h.next ≤ id := fun id i => i.elim (fun i => .inl (.inl i)) (fun i => (nw1 id i).imp .inr (fun i => i))
  have o2 : ∀ id, ownR q s2 id → ownR q s id ∨ h1.next ≤ id := fun id i => i.elim (fun i => .inl (.inl i)) (fun i => (nw2 id i).imp .inr (fun i => i))
  refine ⟨ok, b1.fr fr2 fun id i j => ?_, b2, (d.fresh fr1 fun id i => e id i).fresh fr2 fun id i => f id i, fun id i => ?_, fun id i => ?_, fun id i j => ?_⟩
  · rcases o1 id i with i | i
    · exact g id j i
    · have := c.lt j; omega
  · rcases o1 id i with i | i
    · exact e id i
    · omega
  · rcases o2 id i with i | i
    · exact f id i
    · omega
  · rcases o2 id i with i | i
    · rcases o1 id j with j | j
      · exact g id i j
      · have := c.lt i; omega
    · have := b1.lt j; omega
theorem Two.mid {h0 h h1 : AHeap} {p q : Nat} {mo : Option Nat} {s : Value} {L : IL} (x : Two h0 h p q mo s L) (fr1 : Fr (own p mo) h h1) : Rb h1 q s L := x.2.2.1.fr fr1 x.2.2.2.2.2.2

set_option maxHeartbeats 8000000 in
theorem bansLaw_w {s : Value} {n : Nat} {l : List OpY} {h : AHeap} (hs : Rd h 64 4 s n (l.flatMap encY)) (hln : l.length = n) (hlb : ∀ o ∈ l, wfY o) (hl : h.low ≤ h.next) :
    W 8 [s] h fun v _ => v = .bool true := by
  obtain ⟨a, cap, rfl⟩ := hs.form
  refine AM.enter hp (fn := Try.f8) (rs := [.tmp 2]) (nt := 135) (by kernel_rfl) Try.func8 rfl rfl rfl (by kernel_rfl) ?_
  by_cases h150 : (150 : Int) < n
  · have d0 := decide_eq_true h150
    (repeat' (first | (simp (maxSteps := 1000000) (disch := first | omega | (simp only [AM.DB, List.length_set, List.length_map]; first | done | omega)) only [AM.RB, Nat.reduceAdd, Nat.reduceMul, Nat.reduceEqDiff, reduceCtorEq, b8_IY16, d0]) | refine AM.drawW_loose (id := 15) hp (by kernel_rfl) (by kernel_rfl) ?_ | refine AM.opW_tied (by kernel_rfl) ?_ | refine AM.opW_untied (by kernel_rfl) ?_ | refine AM.build_w ?_))
  have d0 := decide_eq_false h150
  (repeat' (first | (simp (maxSteps := 1000000) (disch := first | omega | (simp only [AM.DB, List.length_set, List.length_map]; first | done | omega)) only [AM.RB, Nat.reduceAdd, Nat.reduceMul, Nat.reduceEqDiff, reduceCtorEq, b8_IY16, d0]) | refine AM.drawW_loose (id := 15) hp (by kernel_rfl) (by kernel_rfl) ?_ | refine AM.opW_tied (by kernel_rfl) ?_ | refine AM.opW_untied (by kernel_rfl) ?_ | refine AM.build_w ?_))
  generalize hE_ : AHeap.alloc (AHeap.alloc h _) _ = h0
  have gp : h0.get h.next = some (.cells [.map none] 58 false) := by rw [← hE_, AM.get_alloc_ne (by simp), AM.get_alloc_self rfl]
  have gq : h0.get (h.next + 1) = some (.cells [.slice none 0 0] 62 false) := by rw [← hE_, AM.get_alloc_self (by simp)]
  have fr0 : Fr none' h h0 := by rw [← hE_]; exact ((Fr.refl _ _).alloc _).alloc _
  have n0 : h0.next = h.next + 2 := by rw [← hE_]; rfl
  have l0 := fr0.low
  clear hE_
  have tw0 : Two h h0 h.next (h.next + 1) none (.slice none 0 0) [] :=
    ⟨okU_nil, ⟨gp, by omega, by simp, rfl⟩, ⟨gq, by omega, Ow.nil _ _ _, fun _ q => q.elim⟩, fr0, fun id q => q.elim (fun e => by omega) (fun e => by cases e), fun id q => q.elim (fun e => by omega) (fun e => e.elim),
      fun id q r => q.elim (fun e => r.elim (fun e' => by omega) (fun e' => by cases e')) (fun e => e.elim)⟩
  refine AM.loop_w hp 135 (fun i : Nat => [(0, .slice a n cap), (3, pv h.next), (4, pv (h.next + 1)), (26, .int .i64 n), (27, .int .i64 i)])
    (fun i h' => i ≤ n ∧ ∃ mo s L, Two h h' h.next (h.next + 1) mo s L) (fun i => n - i) (by kernel_rfl) 0 ?_ ?_ ?_
  · simp (maxSteps := 1000000) (disch := first | omega | (simp only [AM.DB, List.length_set, List.length_map]; first | done | omega)) only [AM.RB, Nat.reduceAdd, Nat.reduceMul, Nat.reduceEqDiff, reduceCtorEq, b8_IY16]
    first | rfl | skip
  · exact ⟨Nat.zero_le _, none, _, [], tw0⟩
  rintro i h1 ρ ⟨hi, mo, s, L, tw⟩
  have fr1 := tw.2.2.2.1
  have hl1 := fr1.hl hl
  have hs1 := hs.fr0 fr1
  have nx1 := fr1.next
  simp (maxSteps := 1000000) (disch := first | omega | (simp only [AM.DB, List.length_set, List.length_map]; first | done | omega)) only [AM.RB, Nat.reduceAdd, Nat.reduceMul, Nat.reduceEqDiff, reduceCtorEq, b8_IY16]
  refine AM.condV_split (fun hlt2 => ?_) (fun hlt2 => ?_)
  case' refine_2 => (repeat' (first | (simp (maxSteps := 1000000) (disch := first | omega | (simp only [AM.DB, List.length_set, List.length_map]; first | done | omega)) only [AM.RB, Nat.reduceAdd, Nat.reduceMul, Nat.reduceEqDiff, reduceCtorEq, b8_IY16]) | refine AM.drawW_loose (id := 15) hp (by kernel_rfl) (by kernel_rfl) ?_ | refine AM.opW_tied (by kernel_rfl) ?_ | refine AM.opW_untied (by kernel_rfl) ?_ | refine AM.build_w ?_))
  obtain ⟨⟨kind, now, c, t⟩, hr'⟩ : ∃ r, l.getD i dY = r := ⟨_, rfl⟩
  have hgb : wfY (kind, now, c, t) := by
    have := hlb (l.getD i dY) (by simp [List.getD, show i < l.length by omega])
    rw [hr'] at this; exact this
  obtain ⟨hnow, htk⟩ := hgb
  simp only at hnow htk
  (repeat' (first | (simp (maxSteps := 1000000) (disch := first | omega | (simp only [AM.DB, List.length_set, List.length_map]; first | done | omega)) only [AM.RB, Nat.reduceAdd, Nat.reduceMul, Nat.reduceEqDiff, reduceCtorEq, b8_IY16, hs1.ia el_54, hs1.lds encY_len lk_64 hln dY, Int.toNat_natCast, hr', encY]) | refine AM.drawW_loose (id := 15) hp (by kernel_rfl) (by kernel_rfl) ?_ | refine AM.opW_tied (by kernel_rfl) ?_ | refine AM.opW_untied (by kernel_rfl) ?_ | refine AM.build_w ?_))
  generalize hE_ : AHeap.put (AHeap.alloc h1 _) _ _ = h2; obtain ⟨g2, fr2, n2, l2⟩ := AM.box_get hE_ (by omega); clear hE_
  have tw2 := tw.fr0 fr2
  have hl2 := fr2.hl hl1
  have lt2 := AM.get_some_lt g2
  have ownne : ∀ id, own h.next mo id → id ≠ h1.next := fun id q e => by have := tw.2.1.lt q; omega
  have ownne2 : ∀ id, ownR (h.next + 1) s id → id ≠ h1.next := fun id q e => by have := tw.2.2.1.lt q; omega
  by_cases k0 : kind = 0
  case' pos =>
    subst k0
    (repeat' (first | (simp (maxSteps := 1000000) (disch := first | omega | (simp only [AM.DB, List.length_set, List.length_map]; first | done | omega)) only [AM.RB, Nat.reduceAdd, Nat.reduceMul, Nat.reduceEqDiff, reduceCtorEq, b8_IY16, g2]) | refine AM.drawW_loose (id := 15) hp (by kernel_rfl) (by kernel_rfl) ?_ | refine AM.opW_tied (by kernel_rfl) ?_ | refine AM.opW_untied (by kernel_rfl) ?_ | refine AM.build_w ?_))
    refine ban_w tw2.2.1 tw2.1 hnow htk fun h3 mo3 b3 fr3 nw3 => ?_
    have g3 := fr3.get g2 (fun q => ownne _ q rfl)
    have rb3 := tw2.mid fr3
    have ok3 := banP_ok tw2.1 hnow (c := c) htk.1
    (repeat' (first | (simp (maxSteps := 1000000) (disch := first | omega | (simp only [AM.DB, List.length_set, List.length_map]; first | done | omega)) only [AM.RB, Nat.reduceAdd, Nat.reduceMul, Nat.reduceEqDiff, reduceCtorEq, b8_IY16, g3]) | refine AM.drawW_loose (id := 15) hp (by kernel_rfl) (by kernel_rfl) ?_ | refine AM.opW_tied (by kernel_rfl) ?_ | refine AM.opW_untied (by kernel_rfl) ?_ | refine AM.build_w ?_))
    refine refPut_w rb3 (by have := tw2.1.2.2; omega) hnow htk fun h4 s4 rb4 fr4 nw4 => ?_
    have tw4 := tw2.step ok3 b3 fr3 nw3 rb4 fr4 nw4
    have g4 := fr4.get g3 (fun q => ownne2 _ q rfl)
    have dq : decide ((banP now c t L).1 = (banP now c t L).1) = true := decide_eq_true rfl
    generalize (banP now c t L).2 = L4 at *
    generalize mo3 = mo4 at *
  case' neg =>
    by_cases k1 : kind = 1
    case' pos =>
      subst k1
      have d10 : decide ((1 : Int) = 0) = false := rfl
      (repeat' (first | (simp (maxSteps := 1000000) (disch := first | omega | (simp only [AM.DB, List.length_set, List.length_map]; first | done | omega)) only [AM.RB, Nat.reduceAdd, Nat.reduceMul, Nat.reduceEqDiff, reduceCtorEq, b8_IY16, g2, d10]) | refine AM.drawW_loose (id := 15) hp (by kernel_rfl) (by kernel_rfl) ?_ | refine AM.opW_tied (by kernel_rfl) ?_ | refine AM.opW_untied (by kernel_rfl) ?_ | refine AM.build_w ?_))
      refine lift_w tw2.2.1 fun h3 mo3 b3 fr3 nw3 => ?_
      have g3 := fr3.get g2 (fun q => ownne _ q rfl)
      have lt3 := AM.get_some_lt g3
      have rb3 := tw2.mid fr3
      have ok3 := tw2.1.del c
      (repeat' (first | (simp (maxSteps := 1000000) (disch := first | omega | (simp only [AM.DB, List.length_set, List.length_map]; first | done | omega)) only [AM.RB, Nat.reduceAdd, Nat.reduceMul, Nat.reduceEqDiff, reduceCtorEq, b8_IY16, g3]) | refine AM.drawW_loose (id := 15) hp (by kernel_rfl) (by kernel_rfl) ?_ | refine AM.opW_tied (by kernel_rfl) ?_ | refine AM.opW_untied (by kernel_rfl) ?_ | refine AM.build_w ?_))
      refine refLift_w rb3 (by have := tw2.1.2.2; omega) fun h4 s4 rb4 fr4 nw4 => ?_
      have tw4 := tw2.step ok3 b3 fr3 nw3 rb4 fr4 nw4
      have g4 := fr4.get g3 (fun q => ownne2 _ q rfl)
      have lt4 := AM.get_some_lt g4
      generalize delI L c = L4 at *
      generalize mo3 = mo4 at *
      (repeat' (first | (simp (maxSteps := 1000000) (disch := first | omega | (simp only [AM.DB, List.length_set, List.length_map]; first | done | omega)) only [AM.RB, Nat.reduceAdd, Nat.reduceMul, Nat.reduceEqDiff, reduceCtorEq, b8_IY16, g4]) | refine AM.drawW_loose (id := 15) hp (by kernel_rfl) (by kernel_rfl) ?_ | refine AM.opW_tied (by kernel_rfl) ?_ | refine AM.opW_untied (by kernel_rfl) ?_ | refine AM.build_w ?_))
      refine ⟨AM.looseOk_by [(6, [0, 4])] (by kernel_rfl) ?_, ?_⟩
      · simp (maxSteps := 1000000) (disch := first | omega | (simp only [AM.DB, List.length_set, List.length_map]; first | done | omega)) only [AM.RB, Nat.reduceAdd, Nat.reduceMul, Nat.reduceEqDiff, reduceCtorEq, b8_IY16]
        (repeat' apply And.intro) <;> (first | (refine AM.stable_len _ _ _ _ _ _ (fun _ => ?_); (simp (maxSteps := 1000000) (disch := first | omega | (simp only [AM.DB, List.length_set, List.length_map]; first | done | omega)) only [AM.RB, Nat.reduceAdd, Nat.reduceMul, Nat.reduceEqDiff, reduceCtorEq, b8_IY16, g2, g3, g4])) | (refine AM.stable_load _ _ _ _ _ _ ?_; (first | (simp (maxSteps := 1000000) (disch := first | omega | (simp only [AM.DB, List.length_set, List.length_map]; first | done | omega)) only [AM.RB, Nat.reduceAdd, Nat.reduceMul, Nat.reduceEqDiff, reduceCtorEq, b8_IY16, g2, g3, g4]) | skip); (first | (refine AM.stabL_int (by omega) ?_; (simp (maxSteps := 1000000) (disch := first | omega | (simp only [AM.DB, List.length_set, List.length_map]; first | done | omega)) only [AM.RB, Nat.reduceAdd, Nat.reduceMul, Nat.reduceEqDiff, reduceCtorEq, b8_IY16, g2, g3, g4])) | (refine AM.stabL_ptr (by omega) (by omega) ?_; (simp (maxSteps := 1000000) (disch := first | omega | (simp only [AM.DB, List.length_set, List.length_map]; first | done | omega)) only [AM.RB, Nat.reduceAdd, Nat.reduceMul, Nat.reduceEqDiff, reduceCtorEq, b8_IY16, g2, g3, g4])) | (refine AM.stabL_string (by omega) ?_; (simp (maxSteps := 1000000) (disch := first | omega | (simp only [AM.DB, List.length_set, List.length_map]; first | done | omega)) only [AM.RB, Nat.reduceAdd, Nat.reduceMul, Nat.reduceEqDiff, reduceCtorEq, b8_IY16, g2, g3, g4])) | (refine AM.stabL_bool (by omega) ?_; (simp (maxSteps := 1000000) (disch := first | omega | (simp only [AM.DB, List.length_set, List.length_map]; first | done | omega)) only [AM.RB, Nat.reduceAdd, Nat.reduceMul, Nat.reduceEqDiff, reduceCtorEq, b8_IY16, g2, g3, g4])))))
    case' neg =>
      have dk0 : decide (kind = 0) = false := decide_eq_false k0
      have dk1 : decide (kind = 1) = false := decide_eq_false k1
      (repeat' (first | (simp (maxSteps := 1000000) (disch := first | omega | (simp only [AM.DB, List.length_set, List.length_map]; first | done | omega)) only [AM.RB, Nat.reduceAdd, Nat.reduceMul, Nat.reduceEqDiff, reduceCtorEq, b8_IY16, g2, dk0, dk1]) | refine AM.drawW_loose (id := 15) hp (by kernel_rfl) (by kernel_rfl) ?_ | refine AM.opW_tied (by kernel_rfl) ?_ | refine AM.opW_untied (by kernel_rfl) ?_ | refine AM.build_w ?_))
      obtain ⟨h4, rfl⟩ : ∃ h4, h4 = h2 := ⟨_, rfl⟩
      have tw4 := tw2
      have g4 := g2
      generalize mo = mo4 at tw4
      generalize s = s4 at tw4
      generalize L = L4 at tw4
  all_goals (
    have fr4 := tw4.2.2.2.1
    have hl4 := fr4.hl hl
    have ok4 := tw4.1
    have lt4' := AM.get_some_lt g4
    (repeat' (first | (simp (maxSteps := 1000000) (disch := first | omega | (simp only [AM.DB, List.length_set, List.length_map]; first | done | omega)) only [AM.RB, Nat.reduceAdd, Nat.reduceMul, Nat.reduceEqDiff, reduceCtorEq, b8_IY16, g4]) | refine AM.drawW_loose (id := 15) hp (by kernel_rfl) (by kernel_rfl) ?_ | refine AM.opW_tied (by kernel_rfl) ?_ | refine AM.opW_untied (by kernel_rfl) ?_ | refine AM.build_w ?_))
    refine banned_w tw4.2.1 ok4 fun v5 h5 o5 fr5 hid5 => ?_
    have tw5 := tw4.fr0 fr5
    have g5 := fr5.get g4 (fun q => q)
    have lt5 := AM.get_some_lt g5
    obtain ⟨va, vc, rfl⟩ := o5.form
    (repeat' (first | (simp (maxSteps := 1000000) (disch := first | omega | (simp only [AM.DB, List.length_set, List.length_map]; first | done | omega)) only [AM.RB, Nat.reduceAdd, Nat.reduceMul, Nat.reduceEqDiff, reduceCtorEq, b8_IY16, g5]) | refine AM.drawW_loose (id := 15) hp (by kernel_rfl) (by kernel_rfl) ?_ | refine AM.opW_tied (by kernel_rfl) ?_ | refine AM.opW_untied (by kernel_rfl) ?_ | refine AM.build_w ?_))
    refine until_w tw5.2.1 hnow.1 ?_
    (repeat' (first | (simp (maxSteps := 1000000) (disch := first | omega | (simp only [AM.DB, List.length_set, List.length_map]; first | done | omega)) only [AM.RB, Nat.reduceAdd, Nat.reduceMul, Nat.reduceEqDiff, reduceCtorEq, b8_IY16, g5]) | refine AM.drawW_loose (id := 15) hp (by kernel_rfl) (by kernel_rfl) ?_ | refine AM.opW_tied (by kernel_rfl) ?_ | refine AM.opW_untied (by kernel_rfl) ?_ | refine AM.build_w ?_))
    refine refUntil_w tw5.2.2.1 hnow.1 (by have := ok4.2.2; omega) ?_
    (repeat' (first | (simp (maxSteps := 1000000) (disch := first | omega | (simp only [AM.DB, List.length_set, List.length_map]; first | done | omega)) only [AM.RB, Nat.reduceAdd, Nat.reduceMul, Nat.reduceEqDiff, reduceCtorEq, b8_IY16, g5]) | refine AM.drawW_loose (id := 15) hp (by kernel_rfl) (by kernel_rfl) ?_ | refine AM.opW_tied (by kernel_rfl) ?_ | refine AM.opW_untied (by kernel_rfl) ?_ | refine AM.build_w ?_))
    refine next_w tw5.2.1 ok4 ?_
    (repeat' (first | (simp (maxSteps := 1000000) (disch := first | omega | (simp only [AM.DB, List.length_set, List.length_map]; first | done | omega)) only [AM.RB, Nat.reduceAdd, Nat.reduceMul, Nat.reduceEqDiff, reduceCtorEq, b8_IY16, g5]) | refine AM.drawW_loose (id := 15) hp (by kernel_rfl) (by kernel_rfl) ?_ | refine AM.opW_tied (by kernel_rfl) ?_ | refine AM.opW_untied (by kernel_rfl) ?_ | refine AM.build_w ?_))
    refine refNext_w tw5.2.2.1 (by have := ok4.2.2; omega) ?_
    (repeat' (first | (simp (maxSteps := 1000000) (disch := first | omega | (simp only [AM.DB, List.length_set, List.length_map]; first | done | omega)) only [AM.RB, Nat.reduceAdd, Nat.reduceMul, Nat.reduceEqDiff, reduceCtorEq, b8_IY16, g5]) | refine AM.drawW_loose (id := 15) hp (by kernel_rfl) (by kernel_rfl) ?_ | refine AM.opW_tied (by kernel_rfl) ?_ | refine AM.opW_untied (by kernel_rfl) ?_ | refine AM.build_w ?_))
    refine refBanned_w tw5.2.2.1 hnow.1 (by have := ok4.2.2; omega) (tw5.2.2.2.1.hl hl) fun v6 h6 o6 fr6 hid6 => ?_
    rw [refB_all hnow.1 ok4] at o6
    obtain ⟨vb, vd, rfl⟩ := o6.form
    have tw6 := tw5.fr0 fr6
    have hdL : decide (bannedL now L4 = bannedL now L4) = true := decide_eq_true rfl
    have hbl : (bannedL now L4).length ≤ 64 := by rw [bannedL_len]; have := List.length_filter_le (onP now) L4; have := ok4.2.2; omega
    (repeat' (first | (simp (maxSteps := 1000000) (disch := first | omega | (simp only [AM.DB, List.length_set, List.length_map]; first | done | omega)) only [AM.RB, Nat.reduceAdd, Nat.reduceMul, Nat.reduceEqDiff, reduceCtorEq, b8_IY16]) | refine AM.drawW_loose (id := 15) hp (by kernel_rfl) (by kernel_rfl) ?_ | refine AM.opW_tied (by kernel_rfl) ?_ | refine AM.opW_untied (by kernel_rfl) ?_ | refine AM.build_w ?_))
    refine sameY_w (o5.fr0 fr6).rd o6.rd (by omega) ?_
    rw [hdL]
    (repeat' (first | (simp (maxSteps := 1000000) (disch := first | omega | (simp only [AM.DB, List.length_set, List.length_map]; first | done | omega)) only [AM.RB, Nat.reduceAdd, Nat.reduceMul, Nat.reduceEqDiff, reduceCtorEq, b8_IY16, AM.wrap_i64]) | refine AM.drawW_loose (id := 15) hp (by kernel_rfl) (by kernel_rfl) ?_ | refine AM.opW_tied (by kernel_rfl) ?_ | refine AM.opW_untied (by kernel_rfl) ?_ | refine AM.build_w ?_))
    refine ⟨i + 1, by omega, ?_, by omega, mo4, s4, L4, tw6⟩
    simp (maxSteps := 1000000) (disch := first | omega | (simp only [AM.DB, List.length_set, List.length_map]; first | done | omega)) only [AM.RB, Nat.reduceAdd, Nat.reduceMul, Nat.reduceEqDiff, reduceCtorEq, b8_IY16]
    first | rfl | skip)
end Go.Proofs.Ytodcnfabnlojdaa
