/- Walks of this claim's functions, and plain laws. -/
import Derived.Test.YtodcnfabnlojdaaWa
set_option linter.unusedSimpArgs false
set_option linter.unusedVariables false
namespace Go.Proofs.Ytodcnfabnlojdaa
open Go.AM
set_option maxRecDepth 8000
theorem b34_IY8 : type_of% (And.intro (@Option.isNone_none.{0}) (And.intro (@Option.isNone_some.{0}) (And.intro (@AM.bin_leq) (And.intro (AM.bin_pnil ul_55) (And.intro (@AM.fa_ptr) (And.intro (@fd_58_0) (And.intro (@AM.ldO_agg) (And.intro (@AM.ldO_one) (And.intro (@AM.ld_ptr) (And.intro (@lk_56) (And.intro (@AM.op_binOp) (And.intro (@AM.op_fieldAddr) (And.intro (@AM.op_load) (And.intro (@AM.op_lookup) (And.intro (@AM.op_nilCheck) (@AM.resL_two)))))))))))))))) := And.intro (@Option.isNone_none.{0}) (And.intro (@Option.isNone_some.{0}) (And.intro (@AM.bin_leq) (And.intro (AM.bin_pnil ul_55) (And.intro (@AM.fa_ptr) (And.intro (@fd_58_0) (And.intro (@AM.ldO_agg) (And.intro (@AM.ldO_one) (And.intro (@AM.ld_ptr) (And.intro (@lk_56) (And.intro (@AM.op_binOp) (And.intro (@AM.op_fieldAddr) (And.intro (@AM.op_load) (And.intro (@AM.op_lookup) (And.intro (@AM.op_nilCheck) (@AM.resL_two)))))))))))))))
theorem b31_IY8 : type_of% (And.intro (@Option.isNone_none.{0}) (And.intro (@Option.isNone_some.{0}) (And.intro (AM.bin_pnil ul_55) (And.intro (@AM.ex_tuple) (And.intro (@AM.fa_ptr) (And.intro (@fd_58_0) (And.intro (@AM.ldO_agg) (And.intro (@AM.ldO_one) (And.intro (@AM.ld_ptr) (And.intro (@lk_56) (And.intro (@AM.op_binOp) (And.intro (@AM.op_delete) (And.intro (@AM.op_extract) (And.intro (@AM.op_fieldAddr) (And.intro (@AM.op_load) (And.intro (@AM.op_lookup) (@AM.op_nilCheck))))))))))))))))) := And.intro (@Option.isNone_none.{0}) (And.intro (@Option.isNone_some.{0}) (And.intro (AM.bin_pnil ul_55) (And.intro (@AM.ex_tuple) (And.intro (@AM.fa_ptr) (And.intro (@fd_58_0) (And.intro (@AM.ldO_agg) (And.intro (@AM.ldO_one) (And.intro (@AM.ld_ptr) (And.intro (@lk_56) (And.intro (@AM.op_binOp) (And.intro (@AM.op_delete) (And.intro (@AM.op_extract) (And.intro (@AM.op_fieldAddr) (And.intro (@AM.op_load) (And.intro (@AM.op_lookup) (@AM.op_nilCheck))))))))))))))))


/-! ### Bans in memory: cells, each once, and until when -/
def vU (L : IL) : List (Int × Value) := L.map fun q => (q.1, .int .u64 q.2)
theorem vU_get : ∀ (L : IL) (x : Int), mgetL (vU L) x = (getI L x).map (Value.int .u64)
  | [], _ => rfl
  | (k, v) :: l, x => by
    show mgetL ((k, .int .u64 v) :: vU l) x = _
    unfold mgetL getI
    split
    · rfl
    · exact vU_get l x
theorem vU_set : ∀ (L : IL) (x v : Int), msetL (vU L) x (.int .u64 v) = vU (setI L x v)
  | [], _, _ => rfl
  | (k, w) :: l, x, v => by
    show msetL ((k, .int .u64 w) :: vU l) x _ = _
    unfold msetL setI
    split
    · rfl
    · show _ = (k, Value.int .u64 w) :: vU (setI l x v)
      rw [← vU_set l x v]
theorem vU_del : ∀ (L : IL) (x : Int), mdelL (vU L) x = vU (delI L x)
  | [], _ => rfl
  | (k, w) :: l, x => by
    show mdelL ((k, .int .u64 w) :: vU l) x = _
    unfold mdelL delI
    split
    · rfl
    · show _ = (k, Value.int .u64 w) :: vU (delI l x)
      rw [← vU_del l x]
def fitU (q : Int × Int) : Prop := (0 ≤ q.1 ∧ q.1 < 1024) ∧ 0 ≤ q.2 ∧ q.2 < 18446744073709551616
def okU (L : IL) : Prop := (∀ q ∈ L, fitU q) ∧ (L.map (·.1)).Nodup ∧ L.length ≤ 64
theorem okU_nil : okU [] := ⟨by simp, by simp, by simp⟩
theorem prU_vU (L : IL) : (encM (vU L)).map prU = L := by
  simp only [encM, vU, List.map_map]
  exact (List.map_congr_left fun q _ => rfl).trans (List.map_id _)
theorem filt_vU (now : Int) (L : IL) : ((encM (vU L)).filter fun p => onP now (prU p)) = encM (vU (L.filter (onP now))) := by
  simp only [encM, vU, List.map_map, List.filter_map]
  rfl
theorem isW64_n {n : Int} (h0 : 0 ≤ n) (h1 : n < 1024) : isW64 (.int .i64 n) = true := by
  have e1 : IntKind.i64.min = -9223372036854775808 := by decide
  have e2 : IntKind.i64.max = 9223372036854775807 := by decide
  unfold isW64
  simp only [Lit.wf, e1, e2, Bool.and_eq_true, decide_eq_true_eq]
  omega
theorem isWU_n {n : Int} (h0 : 0 ≤ n) (h1 : n < 18446744073709551616) : isWU (.int .u64 n) = true := by
  have e1 : IntKind.u64.min = 0 := by decide
  have e2 : IntKind.u64.max = 18446744073709551615 := by decide
  unfold isWU
  simp only [Lit.wf, e1, e2, Bool.and_eq_true, decide_eq_true_eq]
  omega
theorem okU.es {L : IL} (ok : okU L) : okEsU (encM (vU L)) = true := by
  have h1 := ok.2.2
  unfold okEsU
  simp only [Bool.and_eq_true, decide_eq_true_eq, List.all_eq_true]
  refine ⟨by simp [encM, vU]; unfold roomy; omega, fun p hp => ?_⟩
  simp only [encM, vU, List.map_map, List.mem_map, Function.comp] at hp
  obtain ⟨q, hq, rfl⟩ := hp
  obtain ⟨⟨a, b⟩, c, d⟩ := ok.1 q hq
  exact ⟨isW64_n a b, isWU_n c d⟩
theorem okU.filter {L : IL} (ok : okU L) (f : Int × Int → Bool) : okU (L.filter f) :=
  ⟨fun q hq => ok.1 q (List.mem_filter.1 hq).1, (List.filter_sublist.map _).nodup ok.2.1, Nat.le_trans (List.length_filter_le _ _) ok.2.2⟩
theorem okU.del {L : IL} (ok : okU L) (x : Int) : okU (delI L x) :=
  ⟨fun q hq => ok.1 q ((delI_sub L x).subset hq), ((delI_sub L x).map _).nodup ok.2.1, Nat.le_trans (delI_sub L x).length_le ok.2.2⟩
theorem getI_mem : ∀ {L : IL} {x v : Int}, getI L x = some v → (x, v) ∈ L
  | (k, w) :: l, x, v, h => by
    unfold getI at h
    split at h
    · rename_i e; subst e; cases h; exact List.mem_cons_self
    · exact List.mem_cons_of_mem _ (getI_mem h)
theorem getI_none_iff : ∀ {L : IL} {x : Int}, getI L x = none ↔ x ∉ L.map (·.1)
  | [], x => by simp [getI]
  | (k, w) :: l, x => by
    unfold getI
    split
    · rename_i e; subst e; simp
    · rename_i e; rw [getI_none_iff]; simp [e]
theorem okU.set {L : IL} (ok : okU L) {x v : Int} (hx : fitU (x, v)) (hl : ¬ (getI L x = none ∧ 64 ≤ L.length)) : okU (setI L x v) := by
  have hlen : (setI L x v).length = ((setI L x v).map (·.1)).length := by simp
  refine ⟨fun q hq => (setI_mem hq).elim (ok.1 q) (fun e => by rw [e]; exact hx), ?_, ?_⟩
  · rw [setI_keys]
    split
    · exact ok.2.1
    · rename_i h
      rw [List.nodup_append]
      exact ⟨ok.2.1, by simp, fun a ha b hb e => by simp at hb; subst hb; exact h (e ▸ ha)⟩
  · rw [hlen, setI_keys]
    split
    · simpa using ok.2.2
    · rename_i h
      rw [← getI_none_iff] at h
      have := ok.2.2
      simp only [List.length_append, List.length_map, List.length_cons, List.length_nil]
      have : ¬ 64 ≤ L.length := fun q => hl ⟨h, q⟩
      omega

/-- Bans in memory: where the map lies, if there is one. -/
def Bd (h : AHeap) (p : Nat) (mo : Option Nat) (L : IL) : Prop :=
  h.get p = some (.cells [.map mo] 58 false) ∧ h.low ≤ p ∧ mo ≠ some p ∧
    match mo with
    | none => L = []
    | some m => h.get m = some (.map (encM (vU L))) ∧ h.low ≤ m
theorem Bd.fr {S : Nat → Prop} {h h' : AHeap} {p : Nat} {mo : Option Nat} {L : IL} (x : Bd h p mo L) (fr : Fr S h h') (hS : ∀ id, own p mo id → ¬ S id) : Bd h' p mo L := by
  obtain ⟨g, hl, hne, hm⟩ := x
  refine ⟨fr.get g (hS p (.inl rfl)), by rw [fr.low]; exact hl, hne, ?_⟩
  cases mo with
  | none => exact hm
  | some m => exact ⟨fr.get hm.1 (hS m (.inr rfl)), by rw [fr.low]; exact hm.2⟩
theorem Bd.fr0 {h h' : AHeap} {p : Nat} {mo : Option Nat} {L : IL} (x : Bd h p mo L) (fr : Fr none' h h') : Bd h' p mo L := x.fr fr fun _ _ q => q
theorem Bd.lt {h : AHeap} {p : Nat} {mo : Option Nat} {L : IL} (x : Bd h p mo L) {id : Nat} (hi : own p mo id) : id < h.next := by
  obtain ⟨g, hl, hne, hm⟩ := x
  rcases hi with rfl | rfl
  · exact AM.get_some_lt g
  · exact AM.get_some_lt hm.1
/-- What a call leaves of bans. -/
def BdTo (h : AHeap) (p : Nat) (mo : Option Nat) (L : IL) (K : AHeap → Prop) : Prop :=
  ∀ h' mo', Bd h' p mo' L → Fr (own p mo) h h' → (∀ id, mo' = some id → mo = some id ∨ h.next ≤ id) → K h'

theorem next_w {h : AHeap} {p : Nat} {mo : Option Nat} {L : IL} {now : Int} (x : Bd h p mo L) (ok : okU L) {Q : VQ} (hq : Q (.tuple #[.int .u64 (nxtP (L.filter (onP now))).1, .bool (nxtP (L.filter (onP now))).2]) h) : W 36 [pv p, .int .u64 now] h Q := by
  obtain ⟨g, hl, hne, hm⟩ := x
  refine AM.callW_prim hp (p := pNext) (by unfold prims; rfl) ⟨0, ?_⟩ hq
  show pNext _ _ _ = _
  unfold pNext
  have hl' := hl
  cases mo with
  | none =>
    subst hm
    simp only [Array.toList_empty, List.nil_append, List.append_nil, pv, g]
    simp [hl', nxtP]
  | some m =>
    simp only [Array.toList_empty, List.nil_append, List.append_nil, pv, g]
    simp only [List.getElem?_cons_zero, hm.1, hl', ok.es, and_self, if_true, prU_vU]
def bannedL (now : Int) (L : IL) : List Int := ((L.filter (onP now)).map (·.1)).mergeSort Go.leI
theorem bannedL_len (now : Int) (L : IL) : (bannedL now L).length = (L.filter (onP now)).length := by simp [bannedL]
theorem banned_w {h : AHeap} {p : Nat} {mo : Option Nat} {L : IL} {now : Int} (x : Bd h p mo L) (ok : okU L) {Q : VQ}
    (hq : ∀ v h', Ow h' 3 1 v (bannedL now L).length ((bannedL now L).map (.int .i64)) → Fr none' h h' → (∀ id, idOf v id → h.next ≤ id) → Q v h') : W 33 [pv p, .int .u64 now] h Q := by
  obtain ⟨g, hl, hne, hm⟩ := x
  have hlow : h.low ≤ h.next := by have := AM.get_some_lt g; omega
  have key : ∃ v h', pBanned (callE Try.prog prims 0) [pv p, .int .u64 now] h = some (v, h') ∧ Q v h' := by
    unfold pBanned
    have hl' := hl
    rw [bannedL_len] at hq
    cases mo with
    | none =>
      subst hm
      refine ⟨.slice none 0 0, h, ?_, hq _ _ (by simpa [bannedL] using Ow.nil h 3 1) (Fr.refl _ _) (fun id q => q.elim)⟩
      simp only [pv, g]
      simp [hl']
    | some m =>
      by_cases h0 : (L.filter (onP now)).length = 0
      · have e0 := List.eq_nil_of_length_eq_zero h0
        refine ⟨.slice none 0 0, h, ?_, hq _ _ (by simpa [bannedL, e0] using Ow.nil h 3 1) (Fr.refl _ _) (fun id q => q.elim)⟩
        simp only [pv, g]
        simp only [List.getElem?_cons_zero, hm.1, hl', ok.es, and_self, if_true, prU_vU, h0]
      · refine ⟨sliceTo h.next 0 (L.filter (onP now)).length (L.filter (onP now)).length, h.alloc (.cells ((bannedL now L).map (.int .i64)) 3 true), ?_, hq _ _ ?_ ((Fr.refl _ _).alloc _) (fun id q => ?_)⟩
        · simp only [pv, g]
          simp only [List.getElem?_cons_zero, hm.1, hl', ok.es, and_self, if_true, prU_vU, h0, if_false, bannedL]
        · have hfl := bannedL_len now L
          refine .inr ⟨h.next, 0, (L.filter (onP now)).length, (bannedL now L).map (.int .i64), true, rfl, Nat.le_refl _, by rw [AHeap.get_alloc, if_pos rfl], by simp [hfl], by simp [List.take_of_length_le, hfl], hlow⟩
        · have q : id = h.next := q; omega
  obtain ⟨v, h', e1, e2⟩ := key
  exact AM.callW_prim hp (p := pBanned) (by unfold prims; rfl) ⟨0, e1⟩ e2

def untilU (now : Int) (L : IL) (c : Int) : Int × Bool := if now < (getI L c).getD 0 then ((getI L c).getD 0, true) else (0, false)
theorem until_w {h : AHeap} {p : Nat} {mo : Option Nat} {L : IL} {now c : Int} (x : Bd h p mo L) (h0 : 0 ≤ now) {Q : VQ} (hq : Q (.tuple #[.int .u64 (untilU now L c).1, .bool (untilU now L c).2]) h) : W 34 [pv p, .int .u64 now, .int .i64 c] h Q := by
  obtain ⟨g, hl, hne, hm⟩ := x
  unfold untilU at hq
  refine AM.enter hp (fn := Try.f34) (rs := [.tmp 6, .tmp 7]) (nt := 26) (by kernel_rfl) Try.func34 rfl rfl rfl (by kernel_rfl) ?_
  cases mo with
  | none =>
    obtain rfl : L = [] := hm
    have d1 : decide ((0 : Int) ≤ now) = true := decide_eq_true h0
    (first | (simp (maxSteps := 1000000) (disch := first | omega | (simp only [AM.DB, List.length_set, List.length_map]; first | done | omega)) only [AM.RB, Nat.reduceAdd, Nat.reduceMul, Nat.reduceEqDiff, reduceCtorEq, b34_IY8, g, AM.lookup_nilmap mp_56, d1]) | skip)
    rw [if_neg (by simp [getI]; omega)] at hq
    exact hq
  | some m =>
    have gm := hm.1
    have e1 : ((getI L c).map (Value.int .u64)).getD (.int .u64 0) = .int .u64 ((getI L c).getD 0) := by cases getI L c <;> rfl
    by_cases hu : (getI L c).getD 0 ≤ now
    · have d1 : decide ((getI L c).getD 0 ≤ now) = true := decide_eq_true hu
      (first | (simp (maxSteps := 1000000) (disch := first | omega | (simp only [AM.DB, List.length_set, List.length_map]; first | done | omega)) only [AM.RB, Nat.reduceAdd, Nat.reduceMul, Nat.reduceEqDiff, reduceCtorEq, b34_IY8, g, AM.lookup_enc mp_56 gm, vU_get, e1, d1]) | skip)
      rw [if_neg (by omega)] at hq
      exact hq
    · have d1 : decide ((getI L c).getD 0 ≤ now) = false := decide_eq_false hu
      (first | (simp (maxSteps := 1000000) (disch := first | omega | (simp only [AM.DB, List.length_set, List.length_map]; first | done | omega)) only [AM.RB, Nat.reduceAdd, Nat.reduceMul, Nat.reduceEqDiff, reduceCtorEq, b34_IY8, g, AM.lookup_enc mp_56 gm, vU_get, e1, d1]) | skip)
      rw [if_pos (by omega)] at hq
      exact hq
theorem lift_w {h : AHeap} {p : Nat} {mo : Option Nat} {L : IL} {c : Int} (x : Bd h p mo L) {Q : VQ}
    (hq : BdTo h p mo (delI L c) fun h' => Q (.bool (getI L c).isSome) h') : W 31 [pv p, .int .i64 c] h Q := by
  obtain ⟨g, hl, hne, hm⟩ := x
  have hlt := AM.get_some_lt g
  refine AM.enter hp (fn := Try.f31) (rs := [.tmp 4]) (nt := 24) (by kernel_rfl) Try.func31 rfl rfl rfl (by kernel_rfl) ?_
  cases mo with
  | none =>
    obtain rfl : L = [] := hm
    (first | (simp (maxSteps := 1000000) (disch := first | omega | (simp only [AM.DB, List.length_set, List.length_map]; first | done | omega)) only [AM.RB, Nat.reduceAdd, Nat.reduceMul, Nat.reduceEqDiff, reduceCtorEq, b31_IY8, g, AM.lookup_nilmap2 mp_56, AM.delete_nil mp_56]) | skip)
    exact hq _ none ⟨g, hl, hne, rfl⟩ (Fr.refl _ _) (fun id e => .inl e)
  | some m =>
    have gm := hm.1
    have lm := hm.2
    have hltm := AM.get_some_lt gm
    have hmp : p ≠ m := fun e => hne (by rw [e])
    (first | (simp (maxSteps := 1000000) (disch := first | omega | (simp only [AM.DB, List.length_set, List.length_map]; first | done | omega)) only [AM.RB, Nat.reduceAdd, Nat.reduceMul, Nat.reduceEqDiff, reduceCtorEq, b31_IY8, g, AM.lookup_enc2 mp_56 gm, AM.delete_enc mp_56 gm lm]) | skip)
    cases hg : getI L c with
    | none =>
      rw [delI_none hg, hg] at hq
      rw [vU_get, hg]
      exact hq _ (some m) ⟨g, hl, hne, gm, lm⟩ (Fr.refl _ _) (fun id e => .inl e)
    | some v =>
      rw [hg] at hq
      rw [vU_get, hg]
      simp only [Option.map_some, Option.isSome_some, if_true, vU_del]
      exact hq _ (some m) ⟨by rw [AM.get_put_ne hmp]; exact g, hl, hne, AM.get_put_self rfl hltm, lm⟩ ((Fr.refl _ _).put _ (.inr (.inr rfl))) (fun id e => .inl e)
end Go.Proofs.Ytodcnfabnlojdaa

namespace Go.AM
variable {P : Program}
theorem len_enc {h : AHeap} {t k e : TypeId} (hu : P.underlying t = some (.map k e)) {id : Nat} {l : List (Int × Value)} (hg : h.get id = some (.map (encM l))) : aLen P h t (.map (some id)) = some (.int .i64 l.length) := by
  unfold aLen; rw [hu]; simp [hg, encM]
end Go.AM
namespace Go.Proofs.Ytodcnfabnlojdaa
open Go.AM
set_option maxRecDepth 8000
theorem b65_IY9 : type_of% (And.intro (@List.map_toArray.{0,0}) (And.intro (@AM.boxK_agg) (And.intro (@AM.boxK_bool) (And.intro (@AM.boxK_func) (And.intro (@AM.boxK_int) (And.intro (@AM.boxK_map) (And.intro (@AM.boxK_pointer) (And.intro (@AM.boxK_slice) (And.intro (@AM.boxK_string) (And.intro (@AM.op_box) (@AM.op_makeFunc))))))))))) := And.intro (@List.map_toArray.{0,0}) (And.intro (@AM.boxK_agg) (And.intro (@AM.boxK_bool) (And.intro (@AM.boxK_func) (And.intro (@AM.boxK_int) (And.intro (@AM.boxK_map) (And.intro (@AM.boxK_pointer) (And.intro (@AM.boxK_slice) (And.intro (@AM.boxK_string) (And.intro (@AM.op_box) (@AM.op_makeFunc))))))))))
theorem b29_IY9 : type_of% (And.intro (@Option.isNone_none.{0}) (And.intro (@Option.isNone_some.{0}) (And.intro (@AM.aMax_int) (And.intro (@AM.aMin_int) (And.intro (@AM.bin_add) (And.intro (@AM.bin_geq) (And.intro (@AM.bin_gtr) (And.intro (@AM.bin_lss) (And.intro (AM.bin_pnil ul_55) (And.intro (@AM.bin_sub) (And.intro (@AM.ex_tuple) (And.intro (@AM.fa_ptr) (And.intro (@fd_58_0) (And.intro (@AM.ldO_agg) (And.intro (@AM.ldO_one) (And.intro (@AM.ld_ptr) (And.intro (@lk_56) (And.intro (@AM.op_binOp) (And.intro (@AM.op_call) (And.intro (@AM.op_extract) (And.intro (@AM.op_fieldAddr) (And.intro (@AM.op_len) (And.intro (@AM.op_load) (And.intro (@AM.op_lookup) (And.intro (@AM.op_mapUpdate) (And.intro (@AM.op_max2) (And.intro (@AM.op_min2) (And.intro (@AM.op_nilCheck) (And.intro (@AM.op_store) (And.intro (@AM.op_unOp) (And.intro (@AM.stO_agg) (And.intro (@AM.stO_bool) (And.intro (@AM.stO_int) (And.intro (@AM.stO_map) (And.intro (@AM.stO_pointer) (And.intro (@AM.stO_slice) (And.intro (@AM.stO_string) (And.intro (@AM.st_ptr) (And.intro (@sz_56) (And.intro (@AM.un_neg) (@AM.un_not))))))))))))))))))))))))))))))))))))))))) := And.intro (@Option.isNone_none.{0}) (And.intro (@Option.isNone_some.{0}) (And.intro (@AM.aMax_int) (And.intro (@AM.aMin_int) (And.intro (@AM.bin_add) (And.intro (@AM.bin_geq) (And.intro (@AM.bin_gtr) (And.intro (@AM.bin_lss) (And.intro (AM.bin_pnil ul_55) (And.intro (@AM.bin_sub) (And.intro (@AM.ex_tuple) (And.intro (@AM.fa_ptr) (And.intro (@fd_58_0) (And.intro (@AM.ldO_agg) (And.intro (@AM.ldO_one) (And.intro (@AM.ld_ptr) (And.intro (@lk_56) (And.intro (@AM.op_binOp) (And.intro (@AM.op_call) (And.intro (@AM.op_extract) (And.intro (@AM.op_fieldAddr) (And.intro (@AM.op_len) (And.intro (@AM.op_load) (And.intro (@AM.op_lookup) (And.intro (@AM.op_mapUpdate) (And.intro (@AM.op_max2) (And.intro (@AM.op_min2) (And.intro (@AM.op_nilCheck) (And.intro (@AM.op_store) (And.intro (@AM.op_unOp) (And.intro (@AM.stO_agg) (And.intro (@AM.stO_bool) (And.intro (@AM.stO_int) (And.intro (@AM.stO_map) (And.intro (@AM.stO_pointer) (And.intro (@AM.stO_slice) (And.intro (@AM.stO_string) (And.intro (@AM.st_ptr) (And.intro (@sz_56) (And.intro (@AM.un_neg) (@AM.un_not))))))))))))))))))))))))))))))))))))))))


theorem vU_len (L : IL) : (vU L).length = L.length := by simp [vU]
theorem all_w {h : AHeap} {p : Nat} {now : Int} {Q : VQ} (hq : ∀ h2, h2.get h.next = some (.cells [pv p] 55 false) → h2.get (h.next + 1) = some (.cells [.int .u64 now] 29 false) → Fr none' h h2 → h2.next = h.next + 2 → h2.low = h.low →
    Q (.func (.func 76) #[] #[pv h.next, pv (h.next + 1)]) h2) : W 65 [pv p, .int .u64 now] h Q := by
  obtain ⟨h2, e2, ga, gb, fr2, n2, l2⟩ := two_new h [pv p] [.int .u64 now] 55 29
  refine AM.enter hp (fn := Try.f65) (rs := [.tmp 4]) (nt := 6) (by kernel_rfl) Try.func65 rfl rfl rfl (by kernel_rfl) ?_
  simp (maxSteps := 1000000) (disch := first | omega | (simp only [AM.DB, List.length_set, List.length_map]; first | done | omega)) only [AM.RB, Nat.reduceAdd, Nat.reduceMul, Nat.reduceEqDiff, reduceCtorEq, b65_IY9]
  rw [e2]
  exact hq h2 ga gb fr2 n2 l2
theorem collect_w {h : AHeap} {p a b : Nat} {mo : Option Nat} {L : IL} {now : Int} {ea eb : TypeId} (x : Bd h p mo L) (ok : okU L) (ga : h.get a = some (.cells [pv p] ea false)) (gb : h.get b = some (.cells [.int .u64 now] eb false)) (la : h.low ≤ a) (lb : h.low ≤ b) {Q : VQ}
    (hq : Q (.map (some h.next)) (h.alloc (.map (encM (vU (L.filter (onP now))))))) : W 64 [.func (.func 76) #[] #[pv a, pv b]] h Q := by
  obtain ⟨g, hl, hne, hm⟩ := x
  refine AM.callW_prim hp (p := pCollect) (by unfold prims; rfl) ⟨0, ?_⟩ hq
  show pCollect _ _ _ = _
  unfold pCollect
  cases mo with
  | none =>
    obtain rfl : L = [] := hm
    simp [pv, ga, gb, g, la, lb, hl, encM, vU]
  | some m =>
    simp only [Array.toList_empty, List.nil_append, List.append_nil, pv, ga, gb, g]
    simp only [List.getElem?_cons_zero, hm.1, hl, la, lb, ok.es, and_self, if_true, filt_vU]

/-- What Ban answers, and leaves. -/
def banP (now c t : Int) (L : IL) : Int × IL :=
  if ¬ (0 ≤ c ∧ c < 1024) then (2, L)
  else if getI (L.filter (onP now)) c = none ∧ 64 ≤ (L.filter (onP now)).length then (180, L.filter (onP now))
  else (0, if 0 < t then setI (L.filter (onP now)) c (max ((getI (L.filter (onP now)) c).getD 0) (now + min t (18446744073709551615 - now))) else L.filter (onP now))
theorem getI_fit {L : IL} (ok : okU L) (c : Int) : 0 ≤ (getI L c).getD 0 ∧ (getI L c).getD 0 < 18446744073709551616 := by
  cases hg : getI L c with
  | none => simp
  | some v => exact (ok.1 _ (getI_mem hg)).2
theorem banP_ok {L : IL} (ok : okU L) {now c t : Int} (hn : 0 ≤ now ∧ now < 18446744073709551616) (ht : 0 ≤ t) : okU (banP now c t L).2 := by
  unfold banP
  split
  · exact ok
  · rename_i hc
    split
    · exact ok.filter _
    · rename_i h
      simp only
      split
      · refine (ok.filter _).set ⟨by omega, ?_⟩ h
        have := getI_fit (ok.filter (onP now)) c
        simp only
        omega
      · exact ok.filter _

theorem ban_w {h : AHeap} {p : Nat} {mo : Option Nat} {L : IL} {now c t : Int} (x : Bd h p mo L) (ok : okU L) (hn : 0 ≤ now ∧ now < 18446744073709551616) (ht : 0 ≤ t ∧ t < 18446744073709551616) {Q : VQ}
    (hq : BdTo h p mo (banP now c t L).2 fun h' => Q (.int .i64 (banP now c t L).1) h') : W 29 [pv p, .int .u64 now, .int .i64 c, .int .u64 t] h Q := by
  have hlt0 := AM.get_some_lt x.1
  refine AM.enter hp (fn := Try.f29) (rs := [.tmp 8]) (nt := 67) (by kernel_rfl) Try.func29 rfl rfl rfl (by kernel_rfl) ?_
  by_cases c0 : c < 0
  · have d0 : decide (c < 0) = true := decide_eq_true c0
    (repeat' (first | (simp (maxSteps := 1000000) (disch := first | omega | (simp only [AM.DB, List.length_set, List.length_map]; first | done | omega)) only [AM.RB, Nat.reduceAdd, Nat.reduceMul, Nat.reduceEqDiff, reduceCtorEq, b29_IY9, d0]) | refine AM.drawW_fine hp (by kernel_rfl) (by kernel_rfl) (by kernel_rfl) ?_ | refine AM.opW_tied (by kernel_rfl) ?_ | refine AM.opW_untied (by kernel_rfl) ?_))
    rw [show banP now c t L = (2, L) by unfold banP; rw [if_pos (by omega)]] at hq
    exact hq _ mo x (Fr.refl _ _) (fun id e => .inl e)
  have d0 : decide (c < 0) = false := decide_eq_false c0
  by_cases c1 : 1024 ≤ c
  · have d1 : decide (1024 ≤ c) = true := decide_eq_true c1
    (repeat' (first | (simp (maxSteps := 1000000) (disch := first | omega | (simp only [AM.DB, List.length_set, List.length_map]; first | done | omega)) only [AM.RB, Nat.reduceAdd, Nat.reduceMul, Nat.reduceEqDiff, reduceCtorEq, b29_IY9, d0, d1]) | refine AM.drawW_fine hp (by kernel_rfl) (by kernel_rfl) (by kernel_rfl) ?_ | refine AM.opW_tied (by kernel_rfl) ?_ | refine AM.opW_untied (by kernel_rfl) ?_))
    rw [show banP now c t L = (2, L) by unfold banP; rw [if_pos (by omega)]] at hq
    exact hq _ mo x (Fr.refl _ _) (fun id e => .inl e)
  have d1 : decide (1024 ≤ c) = false := decide_eq_false c1
  (repeat' (first | (simp (maxSteps := 1000000) (disch := first | omega | (simp only [AM.DB, List.length_set, List.length_map]; first | done | omega)) only [AM.RB, Nat.reduceAdd, Nat.reduceMul, Nat.reduceEqDiff, reduceCtorEq, b29_IY9, d0, d1]) | refine AM.drawW_fine hp (by kernel_rfl) (by kernel_rfl) (by kernel_rfl) ?_ | refine AM.opW_tied (by kernel_rfl) ?_ | refine AM.opW_untied (by kernel_rfl) ?_))
  refine all_w fun h2 ga gb fr2 n2 l2 => ?_
  have x2 := x.fr0 fr2
  have lw := x.2.1
  (repeat' (first | (simp (maxSteps := 1000000) (disch := first | omega | (simp only [AM.DB, List.length_set, List.length_map]; first | done | omega)) only [AM.RB, Nat.reduceAdd, Nat.reduceMul, Nat.reduceEqDiff, reduceCtorEq, b29_IY9]) | refine AM.drawW_fine hp (by kernel_rfl) (by kernel_rfl) (by kernel_rfl) ?_ | refine AM.opW_tied (by kernel_rfl) ?_ | refine AM.opW_untied (by kernel_rfl) ?_))
  refine collect_w x2 ok ga gb (by omega) (by omega) ?_
  have g2 := x2.1
  have gn : (h2.alloc (.map (encM (vU (L.filter (onP now)))))).get p = some (.cells [.map mo] 58 false) := by rw [AM.get_alloc_ne (Nat.ne_of_lt (AM.get_some_lt g2))]; exact g2
  have gm := AM.get_alloc_self (h := h2) (o := .map (encM (vU (L.filter (onP now))))) rfl
  have hlp : (h2.alloc (.map (encM (vU (L.filter (onP now)))))).low ≤ p := by rw [AHeap.low_alloc]; omega
  have hlm : (h2.alloc (.map (encM (vU (L.filter (onP now)))))).low ≤ h2.next := by rw [AHeap.low_alloc]; omega
  have frm : Fr none' h (h2.alloc (.map (encM (vU (L.filter (onP now)))))) := fr2.alloc _
  have nxm : (h2.alloc (.map (encM (vU (L.filter (onP now)))))).next = h2.next + 1 := rfl
  generalize h2.alloc (.map (encM (vU (L.filter (onP now))))) = h3 at *
  have lt3 := AM.get_some_lt gn
  obtain ⟨h4, e4⟩ : ∃ h4, h3.put p (some (.cells [.map (some h2.next)] 58 false)) = h4 := ⟨_, rfl⟩
  obtain ⟨gp, fr4, n4, l4⟩ := AM.put_get e4 lt3
  have hne : h2.next ≠ p := by omega
  have gm4 := fr4.get gm hne
  have lm4 : h4.low ≤ h2.next := by omega
  have lp4 : h4.low ≤ p := by omega
  have okF := ok.filter (onP now)
  have hc0 : ¬ ¬ (0 ≤ c ∧ c < 1024) := by omega
  unfold banP at hq
  rw [if_neg hc0] at hq
  generalize L.filter (onP now) = P at *
  have fr04 : Fr (own p mo) h h4 := frm.weak.then fr4 fun id _ q => .inl q
  have e1 : ∀ z, ((getI P z).map (Value.int .u64)).getD (.int .u64 0) = .int .u64 ((getI P z).getD 0) := fun z => by cases getI P z <;> rfl
  have bnd := getI_fit okF c
  have b4 : Bd h4 p (some h2.next) P := ⟨gp, lp4, fun e => hne (by cases e; rfl), gm4, lm4⟩
  have nw : ∀ id, some h2.next = some id → mo = some id ∨ h.next ≤ id := fun id e => .inr (by cases e; omega)
  (repeat' (first | (simp (maxSteps := 1000000) (disch := first | omega | (simp only [AM.DB, List.length_set, List.length_map]; first | done | omega)) only [AM.RB, Nat.reduceAdd, Nat.reduceMul, Nat.reduceEqDiff, reduceCtorEq, b29_IY9, gn]) | refine AM.drawW_fine hp (by kernel_rfl) (by kernel_rfl) (by kernel_rfl) ?_ | refine AM.opW_tied (by kernel_rfl) ?_ | refine AM.opW_untied (by kernel_rfl) ?_))
  rw [e4]
  have is1 : ((getI P c).map (Value.int .u64)).isSome = (getI P c).isSome := by cases getI P c <;> rfl
  by_cases hf : getI P c = none ∧ 64 ≤ P.length
  · have di : (getI P c).isSome = false := by rw [hf.1]; rfl
    have dl : decide ((64 : Int) ≤ P.length) = true := decide_eq_true (by omega)
    rw [if_pos hf] at hq
    (repeat' (first | (simp (maxSteps := 1000000) (disch := first | omega | (simp only [AM.DB, List.length_set, List.length_map]; first | done | omega)) only [AM.RB, Nat.reduceAdd, Nat.reduceMul, Nat.reduceEqDiff, reduceCtorEq, b29_IY9, gp, AM.lookup_enc2 mp_56 gm4, vU_get, e1, is1, di, AM.len_enc ul_56 gm4, vU_len, dl]) | refine AM.drawW_fine hp (by kernel_rfl) (by kernel_rfl) (by kernel_rfl) ?_ | refine AM.opW_tied (by kernel_rfl) ?_ | refine AM.opW_untied (by kernel_rfl) ?_))
    exact hq _ _ b4 fr04 nw
  rw [if_neg hf] at hq
  have m0 := AM.lookup_enc2 mp_56 gm4 c
  rw [vU_get, e1, is1] at m0
  have m1 := AM.lookup_enc mp_56 gm4 c
  rw [vU_get, e1] at m1
  have w1 : IntKind.u64.wrap (18446744073709551615 - now) = 18446744073709551615 - now := AM.wrap_u64 (by omega) (by omega)
  have mn : (if 18446744073709551615 - now < t then 18446744073709551615 - now else t) = min t (18446744073709551615 - now) := by split <;> omega
  have w2 : IntKind.u64.wrap (now + min t (18446744073709551615 - now)) = now + min t (18446744073709551615 - now) := AM.wrap_u64 (by omega) (by omega)
  have lt4 := AM.get_some_lt gm4
  have fin : ∀ P' : IL, Bd (h4.put h2.next (some (.map (encM (vU P'))))) p (some h2.next) P' ∧ Fr (own p mo) h (h4.put h2.next (some (.map (encM (vU P'))))) := fun P' =>
    ⟨⟨by rw [AM.get_put_ne (fun e => hne e.symm)]; exact gp, lp4, b4.2.2.1, AM.get_put_self rfl lt4, lm4⟩, fr04.put _ (.inl (by omega))⟩
  cases his : (getI P c).isSome with
  | true =>
    rw [his] at m0
    by_cases t0 : 0 < t
    · have dt : decide (0 < t) = true := decide_eq_true t0
      rw [if_pos t0] at hq
      (repeat' (first | (simp (maxSteps := 1000000) (disch := first | omega | (simp only [AM.DB, List.length_set, List.length_map]; first | done | omega)) only [AM.RB, Nat.reduceAdd, Nat.reduceMul, Nat.reduceEqDiff, reduceCtorEq, b29_IY9, gp, m0, dt, m1, w1, mn, w2, AM.update_enc mp_56 gm4 lm4, vU_set]) | refine AM.drawW_fine hp (by kernel_rfl) (by kernel_rfl) (by kernel_rfl) ?_ | refine AM.opW_tied (by kernel_rfl) ?_ | refine AM.opW_untied (by kernel_rfl) ?_))
      exact hq _ _ (fin _).1 (fin _).2 nw
    · have dt : decide (0 < t) = false := decide_eq_false t0
      rw [if_neg t0] at hq
      (repeat' (first | (simp (maxSteps := 1000000) (disch := first | omega | (simp only [AM.DB, List.length_set, List.length_map]; first | done | omega)) only [AM.RB, Nat.reduceAdd, Nat.reduceMul, Nat.reduceEqDiff, reduceCtorEq, b29_IY9, gp, m0, dt]) | refine AM.drawW_fine hp (by kernel_rfl) (by kernel_rfl) (by kernel_rfl) ?_ | refine AM.opW_tied (by kernel_rfl) ?_ | refine AM.opW_untied (by kernel_rfl) ?_))
      exact hq _ _ b4 fr04 nw
  | false =>
    rw [his] at m0
    have hn0 : getI P c = none := Option.isNone_iff_eq_none.1 (by rw [← Option.not_isSome, his]; rfl)
    have dl : decide ((64 : Int) ≤ P.length) = false := decide_eq_false (fun q => hf ⟨hn0, by omega⟩)
    by_cases t0 : 0 < t
    · have dt : decide (0 < t) = true := decide_eq_true t0
      rw [if_pos t0] at hq
      (repeat' (first | (simp (maxSteps := 1000000) (disch := first | omega | (simp only [AM.DB, List.length_set, List.length_map]; first | done | omega)) only [AM.RB, Nat.reduceAdd, Nat.reduceMul, Nat.reduceEqDiff, reduceCtorEq, b29_IY9, gp, m0, AM.len_enc ul_56 gm4, vU_len, dl, dt, m1, w1, mn, w2, AM.update_enc mp_56 gm4 lm4, vU_set]) | refine AM.drawW_fine hp (by kernel_rfl) (by kernel_rfl) (by kernel_rfl) ?_ | refine AM.opW_tied (by kernel_rfl) ?_ | refine AM.opW_untied (by kernel_rfl) ?_))
      exact hq _ _ (fin _).1 (fin _).2 nw
    · have dt : decide (0 < t) = false := decide_eq_false t0
      rw [if_neg t0] at hq
      (repeat' (first | (simp (maxSteps := 1000000) (disch := first | omega | (simp only [AM.DB, List.length_set, List.length_map]; first | done | omega)) only [AM.RB, Nat.reduceAdd, Nat.reduceMul, Nat.reduceEqDiff, reduceCtorEq, b29_IY9, gp, m0, AM.len_enc ul_56 gm4, vU_len, dl, dt]) | refine AM.drawW_fine hp (by kernel_rfl) (by kernel_rfl) (by kernel_rfl) ?_ | refine AM.opW_tied (by kernel_rfl) ?_ | refine AM.opW_untied (by kernel_rfl) ?_))
      exact hq _ _ b4 fr04 nw
end Go.Proofs.Ytodcnfabnlojdaa

namespace Go.Proofs.Ytodcnfabnlojdaa
open Go.AM
set_option maxRecDepth 8000
theorem b38_IY10 : type_of% (And.intro (@AM.bin_add) (And.intro (@AM.bin_lss) (And.intro (@AM.bin_neq) (And.intro (@AM.iaO_ok) (And.intro (AM.ia_slice el_22) (And.intro (@AM.ldO_agg) (And.intro (@AM.ldO_one) (And.intro (@AM.ld_ptr) (And.intro (AM.len_slice ul_22) (And.intro (@lk_3) (And.intro (@AM.op_binOp) (And.intro (@AM.op_indexAddr) (And.intro (@AM.op_len) (@AM.op_load)))))))))))))) := And.intro (@AM.bin_add) (And.intro (@AM.bin_lss) (And.intro (@AM.bin_neq) (And.intro (@AM.iaO_ok) (And.intro (AM.ia_slice el_22) (And.intro (@AM.ldO_agg) (And.intro (@AM.ldO_one) (And.intro (@AM.ld_ptr) (And.intro (AM.len_slice ul_22) (And.intro (@lk_3) (And.intro (@AM.op_binOp) (And.intro (@AM.op_indexAddr) (And.intro (@AM.op_len) (@AM.op_load)))))))))))))
theorem b22_IY10 : type_of% (And.intro (@AM.alK_some) (And.intro (@al_58) (And.intro (@AM.bin_eql) (And.intro (AM.bsW_int bs_22) (And.intro (AM.bsW_int2 bs_22) (And.intro (AM.bsW_nil bs_22) (And.intro (AM.bsW_slice bs_22) (And.intro (AM.bsW_string bs_22) (And.intro (@AM.ex_tuple) (And.intro (@AM.op_alloc) (And.intro (@AM.op_binOp) (And.intro (@AM.op_buildSlice) (And.intro (@AM.op_call) (@AM.op_extract)))))))))))))) := And.intro (@AM.alK_some) (And.intro (@al_58) (And.intro (@AM.bin_eql) (And.intro (AM.bsW_int bs_22) (And.intro (AM.bsW_int2 bs_22) (And.intro (AM.bsW_nil bs_22) (And.intro (AM.bsW_slice bs_22) (And.intro (AM.bsW_string bs_22) (And.intro (@AM.ex_tuple) (And.intro (@AM.op_alloc) (And.intro (@AM.op_binOp) (And.intro (@AM.op_buildSlice) (And.intro (@AM.op_call) (@AM.op_extract)))))))))))))


theorem sameY_w {sa sb : Value} {na nb : Nat} {la lb : List Int} {h : AHeap} (ha : Rd h 3 1 sa na (la.map (.int .i64))) (hb : Rd h 3 1 sb nb (lb.map (.int .i64))) (hn : na ≤ 4000000000) {Q : VQ}
    (hq : Q (.bool (decide (la = lb))) h) : W 38 [sa, sb] h Q := by
  obtain ⟨aa, ca, rfl⟩ := ha.form
  obtain ⟨ab, cb, rfl⟩ := hb.form
  have hla : la.length = na := by simpa using ha.length
  have hlb : lb.length = nb := by simpa using hb.length
  refine AM.enter hp (fn := Try.f38) (rs := [.tmp 4]) (nt := 26) (by kernel_rfl) Try.func38 rfl rfl rfl (by kernel_rfl) ?_
  simp (maxSteps := 1000000) (disch := first | omega | (simp only [AM.DB, List.length_set, List.length_map]; first | done | omega)) only [AM.RB, Nat.reduceAdd, Nat.reduceMul, Nat.reduceEqDiff, reduceCtorEq, b38_IY10]
  refine AM.condV_split (fun he => ?_) (fun he => ?_)
  case' refine_2 =>
    simp (maxSteps := 1000000) (disch := first | omega | (simp only [AM.DB, List.length_set, List.length_map]; first | done | omega)) only [AM.RB, Nat.reduceAdd, Nat.reduceMul, Nat.reduceEqDiff, reduceCtorEq, b38_IY10]
    have : decide (la = lb) = false := by
      rw [decide_eq_false_iff_not]; rintro rfl; omega
    rw [this] at hq; exact hq
  have he' : na = nb := by omega
  subst he'
  simp (maxSteps := 1000000) (disch := first | omega | (simp only [AM.DB, List.length_set, List.length_map]; first | done | omega)) only [AM.RB, Nat.reduceAdd, Nat.reduceMul, Nat.reduceEqDiff, reduceCtorEq, b38_IY10]
  refine AM.loop_w hp 26 (fun i : Nat => [(0, .slice aa na ca), (1, .slice ab na cb), (12, .int .i64 na), (13, .int .i64 i)])
    (fun i h' => i ≤ na ∧ h' = h ∧ ∀ j, j < i → la.getD j 0 = lb.getD j 0) (fun i => na - i) (by kernel_rfl) 0 ?_ ?_ ?_
  · simp (maxSteps := 1000000) (disch := first | omega | (simp only [AM.DB, List.length_set, List.length_map]; first | done | omega)) only [AM.RB, Nat.reduceAdd, Nat.reduceMul, Nat.reduceEqDiff, reduceCtorEq, b38_IY10]
  · exact ⟨Nat.zero_le _, rfl, fun j hj => by omega⟩
  · rintro i h1 ρ ⟨hi, rfl, hall⟩
    simp (maxSteps := 1000000) (disch := first | omega | (simp only [AM.DB, List.length_set, List.length_map]; first | done | omega)) only [AM.RB, Nat.reduceAdd, Nat.reduceMul, Nat.reduceEqDiff, reduceCtorEq, b38_IY10]
    refine AM.condV_split (fun hlt => ?_) (fun hlt => ?_)
    · simp (maxSteps := 1000000) (disch := first | omega | (simp only [AM.DB, List.length_set, List.length_map]; first | done | omega)) only [AM.RB, Nat.reduceAdd, Nat.reduceMul, Nat.reduceEqDiff, reduceCtorEq, b38_IY10]
      refine AM.drawW_fine hp (by kernel_rfl) (by kernel_rfl) (by kernel_rfl) ?_
      simp (maxSteps := 1000000) (disch := first | omega | (simp only [AM.DB, List.length_set, List.length_map]; first | done | omega)) only [AM.RB, Nat.reduceAdd, Nat.reduceMul, Nat.reduceEqDiff, reduceCtorEq, b38_IY10, ha.ia el_22, ha.ldi lk_3, hb.ia el_22, hb.ldi lk_3]
      refine AM.condV_split (fun heq => ?_) (fun heq => ?_)
      · simp (maxSteps := 1000000) (disch := first | omega | (simp only [AM.DB, List.length_set, List.length_map]; first | done | omega)) only [AM.RB, Nat.reduceAdd, Nat.reduceMul, Nat.reduceEqDiff, reduceCtorEq, b38_IY10, AM.wrap_i64]
        refine ⟨i + 1, by omega, ?_, by omega, fun j hj => ?_⟩
        · simp (maxSteps := 1000000) (disch := first | omega | (simp only [AM.DB, List.length_set, List.length_map]; first | done | omega)) only [AM.RB, Nat.reduceAdd, Nat.reduceMul, Nat.reduceEqDiff, reduceCtorEq, b38_IY10]
        · by_cases e : j = i
          · subst e; simpa using heq
          · exact hall j (by omega)
      · simp (maxSteps := 1000000) (disch := first | omega | (simp only [AM.DB, List.length_set, List.length_map]; first | done | omega)) only [AM.RB, Nat.reduceAdd, Nat.reduceMul, Nat.reduceEqDiff, reduceCtorEq, b38_IY10]
        have : decide (la = lb) = false := by
          rw [decide_eq_false_iff_not]; rintro rfl; exact heq rfl
        rw [this] at hq; exact hq
    · simp (maxSteps := 1000000) (disch := first | omega | (simp only [AM.DB, List.length_set, List.length_map]; first | done | omega)) only [AM.RB, Nat.reduceAdd, Nat.reduceMul, Nat.reduceEqDiff, reduceCtorEq, b38_IY10]
      have : decide (la = lb) = true := by
        rw [decide_eq_true_iff]
        refine List.ext_getElem (by omega) fun j h2 h3 => ?_
        have := hall j (by omega)
        simpa [List.getD, h2, h3] using this
      rw [this] at hq; exact hq

/-- Bans made since h0. -/
def Bz (h0 h : AHeap) (p : Nat) (mo : Option Nat) (L : IL) : Prop := Bd h p mo L ∧ Fr none' h0 h ∧ ∀ id, own p mo id → h0.next ≤ id
theorem Bz.step {h0 h : AHeap} {p : Nat} {mo : Option Nat} {L L' : IL} (x : Bz h0 h p mo L) {K : AHeap → Prop} (k : ∀ h' mo', Bz h0 h' p mo' L' → K h') : BdTo h p mo L' K :=
  fun h' mo' x' fr' hm => k h' mo' ⟨x', x.2.1.fresh fr' x.2.2, fun id q => q.elim (fun e => x.2.2 id (.inl e)) fun e => (hm id e).elim (fun e' => x.2.2 id (.inr e')) (fun e' => Nat.le_trans x.2.1.next e')⟩
theorem Bz.fr0 {h0 h h' : AHeap} {p : Nat} {mo : Option Nat} {L : IL} (x : Bz h0 h p mo L) (fr : Fr none' h h') : Bz h0 h' p mo L := ⟨x.1.fr0 fr, x.2.1.trans fr, x.2.2⟩
theorem Bz.new (h : AHeap) (hl : h.low ≤ h.next) : Bz h (h.alloc (.cells [.map none] 58 false)) h.next none [] :=
  ⟨⟨AM.get_alloc_self rfl, hl, by simp, rfl⟩, (Fr.refl _ _).alloc _, fun id q => q.elim (fun e => by omega) (fun e => by cases e)⟩

theorem banned37 : bannedL 12 [(7, 15), (3, 13)] = [3, 7] := by
  have h1 : bannedL 12 [(7, 15), (3, 13)] = bannedL 12 [(3, 13), (7, 15)] := Go.mergeSort_of_perm_i (List.Perm.swap _ _ _)
  rw [h1]
  exact List.mergeSort_of_pairwise (by simp)
theorem banned7 : bannedL 13 [(7, 15), (3, 13)] = [7] := List.mergeSort_of_pairwise (by simp)

/-- The chapter's first examples. -/
theorem aliveY_w {h : AHeap} (hl : h.low ≤ h.next) {Q : VQ} (hq : ∀ h', Fr none' h h' → Q (.bool true) h') : W 22 [] h Q := by
  refine AM.enter hp (fn := Try.f22) (rs := [.tmp 0]) (nt := 55) (by kernel_rfl) Try.func22 rfl rfl rfl (by kernel_rfl) ?_
  simp (maxSteps := 1000000) (disch := first | omega | (simp only [AM.DB, List.length_set, List.length_map]; first | done | omega)) only [AM.RB, Nat.reduceAdd, Nat.reduceMul, Nat.reduceEqDiff, reduceCtorEq, b22_IY10]
  have x0 := Bz.new h hl
  generalize h.alloc (.cells [.map none] 58 false) = h1 at x0
  have e1 : banP 10 7 5 [] = (0, [(7, 15)]) := by decide
  have e2 : banP 12 3 1 [(7, 15)] = (0, [(7, 15), (3, 13)]) := by decide
  have ok1 : okU [(7, 15)] := by have := banP_ok okU_nil (now := 10) (c := 7) (t := 5) (by omega) (by omega); rwa [e1] at this
  have ok2 : okU [(7, 15), (3, 13)] := by have := banP_ok ok1 (now := 12) (c := 3) (t := 1) (by omega) (by omega); rwa [e2] at this
  refine ban_w x0.1 okU_nil (by omega) (by omega) (x0.step fun h2 m2 x2 => ?_)
  rw [e1] at x2 ⊢
  (first | (simp (maxSteps := 1000000) (disch := first | omega | (simp only [AM.DB, List.length_set, List.length_map]; first | done | omega)) only [AM.RB, Nat.reduceAdd, Nat.reduceMul, Nat.reduceEqDiff, reduceCtorEq, b22_IY10]) | skip)
  refine ban_w x2.1 ok1 (by omega) (by omega) (x2.step fun h3 m3 x3 => ?_)
  rw [e2] at x3 ⊢
  (first | (simp (maxSteps := 1000000) (disch := first | omega | (simp only [AM.DB, List.length_set, List.length_map]; first | done | omega)) only [AM.RB, Nat.reduceAdd, Nat.reduceMul, Nat.reduceEqDiff, reduceCtorEq, b22_IY10]) | skip)
  refine next_w x3.1 ok2 ?_
  have e3 : nxtP ([((7 : Int), (15 : Int)), (3, 13)].filter (onP 12)) = (13, true) := by decide
  rw [e3]
  (first | (simp (maxSteps := 1000000) (disch := first | omega | (simp only [AM.DB, List.length_set, List.length_map]; first | done | omega)) only [AM.RB, Nat.reduceAdd, Nat.reduceMul, Nat.reduceEqDiff, reduceCtorEq, b22_IY10]) | skip)
  refine span_w _ _ _ ?_
  rw [show spanI 0 = 4 by decide]
  (first | (simp (maxSteps := 1000000) (disch := first | omega | (simp only [AM.DB, List.length_set, List.length_map]; first | done | omega)) only [AM.RB, Nat.reduceAdd, Nat.reduceMul, Nat.reduceEqDiff, reduceCtorEq, b22_IY10]) | skip)
  refine span_w _ _ _ ?_
  rw [show spanI 3 = 32 by decide]
  (first | (simp (maxSteps := 1000000) (disch := first | omega | (simp only [AM.DB, List.length_set, List.length_map]; first | done | omega)) only [AM.RB, Nat.reduceAdd, Nat.reduceMul, Nat.reduceEqDiff, reduceCtorEq, b22_IY10]) | skip)
  refine span_w _ _ _ ?_
  rw [show spanI 99 = 256 by decide]
  (first | (simp (maxSteps := 1000000) (disch := first | omega | (simp only [AM.DB, List.length_set, List.length_map]; first | done | omega)) only [AM.RB, Nat.reduceAdd, Nat.reduceMul, Nat.reduceEqDiff, reduceCtorEq, b22_IY10]) | skip)
  refine span_w _ _ _ ?_
  rw [show spanI (-1) = 4 by decide]
  (first | (simp (maxSteps := 1000000) (disch := first | omega | (simp only [AM.DB, List.length_set, List.length_map]; first | done | omega)) only [AM.RB, Nat.reduceAdd, Nat.reduceMul, Nat.reduceEqDiff, reduceCtorEq, b22_IY10]) | skip)
  refine backoff_w _ _ (by omega) _ _ ?_
  rw [show IntKind.u64.wrap (spanI 1 + Int.tmod 21 (spanI 1)) = 13 by decide]
  (first | (simp (maxSteps := 1000000) (disch := first | omega | (simp only [AM.DB, List.length_set, List.length_map]; first | done | omega)) only [AM.RB, Nat.reduceAdd, Nat.reduceMul, Nat.reduceEqDiff, reduceCtorEq, b22_IY10]) | skip)
  refine banned_w x3.1 ok2 fun v h5 ow fr5 _ => ?_
  rw [banned37] at ow
  have x5 := x3.fr0 fr5
  (first | (simp (maxSteps := 1000000) (disch := first | omega | (simp only [AM.DB, List.length_set, List.length_map]; first | done | omega)) only [AM.RB, Nat.reduceAdd, Nat.reduceMul, Nat.reduceEqDiff, reduceCtorEq, b22_IY10]) | skip)
  generalize hE_ : h5.alloc (.cells [.int .i64 3, .int .i64 7] 3 false) = h6
  have fr6 : Fr none' h5 h6 := by rw [← hE_]; exact (Fr.refl _ _).alloc _
  have g6 : h6.get h5.next = some (.cells [.int .i64 3, .int .i64 7] 3 false) := by rw [← hE_]; exact AM.get_alloc_self rfl
  refine sameY_w (la := [3, 7]) (lb := [3, 7]) (ow.rd.fr0 fr6) (.inr ⟨h5.next, 0, 2, _, _, false, rfl, Nat.le_refl _, g6, by simp, rfl, .inr rfl⟩) (by decide) ?_
  clear hE_
  have x6 := x5.fr0 fr6
  (first | (simp (maxSteps := 1000000) (disch := first | omega | (simp only [AM.DB, List.length_set, List.length_map]; first | done | omega)) only [AM.RB, Nat.reduceAdd, Nat.reduceMul, Nat.reduceEqDiff, reduceCtorEq, b22_IY10]) | skip)
  refine banned_w x6.1 ok2 fun v h7 ow fr7 _ => ?_
  rw [banned7] at ow
  have x7 := x6.fr0 fr7
  (first | (simp (maxSteps := 1000000) (disch := first | omega | (simp only [AM.DB, List.length_set, List.length_map]; first | done | omega)) only [AM.RB, Nat.reduceAdd, Nat.reduceMul, Nat.reduceEqDiff, reduceCtorEq, b22_IY10]) | skip)
  generalize hE_ : h7.alloc (.cells [.int .i64 7] 3 false) = h8
  have fr8 : Fr none' h7 h8 := by rw [← hE_]; exact (Fr.refl _ _).alloc _
  have g8 : h8.get h7.next = some (.cells [.int .i64 7] 3 false) := by rw [← hE_]; exact AM.get_alloc_self rfl
  refine sameY_w (la := [7]) (lb := [7]) (ow.rd.fr0 fr8) (.inr ⟨h7.next, 0, 1, _, _, false, rfl, Nat.le_refl _, g8, by simp, rfl, .inr rfl⟩) (by decide) ?_
  (first | (simp (maxSteps := 1000000) (disch := first | omega | (simp only [AM.DB, List.length_set, List.length_map]; first | done | omega)) only [AM.RB, Nat.reduceAdd, Nat.reduceMul, Nat.reduceEqDiff, reduceCtorEq, b22_IY10]) | skip)
  exact hq _ (x7.2.1.trans fr8)
end Go.Proofs.Ytodcnfabnlojdaa

namespace Go.Proofs.Ytodcnfabnlojdaa
open Go.AM
set_option maxRecDepth 8000
/-! ### The reference's bans: a slice of cells and ticks -/
abbrev encB (q : Int × Int) : List Value := [.int .i64 q.1, .int .u64 q.2]
abbrev dB : Int × Int := (0, 0)
def Rb (h : AHeap) (q : Nat) (s : Value) (L : IL) : Prop :=
  h.get q = some (.cells [s] 62 false) ∧ h.low ≤ q ∧ Ow h 102 2 s L.length (L.flatMap encB) ∧ ∀ id, idOf s id → id ≠ q
def ownR (q : Nat) (s : Value) (id : Nat) : Prop := id = q ∨ idOf s id
theorem Rb.fr {S : Nat → Prop} {h h' : AHeap} {q : Nat} {s : Value} {L : IL} (x : Rb h q s L) (fr : Fr S h h') (hS : ∀ id, ownR q s id → ¬ S id) : Rb h' q s L :=
  ⟨fr.get x.1 (hS q (.inl rfl)), by rw [fr.low]; exact x.2.1, x.2.2.1.fr fr (fun id i => hS id (.inr i)), x.2.2.2⟩
theorem Rb.fr0 {h h' : AHeap} {q : Nat} {s : Value} {L : IL} (x : Rb h q s L) (fr : Fr none' h h') : Rb h' q s L := x.fr fr fun _ _ i => i
theorem Rb.lt {h : AHeap} {q : Nat} {s : Value} {L : IL} (x : Rb h q s L) {id : Nat} (hi : ownR q s id) : id < h.next := by
  rcases hi with rfl | i
  · exact AM.get_some_lt x.1
  · exact x.2.2.1.lt i

end Go.Proofs.Ytodcnfabnlojdaa

namespace Go.Proofs.Ytodcnfabnlojdaa
open Go.AM
set_option maxRecDepth 8000
theorem nxtP_snoc (l : IL) (x : Int × Int) : nxtP (l ++ [x]) = if (nxtP l).2 = false ∨ x.2 < (nxtP l).1 then (x.2, true) else nxtP l := by unfold nxtP; rw [List.foldl_append]; rfl
theorem take_snoc (L : IL) (i : Nat) (hi : i < L.length) : L.take (i + 1) = L.take i ++ [L.getD i dB] := by
  rw [List.take_add_one, List.getElem?_eq_getElem hi]; simp [List.getD, hi]
theorem mem_getI : ∀ {L : IL} {x v : Int}, (L.map (·.1)).Nodup → (x, v) ∈ L → getI L x = some v
  | (k, w) :: l, x, v, hn, hm => by
    simp only [List.map_cons, List.nodup_cons] at hn
    rcases List.mem_cons.1 hm with e | e
    · cases e; simp [getI]
    · unfold getI
      rw [if_neg (fun q => hn.1 (by rw [← q]; exact List.mem_map.2 ⟨_, e, rfl⟩))]
      exact mem_getI hn.2 e
end Go.Proofs.Ytodcnfabnlojdaa

namespace Go.AM
variable {P : Program}
end Go.AM
namespace Go.Proofs.Ytodcnfabnlojdaa
open Go.AM
set_option maxRecDepth 8000
end Go.Proofs.Ytodcnfabnlojdaa

namespace Go.Proofs.Ytodcnfabnlojdaa
open Go.AM
set_option maxRecDepth 8000
abbrev OpY := Int × Int × Int × Int
abbrev encY (o : OpY) : List Value := [.int .i64 o.1, .int .u64 o.2.1, .int .i64 o.2.2.1, .int .u64 o.2.2.2]
abbrev dY : OpY := (0, 0, 0, 0)
theorem encY_len (o : OpY) : (encY o).length = 4 := rfl
/-- Its ticks are numbers of their kind. -/
def wfY (o : OpY) : Prop := (0 ≤ o.2.1 ∧ o.2.1 < 18446744073709551616) ∧ 0 ≤ o.2.2.2 ∧ o.2.2.2 < 18446744073709551616

/-- The program's bans, and the reference's, both made since h0. -/
def Two (h0 h : AHeap) (p q : Nat) (mo : Option Nat) (s : Value) (L : IL) : Prop :=
  okU L ∧ Bd h p mo L ∧ Rb h q s L ∧ Fr none' h0 h ∧ (∀ id, own p mo id → h0.next ≤ id) ∧ (∀ id, ownR q s id → h0.next ≤ id) ∧ ∀ id, ownR q s id → ¬ own p mo id
theorem Two.fr0 {h0 h h' : AHeap} {p q : Nat} {mo : Option Nat} {s : Value} {L : IL} (x : Two h0 h p q mo s L) (fr : Fr none' h h') : Two h0 h' p q mo s L := by
  obtain ⟨a, b, c, d, e, f, g⟩ := x
  exact ⟨a, b.fr0 fr, c.fr0 fr, d.trans fr, e, f, g⟩
/-- Both go from L to L'. -/
theorem Two.step {h0 h h1 h2 : AHeap} {p q : Nat} {mo mo1 : Option Nat} {s s2 : Value} {L L' : IL} (x : Two h0 h p q mo s L) (ok : okU L') (b1 : Bd h1 p mo1 L') (fr1 : Fr (own p mo) h h1) (nw1 : ∀ id, mo1 = some id → mo = some id ∨ h.next ≤ id)
    (b2 : Rb h2 q s2 L') (fr2 : Fr (ownR q s) h1 h2) (nw2 : ∀ id, idOf s2 id → idOf s id ∨ h1.next ≤ id) : Two h0 h2 p q mo1 s2 L' := by
  obtain ⟨a, b, c, d, e, f, g⟩ := x
  have nx := d.next
  have n1 := fr1.next
  have o1 : ∀ id, own p mo1 id → own p mo id ∨ h.next ≤ id := fun id i => i.elim (fun i => .inl (.inl i)) (fun i => (nw1 id i).imp .inr (fun i => i))
  have o2 : ∀ id, ownR q s2 id → ownR q s id ∨ h1.next ≤ id := fun id i => i.elim (fun i => .inl (.inl i)) (fun i => (nw2 id i).imp .inr (fun i => i))
  refine ⟨ok, b1.fr fr2 fun id i j => ?_, b2, (d.fresh fr1 fun id i => e id i).fresh fr2 fun id i => f id i, fun id i => ?_, fun id i => ?_, fun id i j => ?_⟩
  · rcases o1 id i with i | i
    · exact g id j i
    · have := c.lt j; omega
  · rcases o1 id i with i | i
    · exact e id i
    · omega
  · rcases o2 id i with i | i
    · exact f id i
    · omega
  · rcases o2 id i with i | i
    · rcases o1 id j with j | j
      · exact g id i j
      · have := c.lt i; omega
    · have := b1.lt j; omega
end Go.Proofs.Ytodcnfabnlojdaa

namespace Go.Proofs.Ytodcnfabnlojdaa
open Go.AM

/-! ### The plain law of YieldOver -/
theorem nxt_take (P : IL) : ∀ i, i ≤ P.length → ((nxtP (P.take i)).2 = decide (0 < i)) ∧ (∀ j, j < i → (nxtP (P.take i)).1 ≤ (P.getD j dB).2) ∧ (0 < i → ∃ j, j < i ∧ (P.getD j dB).2 = (nxtP (P.take i)).1)
  | 0, _ => ⟨by simp [nxtP], fun j hj => by omega, fun h => by omega⟩
  | i + 1, hi => by
    obtain ⟨h1, h2, h3⟩ := nxt_take P i (by omega)
    rw [take_snoc P i (by omega), nxtP_snoc]
    by_cases hc : (nxtP (P.take i)).2 = false ∨ (P.getD i dB).2 < (nxtP (P.take i)).1
    · rw [if_pos hc]
      refine ⟨by simp, fun j hj => ?_, fun _ => ⟨i, by omega, rfl⟩⟩
      simp only
      by_cases e : j = i
      · subst e; exact Int.le_refl _
      · rcases hc with hc | hc
        · rw [h1] at hc
          have : ¬ 0 < i := of_decide_eq_false hc
          omega
        · have := h2 j (by omega); omega
    · rw [if_neg hc]
      have hi0 : 0 < i := by
        have : ¬ (nxtP (P.take i)).2 = false := fun e => hc (.inl e)
        rw [h1] at this
        have : ¬ i = 0 := by simpa using this
        omega
      refine ⟨by rw [h1]; simp [hi0], fun j hj => ?_, fun _ => ?_⟩
      · by_cases e : j = i
        · subst e; have : ¬ (P.getD j dB).2 < (nxtP (P.take j)).1 := fun q => hc (.inr q); omega
        · exact h2 j (by omega)
      · obtain ⟨j, hj, e⟩ := h3 hi0
        exact ⟨j, by omega, e⟩
theorem nxt_is (P : IL) : (nxtP P).2 = decide (0 < P.length) := by have := (nxt_take P P.length (Nat.le_refl _)).1; rwa [List.take_length] at this
theorem nxt_le {P : IL} {x : Int × Int} (hx : x ∈ P) : (nxtP P).1 ≤ x.2 := by
  obtain ⟨j, hj, e⟩ := List.mem_iff_getElem.1 hx
  have := (nxt_take P P.length (Nat.le_refl _)).2.1 j hj
  rw [List.take_length] at this
  simpa [List.getD, hj, e] using this
theorem nxt_mem {P : IL} (h : 0 < P.length) : ∃ x ∈ P, x.2 = (nxtP P).1 := by
  obtain ⟨j, hj, e⟩ := (nxt_take P P.length (Nat.le_refl _)).2.2 h
  rw [List.take_length] at e
  refine ⟨P.getD j dB, ?_, e⟩
  simp [List.getD, hj]

theorem over_filter {L : IL} {now : Int} : L.filter (onP ((nxtP (L.filter (onP now))).1 - 1)) = L.filter (onP now) ∨ (L.filter (onP now)).length = 0 := by
  by_cases h0 : (L.filter (onP now)).length = 0
  · exact .inr h0
  · refine .inl (List.filter_congr fun x hx => ?_)
    obtain ⟨y, hy, e⟩ := nxt_mem (P := L.filter (onP now)) (by omega)
    have hy2 : now < y.2 := by simpa [onP] using (List.mem_filter.1 hy).2
    by_cases h : now < x.2
    · have := nxt_le (P := L.filter (onP now)) (List.mem_filter.2 ⟨hx, by simpa [onP] using h⟩)
      simp only [onP]; rw [decide_eq_true h, decide_eq_true (by omega)]
    · simp only [onP]; rw [decide_eq_false h, decide_eq_false (by omega)]
theorem over_less {L : IL} {now : Int} (h0 : 0 < (L.filter (onP now)).length) : (L.filter (onP (nxtP (L.filter (onP now))).1)).length < (L.filter (onP now)).length := by
  obtain ⟨y, hy, e⟩ := nxt_mem h0
  have hy2 : now < y.2 := by simpa [onP] using (List.mem_filter.1 hy).2
  have e1 : L.filter (onP (nxtP (L.filter (onP now))).1) = (L.filter (onP now)).filter (onP (nxtP (L.filter (onP now))).1) := by
    rw [List.filter_filter]
    refine List.filter_congr fun x hx => ?_
    by_cases h : (nxtP (L.filter (onP now))).1 < x.2
    · simp only [onP]; rw [decide_eq_true h, decide_eq_true (show now < x.2 by omega)]; rfl
    · simp only [onP]; rw [decide_eq_false h]; rfl
  rw [e1]
  generalize hP : L.filter (onP now) = P at *
  refine Nat.lt_of_le_of_ne (List.length_filter_le _ _) fun q => ?_
  have := List.length_filter_eq_length_iff.1 q y hy
  simp only [onP] at this
  have := of_decide_eq_true this
  omega
/-- What is banned: each until its tick. -/
theorem over_at {L : IL} (ok : okU L) {now : Int} (h0 : 0 ≤ now) {i : Nat} (hi : i < (bannedL now L).length) :
    ∃ u, getI L ((bannedL now L).getD i 0) = some u ∧ now < u ∧ (nxtP (L.filter (onP now))).1 ≤ u ∧ u < 18446744073709551616 := by
  have hm : (bannedL now L).getD i 0 ∈ (L.filter (onP now)).map (·.1) := by
    have h1 : (bannedL now L).getD i 0 ∈ bannedL now L := by simp [List.getD, hi]
    exact (List.mergeSort_perm _ _).mem_iff.1 h1
  obtain ⟨⟨k, u⟩, h1, h2⟩ := List.mem_map.1 hm
  obtain ⟨h3, h4⟩ := List.mem_filter.1 h1
  have h5 := mem_getI ok.2.1 h3
  rw [← h2]
  exact ⟨u, h5, by simpa [onP] using h4, nxt_le h1, (ok.1 _ h3).2.2⟩
end Go.Proofs.Ytodcnfabnlojdaa

namespace Go.Proofs.Ytodcnfabnlojdaa
open Go.AM
set_option maxRecDepth 8000
theorem b10_IY18 : type_of% (And.intro (@AM.alK_some) (And.intro (@al_58) (And.intro (@AM.bin_add) (And.intro (AM.bin_bne ul_4) (And.intro (@AM.bin_eql) (And.intro (@AM.bin_gtr) (And.intro (@AM.bin_lss) (And.intro (@AM.bin_sub) (And.intro (@AM.ex_tuple) (And.intro (@AM.fa_ptr) (And.intro (@fd_64_0) (And.intro (@fd_64_1) (And.intro (@fd_64_2) (And.intro (@fd_64_3) (And.intro (@AM.iaO_ok) (And.intro (AM.ia_slice el_22) (And.intro (AM.ia_slice el_54) (And.intro (@AM.ldO_agg) (And.intro (@AM.ldO_one) (And.intro (@AM.ld_ptr) (And.intro (AM.len_slice ul_22) (And.intro (AM.len_slice ul_54) (And.intro (@lk_29) (And.intro (@lk_3) (And.intro (@AM.op_alloc) (And.intro (@AM.op_binOp) (And.intro (@AM.op_call) (And.intro (@AM.op_extract) (And.intro (@AM.op_fieldAddr) (And.intro (@AM.op_indexAddr) (And.intro (@AM.op_len) (And.intro (@AM.op_load) (And.intro (@AM.op_unOp) (And.intro (@AM.un_neg) (@AM.un_not))))))))))))))))))))))))))))))))))) := And.intro (@AM.alK_some) (And.intro (@al_58) (And.intro (@AM.bin_add) (And.intro (AM.bin_bne ul_4) (And.intro (@AM.bin_eql) (And.intro (@AM.bin_gtr) (And.intro (@AM.bin_lss) (And.intro (@AM.bin_sub) (And.intro (@AM.ex_tuple) (And.intro (@AM.fa_ptr) (And.intro (@fd_64_0) (And.intro (@fd_64_1) (And.intro (@fd_64_2) (And.intro (@fd_64_3) (And.intro (@AM.iaO_ok) (And.intro (AM.ia_slice el_22) (And.intro (AM.ia_slice el_54) (And.intro (@AM.ldO_agg) (And.intro (@AM.ldO_one) (And.intro (@AM.ld_ptr) (And.intro (AM.len_slice ul_22) (And.intro (AM.len_slice ul_54) (And.intro (@lk_29) (And.intro (@lk_3) (And.intro (@AM.op_alloc) (And.intro (@AM.op_binOp) (And.intro (@AM.op_call) (And.intro (@AM.op_extract) (And.intro (@AM.op_fieldAddr) (And.intro (@AM.op_indexAddr) (And.intro (@AM.op_len) (And.intro (@AM.op_load) (And.intro (@AM.op_unOp) (And.intro (@AM.un_neg) (@AM.un_not))))))))))))))))))))))))))))))))))


set_option maxHeartbeats 8000000 in
theorem overLaw_w {s : Value} {n : Nat} {l : List OpY} {h : AHeap} {now : Int} (hs : Rd h 64 4 s n (l.flatMap encY)) (hln : l.length = n) (hlb : ∀ o ∈ l, wfY o) (hnow : 0 ≤ now ∧ now < 18446744073709551616) (hl : h.low ≤ h.next) :
    W 10 [s, .int .u64 now] h fun v _ => v = .bool true := by
  obtain ⟨a, cap, rfl⟩ := hs.form
  refine AM.enter hp (fn := Try.f10) (rs := [.tmp 4]) (nt := 140) (by kernel_rfl) Try.func10 rfl rfl rfl (by kernel_rfl) ?_
  simp (maxSteps := 1000000) (disch := first | omega | (simp only [AM.DB, List.length_set, List.length_map]; first | done | omega)) only [AM.RB, Nat.reduceAdd, Nat.reduceMul, Nat.reduceEqDiff, reduceCtorEq, b10_IY18]
  refine aliveY_w hl fun h0 fr0 => ?_
  have hl0 := fr0.hl hl
  by_cases h150 : (150 : Int) < n
  · have d0 := decide_eq_true h150
    (repeat' (first | (simp (maxSteps := 1000000) (disch := first | omega | (simp only [AM.DB, List.length_set, List.length_map]; first | done | omega)) only [AM.RB, Nat.reduceAdd, Nat.reduceMul, Nat.reduceEqDiff, reduceCtorEq, b10_IY18, d0]) | refine AM.drawW_fine hp (by kernel_rfl) (by kernel_rfl) (by kernel_rfl) ?_ | refine AM.opW_tied (by kernel_rfl) ?_ | refine AM.opW_untied (by kernel_rfl) ?_))
  have d0 := decide_eq_false h150
  (repeat' (first | (simp (maxSteps := 1000000) (disch := first | omega | (simp only [AM.DB, List.length_set, List.length_map]; first | done | omega)) only [AM.RB, Nat.reduceAdd, Nat.reduceMul, Nat.reduceEqDiff, reduceCtorEq, b10_IY18, d0]) | refine AM.drawW_fine hp (by kernel_rfl) (by kernel_rfl) (by kernel_rfl) ?_ | refine AM.opW_tied (by kernel_rfl) ?_ | refine AM.opW_untied (by kernel_rfl) ?_))
  have bz0 := Bz.new h0 hl0
  generalize AHeap.alloc h0 _ = hA at *
  have bzA : Bz h hA h0.next none [] := ⟨bz0.1, fr0.trans bz0.2.1, fun id q => by have := bz0.2.2 id q; have := fr0.next; omega⟩
  refine AM.loop_w hp 140 (fun i : Nat => [(0, .slice a n cap), (1, .int .u64 now), (5, .bool true), (6, pv h0.next), (28, .int .i64 n), (29, .int .i64 i)])
    (fun i h' => i ≤ n ∧ ∃ mo L, okU L ∧ Bz h h' h0.next mo L) (fun i => n - i) (by kernel_rfl) 0 ?_ ?_ ?_
  · simp (maxSteps := 1000000) (disch := first | omega | (simp only [AM.DB, List.length_set, List.length_map]; first | done | omega)) only [AM.RB, Nat.reduceAdd, Nat.reduceMul, Nat.reduceEqDiff, reduceCtorEq, b10_IY18]
    first | rfl | skip
  · exact ⟨Nat.zero_le _, none, [], okU_nil, bzA⟩
  rintro i h1 ρ ⟨hi, mo, L, ok, bz⟩
  have fr1 := bz.2.1
  have hl1 := fr1.hl hl
  have hs1 := hs.fr0 fr1
  simp (maxSteps := 1000000) (disch := first | omega | (simp only [AM.DB, List.length_set, List.length_map]; first | done | omega)) only [AM.RB, Nat.reduceAdd, Nat.reduceMul, Nat.reduceEqDiff, reduceCtorEq, b10_IY18]
  refine AM.condV_split (fun hlt2 => ?_) (fun hlt2 => ?_)
  · obtain ⟨⟨kind, nw, c, t⟩, hr'⟩ : ∃ r, l.getD i dY = r := ⟨_, rfl⟩
    have hgb : wfY (kind, nw, c, t) := by
      have := hlb (l.getD i dY) (by simp [List.getD, show i < l.length by omega])
      rw [hr'] at this; exact this
    obtain ⟨hnw, htk⟩ := hgb
    simp only at hnw htk
    by_cases k0 : kind = 0
    · have dk : decide (kind = 0) = true := decide_eq_true k0
      (repeat' (first | (simp (maxSteps := 1000000) (disch := first | omega | (simp only [AM.DB, List.length_set, List.length_map]; first | done | omega)) only [AM.RB, Nat.reduceAdd, Nat.reduceMul, Nat.reduceEqDiff, reduceCtorEq, b10_IY18, hs1.ia el_54, hs1.fa fd_64_0, hs1.fa fd_64_1, hs1.fa fd_64_2, hs1.fa fd_64_3, hs1.ldsF encY_len lk_3 hln dY, hs1.ldsF encY_len lk_29 hln dY, Int.toNat_natCast, hr', encY, dk]) | refine AM.drawW_fine hp (by kernel_rfl) (by kernel_rfl) (by kernel_rfl) ?_ | refine AM.opW_tied (by kernel_rfl) ?_ | refine AM.opW_untied (by kernel_rfl) ?_))
      refine ban_w bz.1 ok hnw htk (bz.step fun h2 mo2 bz2 => ?_)
      (repeat' (first | (simp (maxSteps := 1000000) (disch := first | omega | (simp only [AM.DB, List.length_set, List.length_map]; first | done | omega)) only [AM.RB, Nat.reduceAdd, Nat.reduceMul, Nat.reduceEqDiff, reduceCtorEq, b10_IY18, AM.wrap_i64]) | refine AM.drawW_fine hp (by kernel_rfl) (by kernel_rfl) (by kernel_rfl) ?_ | refine AM.opW_tied (by kernel_rfl) ?_ | refine AM.opW_untied (by kernel_rfl) ?_))
      refine ⟨i + 1, by omega, ?_, by omega, mo2, _, banP_ok ok hnw htk.1, bz2⟩
      simp (maxSteps := 1000000) (disch := first | omega | (simp only [AM.DB, List.length_set, List.length_map]; first | done | omega)) only [AM.RB, Nat.reduceAdd, Nat.reduceMul, Nat.reduceEqDiff, reduceCtorEq, b10_IY18]
      first | rfl | skip
    · have dk : decide (kind = 0) = false := decide_eq_false k0
      (repeat' (first | (simp (maxSteps := 1000000) (disch := first | omega | (simp only [AM.DB, List.length_set, List.length_map]; first | done | omega)) only [AM.RB, Nat.reduceAdd, Nat.reduceMul, Nat.reduceEqDiff, reduceCtorEq, b10_IY18, hs1.ia el_54, hs1.fa fd_64_0, hs1.fa fd_64_2, hs1.ldsF encY_len lk_3 hln dY, Int.toNat_natCast, hr', encY, dk]) | refine AM.drawW_fine hp (by kernel_rfl) (by kernel_rfl) (by kernel_rfl) ?_ | refine AM.opW_tied (by kernel_rfl) ?_ | refine AM.opW_untied (by kernel_rfl) ?_))
      refine lift_w bz.1 (bz.step fun h2 mo2 bz2 => ?_)
      (repeat' (first | (simp (maxSteps := 1000000) (disch := first | omega | (simp only [AM.DB, List.length_set, List.length_map]; first | done | omega)) only [AM.RB, Nat.reduceAdd, Nat.reduceMul, Nat.reduceEqDiff, reduceCtorEq, b10_IY18, AM.wrap_i64]) | refine AM.drawW_fine hp (by kernel_rfl) (by kernel_rfl) (by kernel_rfl) ?_ | refine AM.opW_tied (by kernel_rfl) ?_ | refine AM.opW_untied (by kernel_rfl) ?_))
      refine ⟨i + 1, by omega, ?_, by omega, mo2, _, ok.del c, bz2⟩
      simp (maxSteps := 1000000) (disch := first | omega | (simp only [AM.DB, List.length_set, List.length_map]; first | done | omega)) only [AM.RB, Nat.reduceAdd, Nat.reduceMul, Nat.reduceEqDiff, reduceCtorEq, b10_IY18]
      first | rfl | skip
  · (repeat' (first | (simp (maxSteps := 1000000) (disch := first | omega | (simp only [AM.DB, List.length_set, List.length_map]; first | done | omega)) only [AM.RB, Nat.reduceAdd, Nat.reduceMul, Nat.reduceEqDiff, reduceCtorEq, b10_IY18]) | refine AM.drawW_fine hp (by kernel_rfl) (by kernel_rfl) (by kernel_rfl) ?_ | refine AM.opW_tied (by kernel_rfl) ?_ | refine AM.opW_untied (by kernel_rfl) ?_))
    refine banned_w bz.1 ok fun v2 h2 o2 fr2 hid2 => ?_
    have bz2 := bz.fr0 fr2
    have hbl := bannedL_len now L
    have hb64 : (L.filter (onP now)).length ≤ 64 := Nat.le_trans (List.length_filter_le _ _) ok.2.2
    have hni := nxt_is (L.filter (onP now))
    obtain ⟨va, vc, rfl⟩ := o2.form
    (repeat' (first | (simp (maxSteps := 1000000) (disch := first | omega | (simp only [AM.DB, List.length_set, List.length_map]; first | done | omega)) only [AM.RB, Nat.reduceAdd, Nat.reduceMul, Nat.reduceEqDiff, reduceCtorEq, b10_IY18]) | refine AM.drawW_fine hp (by kernel_rfl) (by kernel_rfl) (by kernel_rfl) ?_ | refine AM.opW_tied (by kernel_rfl) ?_ | refine AM.opW_untied (by kernel_rfl) ?_))
    refine next_w bz2.1 ok ?_
    have ov1 := over_filter (L := L) (now := now)
    have ov2 := over_less (L := L) (now := now)
    have ov3 := fun i (hi : i < (bannedL now L).length) => over_at ok hnow.1 hi
    have nm := nxt_mem (P := L.filter (onP now))
    have nb : ∀ x ∈ L.filter (onP now), now < x.2 ∧ x.2 < 18446744073709551616 := fun x hx => ⟨by simpa [onP] using (List.mem_filter.1 hx).2, (ok.1 x (List.mem_filter.1 hx).1).2.2⟩
    rw [← hbl] at hni ov1 ov2 nm hb64
    generalize (nxtP (L.filter (onP now))) = nx at *
    obtain ⟨m, is⟩ := nx
    simp only at hni ov1 ov2 ov3 nm
    subst hni
    by_cases hz0 : (bannedL now L).length = 0
    · have e1 : decide (0 < (bannedL now L).length) = false := decide_eq_false (by omega)
      have e2 : decide ((0 : Int) < (bannedL now L).length) = false := decide_eq_false (by omega)
      (repeat' (first | (simp (maxSteps := 1000000) (disch := first | omega | (simp only [AM.DB, List.length_set, List.length_map]; first | done | omega)) only [AM.RB, Nat.reduceAdd, Nat.reduceMul, Nat.reduceEqDiff, reduceCtorEq, b10_IY18, e1, e2]) | refine AM.drawW_fine hp (by kernel_rfl) (by kernel_rfl) (by kernel_rfl) ?_ | refine AM.opW_tied (by kernel_rfl) ?_ | refine AM.opW_untied (by kernel_rfl) ?_))
    have e1 : decide (0 < (bannedL now L).length) = true := decide_eq_true (by omega)
    have e2 : decide ((0 : Int) < (bannedL now L).length) = true := decide_eq_true (by omega)
    have ov1' := ov1.resolve_right hz0
    obtain ⟨y, hy, hym⟩ := nm (by omega)
    have hmb := nb y hy
    rw [hym] at hmb
    have rd2 := o2.rd
    (repeat' (first | (simp (maxSteps := 1000000) (disch := first | omega | (simp only [AM.DB, List.length_set, List.length_map]; first | done | omega)) only [AM.RB, Nat.reduceAdd, Nat.reduceMul, Nat.reduceEqDiff, reduceCtorEq, b10_IY18, e1, e2]) | refine AM.drawW_fine hp (by kernel_rfl) (by kernel_rfl) (by kernel_rfl) ?_ | refine AM.opW_tied (by kernel_rfl) ?_ | refine AM.opW_untied (by kernel_rfl) ?_))
    have fr2' := bz2.2.1
    have w1 : IntKind.u64.wrap (m - 1) = m - 1 := AM.wrap_u64 (by omega) (by omega)
    refine AM.loop_w hp 140 (fun k : Nat => [(1, .int .u64 now), (5, .bool true), (6, pv h0.next), (8, .slice va (bannedL now L).length vc), (9, .int .u64 m), (77, .int .i64 (bannedL now L).length), (78, .int .i64 k)])
      (fun k h' => h' = h2 ∧ k ≤ (bannedL now L).length) (fun k => (bannedL now L).length - k) (by kernel_rfl) 0 ?_ ?_ ?_
    · simp (maxSteps := 1000000) (disch := first | omega | (simp only [AM.DB, List.length_set, List.length_map]; first | done | omega)) only [AM.RB, Nat.reduceAdd, Nat.reduceMul, Nat.reduceEqDiff, reduceCtorEq, b10_IY18]
      first | rfl | skip
    · exact ⟨rfl, Nat.zero_le _⟩
    rintro k hh ρ2 ⟨rfl, hk⟩
    simp (maxSteps := 1000000) (disch := first | omega | (simp only [AM.DB, List.length_set, List.length_map]; first | done | omega)) only [AM.RB, Nat.reduceAdd, Nat.reduceMul, Nat.reduceEqDiff, reduceCtorEq, b10_IY18]
    refine AM.condV_split (fun hlt3 => ?_) (fun hlt3 => ?_)
    · obtain ⟨u, u1, u2, u3, u4⟩ := ov3 k (by omega)
      have w2 : IntKind.u64.wrap (u - 1) = u - 1 := AM.wrap_u64 (by omega) (by omega)
      have t1 : untilU now L ((bannedL now L).getD k 0) = (u, true) := by unfold untilU; rw [u1]; simp only [Option.getD_some]; rw [if_pos u2]
      have t2 : untilU (u - 1) L ((bannedL now L).getD k 0) = (u, true) := by unfold untilU; rw [u1]; simp only [Option.getD_some]; rw [if_pos (by omega)]
      have t3 : untilU u L ((bannedL now L).getD k 0) = (0, false) := by unfold untilU; rw [u1]; simp only [Option.getD_some]; rw [if_neg (by omega)]
      have d1 : decide (u < m) = false := decide_eq_false (by omega)
      (repeat' (first | (simp (maxSteps := 1000000) (disch := first | omega | (simp only [AM.DB, List.length_set, List.length_map]; first | done | omega)) only [AM.RB, Nat.reduceAdd, Nat.reduceMul, Nat.reduceEqDiff, reduceCtorEq, b10_IY18, rd2.ia el_22, rd2.ldi lk_3, Int.toNat_natCast]) | refine AM.drawW_fine hp (by kernel_rfl) (by kernel_rfl) (by kernel_rfl) ?_ | refine AM.opW_tied (by kernel_rfl) ?_ | refine AM.opW_untied (by kernel_rfl) ?_))
      refine until_w bz2.1 hnow.1 ?_
      rw [t1]
      (repeat' (first | (simp (maxSteps := 1000000) (disch := first | omega | (simp only [AM.DB, List.length_set, List.length_map]; first | done | omega)) only [AM.RB, Nat.reduceAdd, Nat.reduceMul, Nat.reduceEqDiff, reduceCtorEq, b10_IY18, rd2.ia el_22, rd2.ldi lk_3, Int.toNat_natCast, w2]) | refine AM.drawW_fine hp (by kernel_rfl) (by kernel_rfl) (by kernel_rfl) ?_ | refine AM.opW_tied (by kernel_rfl) ?_ | refine AM.opW_untied (by kernel_rfl) ?_))
      refine until_w bz2.1 (by omega) ?_
      rw [t2]
      (repeat' (first | (simp (maxSteps := 1000000) (disch := first | omega | (simp only [AM.DB, List.length_set, List.length_map]; first | done | omega)) only [AM.RB, Nat.reduceAdd, Nat.reduceMul, Nat.reduceEqDiff, reduceCtorEq, b10_IY18, rd2.ia el_22, rd2.ldi lk_3, Int.toNat_natCast]) | refine AM.drawW_fine hp (by kernel_rfl) (by kernel_rfl) (by kernel_rfl) ?_ | refine AM.opW_tied (by kernel_rfl) ?_ | refine AM.opW_untied (by kernel_rfl) ?_))
      refine until_w bz2.1 (by omega) ?_
      rw [t3]
      (repeat' (first | (simp (maxSteps := 1000000) (disch := first | omega | (simp only [AM.DB, List.length_set, List.length_map]; first | done | omega)) only [AM.RB, Nat.reduceAdd, Nat.reduceMul, Nat.reduceEqDiff, reduceCtorEq, b10_IY18, d1, AM.wrap_i64]) | refine AM.drawW_fine hp (by kernel_rfl) (by kernel_rfl) (by kernel_rfl) ?_ | refine AM.opW_tied (by kernel_rfl) ?_ | refine AM.opW_untied (by kernel_rfl) ?_))
      refine ⟨k + 1, by omega, ?_, by omega⟩
      simp (maxSteps := 1000000) (disch := first | omega | (simp only [AM.DB, List.length_set, List.length_map]; first | done | omega)) only [AM.RB, Nat.reduceAdd, Nat.reduceMul, Nat.reduceEqDiff, reduceCtorEq, b10_IY18]
      first | rfl | skip
    · (repeat' (first | (simp (maxSteps := 1000000) (disch := first | omega | (simp only [AM.DB, List.length_set, List.length_map]; first | done | omega)) only [AM.RB, Nat.reduceAdd, Nat.reduceMul, Nat.reduceEqDiff, reduceCtorEq, b10_IY18, w1]) | refine AM.drawW_fine hp (by kernel_rfl) (by kernel_rfl) (by kernel_rfl) ?_ | refine AM.opW_tied (by kernel_rfl) ?_ | refine AM.opW_untied (by kernel_rfl) ?_))
      refine banned_w bz2.1 ok fun v3 h3 o3 fr3 hid3 => ?_
      have e3 : bannedL (m - 1) L = bannedL now L := by unfold bannedL; rw [ov1']
      rw [e3] at o3
      have bz3 := bz2.fr0 fr3
      obtain ⟨vb, vd, rfl⟩ := o3.form
      have hdL : decide (bannedL now L = bannedL now L) = true := decide_eq_true rfl
      (repeat' (first | (simp (maxSteps := 1000000) (disch := first | omega | (simp only [AM.DB, List.length_set, List.length_map]; first | done | omega)) only [AM.RB, Nat.reduceAdd, Nat.reduceMul, Nat.reduceEqDiff, reduceCtorEq, b10_IY18]) | refine AM.drawW_fine hp (by kernel_rfl) (by kernel_rfl) (by kernel_rfl) ?_ | refine AM.opW_tied (by kernel_rfl) ?_ | refine AM.opW_untied (by kernel_rfl) ?_))
      refine sameY_w o3.rd (o2.fr0 fr3).rd (by omega) ?_
      rw [hdL]
      (repeat' (first | (simp (maxSteps := 1000000) (disch := first | omega | (simp only [AM.DB, List.length_set, List.length_map]; first | done | omega)) only [AM.RB, Nat.reduceAdd, Nat.reduceMul, Nat.reduceEqDiff, reduceCtorEq, b10_IY18]) | refine AM.drawW_fine hp (by kernel_rfl) (by kernel_rfl) (by kernel_rfl) ?_ | refine AM.opW_tied (by kernel_rfl) ?_ | refine AM.opW_untied (by kernel_rfl) ?_))
      refine banned_w bz3.1 ok fun v4 h4 o4 fr4 hid4 => ?_
      have hb4 := bannedL_len m L
      have d2 : decide (((bannedL m L).length : Int) < (bannedL now L).length) = true := decide_eq_true (by have := ov2 (by omega); omega)
      obtain ⟨ve, vf, rfl⟩ := o4.form
      (repeat' (first | (simp (maxSteps := 1000000) (disch := first | omega | (simp only [AM.DB, List.length_set, List.length_map]; first | done | omega)) only [AM.RB, Nat.reduceAdd, Nat.reduceMul, Nat.reduceEqDiff, reduceCtorEq, b10_IY18, d2]) | refine AM.drawW_fine hp (by kernel_rfl) (by kernel_rfl) (by kernel_rfl) ?_ | refine AM.opW_tied (by kernel_rfl) ?_ | refine AM.opW_untied (by kernel_rfl) ?_))
end Go.Proofs.Ytodcnfabnlojdaa
