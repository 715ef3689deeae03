/- Walks of this claim's functions, and plain laws. -/
import Derived.Test.YtodcnfabnlojdaaWa
set_option linter.unusedSimpArgs false
set_option linter.unusedVariables false
namespace Go.Proofs.Ytodcnfabnlojdaa
open Go.AM
set_option maxRecDepth 8000
theorem b58_IH6 : type_of% (And.intro (@AM.bin_neq) (And.intro (@AM.op_binOp) (@AM.op_call))) := And.intro (@AM.bin_neq) (And.intro (@AM.op_binOp) (@AM.op_call))
theorem b63_IH6 : type_of% (And.intro (@AM.fa_ptr) (And.intro (@fd_45_0) (And.intro (@AM.ldO_agg) (And.intro (@AM.ldO_one) (And.intro (@AM.ld_ptr) (And.intro (@lk_3) (And.intro (@lk_72) (And.intro (@AM.op_fieldAddr) (And.intro (@AM.op_load) (And.intro (@AM.op_nilCheck) (And.intro (@AM.op_store) (And.intro (@AM.stO_agg) (And.intro (@AM.stO_bool) (And.intro (@AM.stO_int) (And.intro (@AM.stO_map) (And.intro (@AM.stO_pointer) (And.intro (@AM.stO_slice) (And.intro (@AM.stO_string) (And.intro (@AM.st_ptr) (@sz_3)))))))))))))))))))) := And.intro (@AM.fa_ptr) (And.intro (@fd_45_0) (And.intro (@AM.ldO_agg) (And.intro (@AM.ldO_one) (And.intro (@AM.ld_ptr) (And.intro (@lk_3) (And.intro (@lk_72) (And.intro (@AM.op_fieldAddr) (And.intro (@AM.op_load) (And.intro (@AM.op_nilCheck) (And.intro (@AM.op_store) (And.intro (@AM.stO_agg) (And.intro (@AM.stO_bool) (And.intro (@AM.stO_int) (And.intro (@AM.stO_map) (And.intro (@AM.stO_pointer) (And.intro (@AM.stO_slice) (And.intro (@AM.stO_string) (And.intro (@AM.st_ptr) (@sz_3)))))))))))))))))))
theorem b59_IH6 : type_of% (And.intro (@Option.isNone_none.{0}) (And.intro (@Option.isNone_some.{0}) (And.intro (AM.bin_mnil ul_43) (And.intro (@AM.fa_ptr) (And.intro (@fd_45_1) (And.intro (@AM.ldO_agg) (And.intro (@AM.ldO_one) (And.intro (@AM.ld_ptr) (And.intro (@lk_3) (And.intro (@lk_43) (And.intro (@lk_72) (And.intro (@AM.op_binOp) (And.intro (@AM.op_fieldAddr) (And.intro (@AM.op_load) (And.intro (@AM.op_makeMap0) (And.intro (@AM.op_mapUpdate) (And.intro (@AM.op_nilCheck) (And.intro (@AM.op_store) (And.intro (@AM.stO_agg) (And.intro (@AM.stO_bool) (And.intro (@AM.stO_int) (And.intro (@AM.stO_map) (And.intro (@AM.stO_pointer) (And.intro (@AM.stO_slice) (And.intro (@AM.stO_string) (And.intro (@AM.st_ptr) (@sz_43))))))))))))))))))))))))))) := And.intro (@Option.isNone_none.{0}) (And.intro (@Option.isNone_some.{0}) (And.intro (AM.bin_mnil ul_43) (And.intro (@AM.fa_ptr) (And.intro (@fd_45_1) (And.intro (@AM.ldO_agg) (And.intro (@AM.ldO_one) (And.intro (@AM.ld_ptr) (And.intro (@lk_3) (And.intro (@lk_43) (And.intro (@lk_72) (And.intro (@AM.op_binOp) (And.intro (@AM.op_fieldAddr) (And.intro (@AM.op_load) (And.intro (@AM.op_makeMap0) (And.intro (@AM.op_mapUpdate) (And.intro (@AM.op_nilCheck) (And.intro (@AM.op_store) (And.intro (@AM.stO_agg) (And.intro (@AM.stO_bool) (And.intro (@AM.stO_int) (And.intro (@AM.stO_map) (And.intro (@AM.stO_pointer) (And.intro (@AM.stO_slice) (And.intro (@AM.stO_string) (And.intro (@AM.st_ptr) (@sz_43))))))))))))))))))))))))))
theorem b62_IH6 : type_of% (And.intro (@AM.fa_ptr) (And.intro (@fd_45_1) (And.intro (@AM.ldO_agg) (And.intro (@AM.ldO_one) (And.intro (@AM.ld_ptr) (And.intro (@lk_3) (And.intro (@lk_43) (And.intro (@lk_72) (And.intro (@AM.op_delete) (And.intro (@AM.op_fieldAddr) (And.intro (@AM.op_load) (@AM.op_nilCheck)))))))))))) := And.intro (@AM.fa_ptr) (And.intro (@fd_45_1) (And.intro (@AM.ldO_agg) (And.intro (@AM.ldO_one) (And.intro (@AM.ld_ptr) (And.intro (@lk_3) (And.intro (@lk_43) (And.intro (@lk_72) (And.intro (@AM.op_delete) (And.intro (@AM.op_fieldAddr) (And.intro (@AM.op_load) (@AM.op_nilCheck)))))))))))
theorem b68_IH6 : type_of% (And.intro (@AM.fa_ptr) (And.intro (@fd_45_1) (And.intro (@AM.ldO_agg) (And.intro (@AM.ldO_one) (And.intro (@AM.ld_ptr) (And.intro (@lk_43) (And.intro (@lk_72) (And.intro (@AM.op_clear) (And.intro (@AM.op_fieldAddr) (And.intro (@AM.op_load) (@AM.op_nilCheck))))))))))) := And.intro (@AM.fa_ptr) (And.intro (@fd_45_1) (And.intro (@AM.ldO_agg) (And.intro (@AM.ldO_one) (And.intro (@AM.ld_ptr) (And.intro (@lk_43) (And.intro (@lk_72) (And.intro (@AM.op_clear) (And.intro (@AM.op_fieldAddr) (And.intro (@AM.op_load) (@AM.op_nilCheck))))))))))
theorem b28_IH6 : type_of% (And.intro (@List.map_toArray.{0,0}) (And.intro (@Option.isNone_none.{0}) (And.intro (@Option.isNone_some.{0}) (And.intro (AM.bin_pnil ul_72) (And.intro (@AM.boxK_agg) (And.intro (@AM.boxK_bool) (And.intro (@AM.boxK_func) (And.intro (@AM.boxK_int) (And.intro (@AM.boxK_map) (And.intro (@AM.boxK_pointer) (And.intro (@AM.boxK_slice) (And.intro (@AM.boxK_string) (And.intro (@AM.ldO_agg) (And.intro (@AM.ldO_one) (And.intro (@AM.ld_ptr) (And.intro (@lk_3) (And.intro (@lk_72) (And.intro (@AM.op_binOp) (And.intro (@AM.op_box) (And.intro (@AM.op_call) (And.intro (@AM.op_load) (And.intro (@AM.op_makeFunc) (And.intro (@AM.op_unOp) (And.intro (@AM.resL_two) (And.intro (@AM.un_neg) (@AM.un_not)))))))))))))))))))))))))) := And.intro (@List.map_toArray.{0,0}) (And.intro (@Option.isNone_none.{0}) (And.intro (@Option.isNone_some.{0}) (And.intro (AM.bin_pnil ul_72) (And.intro (@AM.boxK_agg) (And.intro (@AM.boxK_bool) (And.intro (@AM.boxK_func) (And.intro (@AM.boxK_int) (And.intro (@AM.boxK_map) (And.intro (@AM.boxK_pointer) (And.intro (@AM.boxK_slice) (And.intro (@AM.boxK_string) (And.intro (@AM.ldO_agg) (And.intro (@AM.ldO_one) (And.intro (@AM.ld_ptr) (And.intro (@lk_3) (And.intro (@lk_72) (And.intro (@AM.op_binOp) (And.intro (@AM.op_box) (And.intro (@AM.op_call) (And.intro (@AM.op_load) (And.intro (@AM.op_makeFunc) (And.intro (@AM.op_unOp) (And.intro (@AM.resL_two) (And.intro (@AM.un_neg) (@AM.un_not)))))))))))))))))))))))))
theorem b24_IH6 : type_of% (And.intro (@List.map_toArray.{0,0}) (And.intro (@Option.isNone_none.{0}) (And.intro (@Option.isNone_some.{0}) (And.intro (@AM.bin_geq) (And.intro (@AM.bin_lss) (And.intro (AM.bin_pnil ul_72) (And.intro (@AM.boxK_agg) (And.intro (@AM.boxK_bool) (And.intro (@AM.boxK_func) (And.intro (@AM.boxK_int) (And.intro (@AM.boxK_map) (And.intro (@AM.boxK_pointer) (And.intro (@AM.boxK_slice) (And.intro (@AM.boxK_string) (And.intro (@AM.ldO_agg) (And.intro (@AM.ldO_one) (And.intro (@AM.ld_ptr) (And.intro (@lk_3) (And.intro (@lk_72) (And.intro (@AM.op_binOp) (And.intro (@AM.op_box) (And.intro (@AM.op_call) (And.intro (@AM.op_load) (And.intro (@AM.op_makeFunc) (And.intro (@AM.op_unOp) (And.intro (@AM.resL_two) (And.intro (@AM.un_neg) (@AM.un_not)))))))))))))))))))))))))))) := And.intro (@List.map_toArray.{0,0}) (And.intro (@Option.isNone_none.{0}) (And.intro (@Option.isNone_some.{0}) (And.intro (@AM.bin_geq) (And.intro (@AM.bin_lss) (And.intro (AM.bin_pnil ul_72) (And.intro (@AM.boxK_agg) (And.intro (@AM.boxK_bool) (And.intro (@AM.boxK_func) (And.intro (@AM.boxK_int) (And.intro (@AM.boxK_map) (And.intro (@AM.boxK_pointer) (And.intro (@AM.boxK_slice) (And.intro (@AM.boxK_string) (And.intro (@AM.ldO_agg) (And.intro (@AM.ldO_one) (And.intro (@AM.ld_ptr) (And.intro (@lk_3) (And.intro (@lk_72) (And.intro (@AM.op_binOp) (And.intro (@AM.op_box) (And.intro (@AM.op_call) (And.intro (@AM.op_load) (And.intro (@AM.op_makeFunc) (And.intro (@AM.op_unOp) (And.intro (@AM.resL_two) (And.intro (@AM.un_neg) (@AM.un_not)))))))))))))))))))))))))))
theorem b27_IH6 : type_of% (And.intro (@List.map_toArray.{0,0}) (And.intro (@Option.isNone_none.{0}) (And.intro (@Option.isNone_some.{0}) (And.intro (AM.bin_pnil' ul_72) (And.intro (@AM.boxK_agg) (And.intro (@AM.boxK_bool) (And.intro (@AM.boxK_func) (And.intro (@AM.boxK_int) (And.intro (@AM.boxK_map) (And.intro (@AM.boxK_pointer) (And.intro (@AM.boxK_slice) (And.intro (@AM.boxK_string) (And.intro (@AM.ldO_agg) (And.intro (@AM.ldO_one) (And.intro (@AM.ld_ptr) (And.intro (@lk_72) (And.intro (@AM.op_binOp) (And.intro (@AM.op_box) (And.intro (@AM.op_call) (And.intro (@AM.op_load) (@AM.op_makeFunc))))))))))))))))))))) := And.intro (@List.map_toArray.{0,0}) (And.intro (@Option.isNone_none.{0}) (And.intro (@Option.isNone_some.{0}) (And.intro (AM.bin_pnil' ul_72) (And.intro (@AM.boxK_agg) (And.intro (@AM.boxK_bool) (And.intro (@AM.boxK_func) (And.intro (@AM.boxK_int) (And.intro (@AM.boxK_map) (And.intro (@AM.boxK_pointer) (And.intro (@AM.boxK_slice) (And.intro (@AM.boxK_string) (And.intro (@AM.ldO_agg) (And.intro (@AM.ldO_one) (And.intro (@AM.ld_ptr) (And.intro (@lk_72) (And.intro (@AM.op_binOp) (And.intro (@AM.op_box) (And.intro (@AM.op_call) (And.intro (@AM.op_load) (@AM.op_makeFunc))))))))))))))))))))
theorem b45_IH6 : type_of% (And.intro (@List.map_toArray.{0,0}) (And.intro (@Option.isNone_none.{0}) (And.intro (@Option.isNone_some.{0}) (And.intro (AM.bin_pnil' ul_72) (And.intro (@AM.boxK_agg) (And.intro (@AM.boxK_bool) (And.intro (@AM.boxK_func) (And.intro (@AM.boxK_int) (And.intro (@AM.boxK_map) (And.intro (@AM.boxK_pointer) (And.intro (@AM.boxK_slice) (And.intro (@AM.boxK_string) (And.intro (@AM.ldO_agg) (And.intro (@AM.ldO_one) (And.intro (@AM.ld_ptr) (And.intro (@lk_72) (And.intro (@AM.op_binOp) (And.intro (@AM.op_box) (And.intro (@AM.op_call) (And.intro (@AM.op_load) (@AM.op_makeFunc))))))))))))))))))))) := And.intro (@List.map_toArray.{0,0}) (And.intro (@Option.isNone_none.{0}) (And.intro (@Option.isNone_some.{0}) (And.intro (AM.bin_pnil' ul_72) (And.intro (@AM.boxK_agg) (And.intro (@AM.boxK_bool) (And.intro (@AM.boxK_func) (And.intro (@AM.boxK_int) (And.intro (@AM.boxK_map) (And.intro (@AM.boxK_pointer) (And.intro (@AM.boxK_slice) (And.intro (@AM.boxK_string) (And.intro (@AM.ldO_agg) (And.intro (@AM.ldO_one) (And.intro (@AM.ld_ptr) (And.intro (@lk_72) (And.intro (@AM.op_binOp) (And.intro (@AM.op_box) (And.intro (@AM.op_call) (And.intro (@AM.op_load) (@AM.op_makeFunc))))))))))))))))))))


/-- A holder in memory: where its map lies, if it has one. -/
def own (p : Nat) (mo : Option Nat) (id : Nat) : Prop := id = p ∨ mo = some id
def Hd (h : AHeap) (p : Nat) (mo : Option Nat) (o : Int) (L : IL) : Prop :=
  h.get p = some (.cells [.int .i64 o, .map mo] 45 false) ∧ h.low ≤ p ∧ mo ≠ some p ∧
    match mo with
    | none => L = []
    | some m => h.get m = some (.map (encM (vL L))) ∧ h.low ≤ m
theorem Hd.fr {S : Nat → Prop} {h h' : AHeap} {p : Nat} {mo : Option Nat} {o : Int} {L : IL} (x : Hd h p mo o L) (fr : Fr S h h') (hS : ∀ id, own p mo id → ¬ S id) : Hd h' p mo o L := by
  obtain ⟨g, hl, hne, hm⟩ := x
  refine ⟨fr.get g (hS p (.inl rfl)), by rw [fr.low]; exact hl, hne, ?_⟩
  cases mo with
  | none => exact hm
  | some m => exact ⟨fr.get hm.1 (hS m (.inr rfl)), by rw [fr.low]; exact hm.2⟩
theorem Hd.fr0 {h h' : AHeap} {p : Nat} {mo : Option Nat} {o : Int} {L : IL} (x : Hd h p mo o L) (fr : Fr none' h h') : Hd h' p mo o L := x.fr fr fun _ _ q => q
theorem Hd.lt {h : AHeap} {p : Nat} {mo : Option Nat} {o : Int} {L : IL} (x : Hd h p mo o L) {id : Nat} (hi : own p mo id) : id < h.next := by
  obtain ⟨g, hl, hne, hm⟩ := x
  rcases hi with rfl | rfl
  · exact AM.get_some_lt g
  · exact AM.get_some_lt hm.1

theorem now_w {h : AHeap} {p : Nat} {mo : Option Nat} {o : Int} {L : IL} (x : Hd h p mo o L) (ok : okI L) {Q : VQ} (hq : Q (.int .i64 (nowL o L)) h) : W 25 [pv p] h Q := by
  obtain ⟨g, hl, hne, hm⟩ := x
  refine AM.callW_prim hp (p := pNow) (by unfold prims; rfl) ⟨0, ?_⟩ hq
  show pNow _ _ _ = _
  unfold pNow
  have hl' := hl
  cases mo with
  | none =>
    subst hm
    simp only [Array.toList_empty, List.nil_append, List.append_nil, pv, g]
    simp [hl', nowL]
  | some m =>
    simp only [Array.toList_empty, List.nil_append, List.append_nil, pv, g]
    simp only [List.getElem?_cons_zero, List.getElem?_cons_succ, hm.1, hl', ok.es, and_self, if_true, nowL]
    simp [encM, vL, List.map_map, Function.comp_def, valOf]
theorem fromL_len (L : IL) : (fromL L).length = L.length := by simp [fromL]
theorem from_w {h : AHeap} {p : Nat} {mo : Option Nat} {o : Int} {L : IL} (x : Hd h p mo o L) (ok : okI L) {Q : VQ}
    (hq : ∀ v h', Ow h' 3 1 v L.length ((fromL L).map (.int .i64)) → Fr none' h h' → (∀ id, idOf v id → h.next ≤ id) → Q v h') : W 26 [pv p] h Q := by
  obtain ⟨g, hl, hne, hm⟩ := x
  have hlow : h.low ≤ h.next := by have := AM.get_some_lt g; omega
  have key : ∃ v h', pFrom (callE Try.prog prims 0) [pv p] h = some (v, h') ∧ Q v h' := by
    unfold pFrom
    have hl' := hl
    cases mo with
    | none =>
      subst hm
      refine ⟨.slice none 0 0, h, ?_, hq _ _ (by simpa [fromL] using Ow.nil h 3 1) (Fr.refl _ _) (fun id q => q.elim)⟩
      simp only [pv, g]
      simp [hl']
    | some m =>
      by_cases h0 : L.length = 0
      · have := List.eq_nil_of_length_eq_zero h0
        subst this
        refine ⟨.slice none 0 0, h, ?_, hq _ _ (by simpa [fromL] using Ow.nil h 3 1) (Fr.refl _ _) (fun id q => q.elim)⟩
        have e := ok.es
        simp only [pv, g]
        simp only [List.getElem?_cons_zero, List.getElem?_cons_succ, hm.1, hl', e, and_self, if_true]
        rfl
      · have hle : (encM (vL L)).length = L.length := by simp [encM, vL]
        have hk : ((encM (vL L)).map fun p => valOf p.1) = L.map (·.1) := by simp [encM, vL, List.map_map, Function.comp_def, valOf]
        refine ⟨sliceTo h.next 0 L.length L.length, h.alloc (.cells ((fromL L).map (.int .i64)) 3 true), ?_, hq _ _ ?_ ((Fr.refl _ _).alloc _) (fun id q => by have q : id = h.next := q; omega)⟩
        · simp only [pv, g]
          simp only [List.getElem?_cons_zero, List.getElem?_cons_succ, hm.1, hl', ok.es, and_self, if_true, hle, if_neg h0, hk]
          rfl
        · have hfl := fromL_len L
          refine .inr ⟨h.next, 0, L.length, (fromL L).map (.int .i64), true, rfl, Nat.le_refl _, by rw [AHeap.get_alloc, if_pos rfl], by simp [hfl], by simp [List.take_of_length_le, hfl], hlow⟩
  obtain ⟨v, h', e, q⟩ := key
  exact AM.callW_prim hp (p := pFrom) (by unfold prims; rfl) ⟨0, e⟩ q
/-- What a call of a holder leaves. -/
def HdTo (h : AHeap) (p : Nat) (mo : Option Nat) (o : Int) (L : IL) (K : AHeap → Prop) : Prop :=
  ∀ h' mo', Hd h' p mo' o L → Fr (own p mo) h h' → (∀ id, mo' = some id → mo = some id ∨ h.next ≤ id) → K h'

theorem turned_w {h : AHeap} {p : Nat} {mo : Option Nat} {o o' : Int} {L L' : IL} {f : Value} (x : Hd h p mo o L) (ok : okI L) (ok' : okI L')
    (hf : ∀ Q : VQ, HdTo h p mo o' L' (fun h' => Q (.tuple #[]) h') → CallW Try.prog prims f [] h Q) {Q : VQ} (hq : HdTo h p mo o' L' fun h' => Q (.bool (decide (nowL o' L' ≠ nowL o L))) h') : W 58 [pv p, f] h Q := by
  refine AM.enter hp (fn := Try.f58) (rs := [.tmp 4]) (nt := 14) (by kernel_rfl) Try.func58 rfl rfl rfl (by kernel_rfl) ?_
  simp (maxSteps := 1000000) (disch := first | omega | (simp only [AM.DB, List.length_set, List.length_map]; first | done | omega)) only [AM.RB, Nat.reduceAdd, Nat.reduceMul, Nat.reduceEqDiff, reduceCtorEq, b58_IH6]
  refine now_w x ok ?_
  simp (maxSteps := 1000000) (disch := first | omega | (simp only [AM.DB, List.length_set, List.length_map]; first | done | omega)) only [AM.RB, Nat.reduceAdd, Nat.reduceMul, Nat.reduceEqDiff, reduceCtorEq, b58_IH6]
  refine hf _ fun h1 mo1 x1 fr1 hm1 => ?_
  simp (maxSteps := 1000000) (disch := first | omega | (simp only [AM.DB, List.length_set, List.length_map]; first | done | omega)) only [AM.RB, Nat.reduceAdd, Nat.reduceMul, Nat.reduceEqDiff, reduceCtorEq, b58_IH6]
  refine now_w x1 ok' ?_
  simp (maxSteps := 1000000) (disch := first | omega | (simp only [AM.DB, List.length_set, List.length_map]; first | done | omega)) only [AM.RB, Nat.reduceAdd, Nat.reduceMul, Nat.reduceEqDiff, reduceCtorEq, b58_IH6]
  have e : (!decide (nowL o' L' = nowL o L)) = decide (nowL o' L' ≠ nowL o L) := by simp
  first
    | exact hq h1 mo1 x1 fr1 hm1
    | (rw [e]; exact hq h1 mo1 x1 fr1 hm1)
    | (have := hq h1 mo1 x1 fr1 hm1; simpa using this)

theorem own1_w {h : AHeap} {p a b : Nat} {mo : Option Nat} {o v : Int} {L : IL} {e1 e2 : TypeId} {o1 o2 : Bool} (x : Hd h p mo o L) (g1 : h.get a = some (.cells [.int .i64 v] e1 o1)) (g2 : h.get b = some (.cells [pv p] e2 o2)) {Q : VQ} (hq : HdTo h p mo v L fun h' => Q (.tuple #[]) h') :
    CallW Try.prog prims (.func (.func 63) #[] #[pv a, pv b]) [] h Q := by
  obtain ⟨g, hl, hne, hm⟩ := x
  have hlt := AM.get_some_lt g
  refine AM.enter hp (fn := Try.f63) (rs := []) (nt := 6) (by kernel_rfl) Try.func63 rfl rfl rfl (by kernel_rfl) ?_
  simp (maxSteps := 1000000) (disch := first | omega | (simp only [AM.DB, List.length_set, List.length_map]; first | done | omega)) only [AM.RB, Nat.reduceAdd, Nat.reduceMul, Nat.reduceEqDiff, reduceCtorEq, b63_IH6, g1, g2, g]
  refine hq _ mo ⟨AM.get_put_self rfl hlt, hl, hne, ?_⟩ ((Fr.refl _ _).put _ (.inr (.inl rfl))) (fun id e => .inl e)
  cases mo with
  | none => exact hm
  | some m => exact ⟨by rw [AM.get_put_ne (fun e => hne (by rw [e]))]; exact hm.1, hm.2⟩
theorem give1_w {h : AHeap} {p a b c : Nat} {mo : Option Nat} {o v r : Int} {L : IL} {e1 e2 e3 : TypeId} {o1 o2 o3 : Bool} (x : Hd h p mo o L) (g1 : h.get a = some (.cells [pv p] e1 o1)) (g2 : h.get b = some (.cells [.int .i64 v] e2 o2)) (g3 : h.get c = some (.cells [.int .i64 r] e3 o3)) (ha : a ≠ p) (hb : b ≠ p) (hc : c ≠ p) {Q : VQ} (hq : HdTo h p mo o (setI L r v) fun h' => Q (.tuple #[]) h') :
    CallW Try.prog prims (.func (.func 59) #[] #[pv a, pv b, pv c]) [] h Q := by
  obtain ⟨g, hl, hne, hm⟩ := x
  have hlt := AM.get_some_lt g
  refine AM.enter hp (fn := Try.f59) (rs := []) (nt := 18) (by kernel_rfl) Try.func59 rfl rfl rfl (by kernel_rfl) ?_
  cases mo with
  | none =>
    have hL : L = [] := hm
    subst hL
    simp (maxSteps := 1000000) (disch := first | omega | (simp only [AM.DB, List.length_set, List.length_map]; first | done | omega)) only [AM.RB, Nat.reduceAdd, Nat.reduceMul, Nat.reduceEqDiff, reduceCtorEq, b59_IH6, g1, g2, g3, g]
    generalize hE_ : AHeap.put (h.alloc (.map [])) p _ = h3
    obtain ⟨g4, fr4, n4, l4⟩ := AM.put_get hE_ (by rw [AHeap.next_alloc]; omega)
    clear hE_
    have al : ∀ {id : Nat} {x : AObj}, h.get id = some x → id ≠ p → h3.get id = some x := fun {id x} e q => fr4.get (by rw [AM.get_alloc_ne (Nat.ne_of_lt (AM.get_some_lt e))]; exact e) q
    have ga := al g1 ha
    have gb := al g2 hb
    have gc := al g3 hc
    have gm : h3.get h.next = some (.map (encM (vL []))) := fr4.get (AM.get_alloc_self rfl) (fun e => by have e : h.next = p := e; omega)
    rw [AHeap.next_alloc] at n4
    rw [AHeap.low_alloc] at l4
    have lm : h3.low ≤ h.next := by omega
    (repeat' (first | (simp (maxSteps := 1000000) (disch := first | omega | (simp only [AM.DB, List.length_set, List.length_map]; first | done | omega)) only [AM.RB, Nat.reduceAdd, Nat.reduceMul, Nat.reduceEqDiff, reduceCtorEq, b59_IH6, ga, gb, gc, g4, AM.update_enc mp_43 gm lm]) | refine AM.drawW_fine hp (by kernel_rfl) (by kernel_rfl) (by kernel_rfl) ?_ | refine AM.opW_tied (by kernel_rfl) ?_ | refine AM.opW_untied (by kernel_rfl) ?_))
    rw [vL_set]
    refine hq _ (some h.next) ⟨by rw [AM.get_put_ne (by omega)]; exact g4, by simp only [AHeap.low_put]; omega, fun e => by cases e; omega, AM.get_put_self rfl (by omega), lm⟩ ?_ (fun id e => .inr (by cases e; exact Nat.le_refl _))
    have fr5 : Fr (own p none) h h3 := ((Fr.refl _ _).alloc _).then fr4 fun id _ e => .inl e
    exact fr5.put _ (.inl (Nat.le_refl _))
  | some m =>
    have gm := hm.1
    have lm := hm.2
    have hltm := AM.get_some_lt gm
    have hmp : p ≠ m := fun e => hne (by rw [e])
    (repeat' (first | (simp (maxSteps := 1000000) (disch := first | omega | (simp only [AM.DB, List.length_set, List.length_map]; first | done | omega)) only [AM.RB, Nat.reduceAdd, Nat.reduceMul, Nat.reduceEqDiff, reduceCtorEq, b59_IH6, g1, g2, g3, g, AM.update_enc mp_43 gm lm]) | refine AM.drawW_fine hp (by kernel_rfl) (by kernel_rfl) (by kernel_rfl) ?_ | refine AM.opW_tied (by kernel_rfl) ?_ | refine AM.opW_untied (by kernel_rfl) ?_))
    rw [vL_set]
    exact hq _ (some m) ⟨by rw [AM.get_put_ne hmp]; exact g, hl, hne, AM.get_put_self rfl hltm, lm⟩ ((Fr.refl _ _).put _ (.inr (.inr rfl))) (fun id e => .inl e)
theorem back1_w {h : AHeap} {p a b : Nat} {mo : Option Nat} {o r : Int} {L : IL} {e1 e2 : TypeId} {o1 o2 : Bool} (x : Hd h p mo o L) (g1 : h.get a = some (.cells [pv p] e1 o1)) (g2 : h.get b = some (.cells [.int .i64 r] e2 o2)) {Q : VQ} (hq : HdTo h p mo o (delI L r) fun h' => Q (.tuple #[]) h') :
    CallW Try.prog prims (.func (.func 62) #[] #[pv a, pv b]) [] h Q := by
  obtain ⟨g, hl, hne, hm⟩ := x
  have hlt := AM.get_some_lt g
  refine AM.enter hp (fn := Try.f62) (rs := []) (nt := 7) (by kernel_rfl) Try.func62 rfl rfl rfl (by kernel_rfl) ?_
  cases mo with
  | none =>
    have hL : L = [] := hm
    subst hL
    (repeat' (first | (simp (maxSteps := 1000000) (disch := first | omega | (simp only [AM.DB, List.length_set, List.length_map]; first | done | omega)) only [AM.RB, Nat.reduceAdd, Nat.reduceMul, Nat.reduceEqDiff, reduceCtorEq, b62_IH6, g1, g2, g, AM.delete_nil mp_43]) | refine AM.drawW_fine hp (by kernel_rfl) (by kernel_rfl) (by kernel_rfl) ?_ | refine AM.opW_tied (by kernel_rfl) ?_ | refine AM.opW_untied (by kernel_rfl) ?_))
    exact hq _ none ⟨g, hl, hne, rfl⟩ (Fr.refl _ _) (fun id e => .inl e)
  | some m =>
    have gm := hm.1
    have lm := hm.2
    have hltm := AM.get_some_lt gm
    have hmp : p ≠ m := fun e => hne (by rw [e])
    (repeat' (first | (simp (maxSteps := 1000000) (disch := first | omega | (simp only [AM.DB, List.length_set, List.length_map]; first | done | omega)) only [AM.RB, Nat.reduceAdd, Nat.reduceMul, Nat.reduceEqDiff, reduceCtorEq, b62_IH6, g1, g2, g, AM.delete_enc mp_43 gm lm]) | refine AM.drawW_fine hp (by kernel_rfl) (by kernel_rfl) (by kernel_rfl) ?_ | refine AM.opW_tied (by kernel_rfl) ?_ | refine AM.opW_untied (by kernel_rfl) ?_))
    cases hg : getI L r with
    | none =>
      rw [delI_none hg] at hq
      rw [vL_get, hg, if_neg (by simp)]
      exact hq _ (some m) ⟨g, hl, hne, gm, lm⟩ (Fr.refl _ _) (fun id e => .inl e)
    | some v =>
      rw [vL_get, hg, if_pos (by simp), vL_del]
      exact hq _ (some m) ⟨by rw [AM.get_put_ne hmp]; exact g, hl, hne, AM.get_put_self rfl hltm, lm⟩ ((Fr.refl _ _).put _ (.inr (.inr rfl))) (fun id e => .inl e)
theorem clear1_w {h : AHeap} {p a : Nat} {mo : Option Nat} {o : Int} {L : IL} {e1 : TypeId} {o1 : Bool} (x : Hd h p mo o L) (g1 : h.get a = some (.cells [pv p] e1 o1)) {Q : VQ} (hq : HdTo h p mo o [] fun h' => Q (.tuple #[]) h') :
    CallW Try.prog prims (.func (.func 68) #[] #[pv a]) [] h Q := by
  obtain ⟨g, hl, hne, hm⟩ := x
  have hlt := AM.get_some_lt g
  refine AM.enter hp (fn := Try.f68) (rs := []) (nt := 5) (by kernel_rfl) Try.func68 rfl rfl rfl (by kernel_rfl) ?_
  cases mo with
  | none =>
    (first | (simp (maxSteps := 1000000) (disch := first | omega | (simp only [AM.DB, List.length_set, List.length_map]; first | done | omega)) only [AM.RB, Nat.reduceAdd, Nat.reduceMul, Nat.reduceEqDiff, reduceCtorEq, b68_IH6, g1, g, AM.clear_nilmap mp_43]) | skip)
    exact hq _ none ⟨g, hl, hne, rfl⟩ (Fr.refl _ _) (fun id e => .inl e)
  | some m =>
    have gm := hm.1
    have lm := hm.2
    have hltm := AM.get_some_lt gm
    have hmp : p ≠ m := fun e => hne (by rw [e])
    (first | (simp (maxSteps := 1000000) (disch := first | omega | (simp only [AM.DB, List.length_set, List.length_map]; first | done | omega)) only [AM.RB, Nat.reduceAdd, Nat.reduceMul, Nat.reduceEqDiff, reduceCtorEq, b68_IH6, g1, g, AM.clear_map mp_43 gm lm]) | skip)
    exact hq _ (some m) ⟨by rw [AM.get_put_ne hmp]; exact g, hl, hne, AM.get_put_self rfl hltm, lm⟩ ((Fr.refl _ _).put _ (.inr (.inr rfl))) (fun id e => .inl e)

theorem two_new (h : AHeap) (c1 c2 : List Value) (e1 e2 : TypeId) : ∃ h2, (h.alloc (.cells c1 e1 false)).alloc (.cells c2 e2 false) = h2 ∧ h2.get h.next = some (.cells c1 e1 false) ∧ h2.get (h.next + 1) = some (.cells c2 e2 false) ∧ Fr none' h h2 ∧ h2.next = h.next + 2 ∧ h2.low = h.low := by
  refine ⟨_, rfl, ?_, ?_, ((Fr.refl _ _).alloc _).alloc _, rfl, rfl⟩
  · rw [AM.get_alloc_ne (by simp), AM.get_alloc_self rfl]
  · rw [AM.get_alloc_self (by simp)]
theorem three_new (h : AHeap) (c1 c2 c3 : List Value) (e1 e2 e3 : TypeId) : ∃ h2, ((h.alloc (.cells c1 e1 false)).alloc (.cells c2 e2 false)).alloc (.cells c3 e3 false) = h2 ∧ h2.get h.next = some (.cells c1 e1 false) ∧ h2.get (h.next + 1) = some (.cells c2 e2 false) ∧ h2.get (h.next + 1 + 1) = some (.cells c3 e3 false) ∧ Fr none' h h2 ∧ h2.next = h.next + 3 ∧ h2.low = h.low := by
  refine ⟨_, rfl, ?_, ?_, ?_, (((Fr.refl _ _).alloc _).alloc _).alloc _, rfl, rfl⟩
  · rw [AM.get_alloc_ne (by simp; omega), AM.get_alloc_ne (by simp), AM.get_alloc_self rfl]
  · rw [AM.get_alloc_ne (by simp), AM.get_alloc_self (by simp)]
  · rw [AM.get_alloc_self (by simp)]
theorem HdTo.lift {h h2 : AHeap} {p : Nat} {mo : Option Nat} {o : Int} {L : IL} {K : AHeap → Prop} (hk : HdTo h p mo o L K) (fr : Fr none' h h2) : HdTo h2 p mo o L K :=
  fun h' mo' x fr' hm => hk h' mo' x (fr.weak.then fr' fun _ _ q => q) (fun i e => (hm i e).imp (fun q => q) (fun q => Nat.le_trans fr.next q))
theorem HdTo.mono {h : AHeap} {p : Nat} {mo : Option Nat} {o : Int} {L : IL} {K K' : AHeap → Prop} (hk : HdTo h p mo o L K) (h1 : ∀ h', K h' → K' h') : HdTo h p mo o L K' :=
  fun h' mo' x fr' hm => h1 _ (hk h' mo' x fr' hm)

theorem own_w {h : AHeap} {p : Nat} {mo : Option Nat} {o : Int} {L : IL} (x : Hd h p mo o L) (ok : okI L) (v : Int) {Q : VQ}
    (hbad : ¬ (0 ≤ v ∧ v ≤ 15) → ∀ h', Fr none' h h' → Q (.tuple #[.bool false, .int .i64 2]) h')
    (hgood : 0 ≤ v ∧ v ≤ 15 → HdTo h p mo v L fun h' => Q (.tuple #[.bool (decide (nowL v L ≠ nowL o L)), .int .i64 0]) h') : W 28 [pv p, .int .i64 v] h Q := by
  refine AM.enter hp (fn := Try.f28) (rs := [.tmp 4, .tmp 5]) (nt := 16) (by kernel_rfl) Try.func28 rfl rfl rfl (by kernel_rfl) ?_
  simp (maxSteps := 1000000) (disch := first | omega | (simp only [AM.DB, List.length_set, List.length_map]; first | done | omega)) only [AM.RB, Nat.reduceAdd, Nat.reduceMul, Nat.reduceEqDiff, reduceCtorEq, b28_IH6]
  obtain ⟨h2, e2, ga, gb, fr2, n2, l2⟩ := two_new h [pv p] [.int .i64 v] 72 3
  rw [e2]
  have x2 := x.fr0 fr2
  refine may_w v _ _ ?_
  by_cases hv : 0 ≤ v ∧ v ≤ 15
  · have d1 : decide (0 ≤ v ∧ v ≤ 15) = true := decide_eq_true hv
    (first | (simp (maxSteps := 1000000) (disch := first | omega | (simp only [AM.DB, List.length_set, List.length_map]; first | done | omega)) only [AM.RB, Nat.reduceAdd, Nat.reduceMul, Nat.reduceEqDiff, reduceCtorEq, b28_IH6, d1, ga, gb]) | skip)
    refine turned_w x2 ok ok (fun Q' hq' => own1_w x2 gb ga hq') (((hgood hv).lift fr2).mono fun h3 q => ?_)
    (first | (simp (maxSteps := 1000000) (disch := first | omega | (simp only [AM.DB, List.length_set, List.length_map]; first | done | omega)) only [AM.RB, Nat.reduceAdd, Nat.reduceMul, Nat.reduceEqDiff, reduceCtorEq, b28_IH6]) | skip)
    exact q
  · have d1 : decide (0 ≤ v ∧ v ≤ 15) = false := decide_eq_false hv
    (first | (simp (maxSteps := 1000000) (disch := first | omega | (simp only [AM.DB, List.length_set, List.length_map]; first | done | omega)) only [AM.RB, Nat.reduceAdd, Nat.reduceMul, Nat.reduceEqDiff, reduceCtorEq, b28_IH6, d1]) | skip)
    exact hbad hv _ fr2
theorem give_w {h : AHeap} {p : Nat} {mo : Option Nat} {o : Int} {L : IL} (x : Hd h p mo o L) (ok : okI L) (r v : Int) {Q : VQ}
    (hbad : ¬ fitI (r, v) → ∀ h', Fr none' h h' → Q (.tuple #[.bool false, .int .i64 2]) h')
    (hgood : fitI (r, v) → HdTo h p mo o (setI L r v) fun h' => Q (.tuple #[.bool (decide (nowL o (setI L r v) ≠ nowL o L)), .int .i64 0]) h') : W 24 [pv p, .int .i64 r, .int .i64 v] h Q := by
  refine AM.enter hp (fn := Try.f24) (rs := [.tmp 6, .tmp 7]) (nt := 26) (by kernel_rfl) Try.func24 rfl rfl rfl (by kernel_rfl) ?_
  simp (maxSteps := 1000000) (disch := first | omega | (simp only [AM.DB, List.length_set, List.length_map]; first | done | omega)) only [AM.RB, Nat.reduceAdd, Nat.reduceMul, Nat.reduceEqDiff, reduceCtorEq, b24_IH6]
  obtain ⟨h2, e2, ga, gb, gc, fr2, n2, l2⟩ := three_new h [pv p] [.int .i64 r] [.int .i64 v] 72 3 3
  rw [e2]
  have x2 := x.fr0 fr2
  have hlt := AM.get_some_lt x.1
  have base : ∀ id, id = h.next ∨ id = h.next + 1 ∨ id = h.next + 1 + 1 → id ≠ p := fun id q => by omega
  by_cases h0 : r < 0
  · have d0 : decide (r < 0) = true := decide_eq_true h0
    (first | (simp (maxSteps := 1000000) (disch := first | omega | (simp only [AM.DB, List.length_set, List.length_map]; first | done | omega)) only [AM.RB, Nat.reduceAdd, Nat.reduceMul, Nat.reduceEqDiff, reduceCtorEq, b24_IH6, d0]) | skip)
    exact hbad (fun q => by have := q.1.1; simp only at this; omega) _ fr2
  have d0 : decide (r < 0) = false := decide_eq_false h0
  by_cases h1 : 64 ≤ r
  · have d1 : decide (64 ≤ r) = true := decide_eq_true h1
    (first | (simp (maxSteps := 1000000) (disch := first | omega | (simp only [AM.DB, List.length_set, List.length_map]; first | done | omega)) only [AM.RB, Nat.reduceAdd, Nat.reduceMul, Nat.reduceEqDiff, reduceCtorEq, b24_IH6, d0, gb, d1]) | skip)
    exact hbad (fun q => by have := q.1.2; simp only at this; omega) _ fr2
  have d1 : decide (64 ≤ r) = false := decide_eq_false h1
  (first | (simp (maxSteps := 1000000) (disch := first | omega | (simp only [AM.DB, List.length_set, List.length_map]; first | done | omega)) only [AM.RB, Nat.reduceAdd, Nat.reduceMul, Nat.reduceEqDiff, reduceCtorEq, b24_IH6, d0, gb, d1, gc]) | skip)
  refine may_w v _ _ ?_
  by_cases hv : 0 ≤ v ∧ v ≤ 15
  · have d2 : decide (0 ≤ v ∧ v ≤ 15) = true := decide_eq_true hv
    have fit : fitI (r, v) := ⟨⟨by simp only; omega, by simp only; omega⟩, hv⟩
    (first | (simp (maxSteps := 1000000) (disch := first | omega | (simp only [AM.DB, List.length_set, List.length_map]; first | done | omega)) only [AM.RB, Nat.reduceAdd, Nat.reduceMul, Nat.reduceEqDiff, reduceCtorEq, b24_IH6, d2, ga, gb, gc]) | skip)
    refine turned_w x2 ok (ok.set fit) (fun Q' hq' => give1_w x2 ga gc gb (base _ (.inl rfl)) (base _ (.inr (.inr rfl))) (base _ (.inr (.inl rfl))) hq') (((hgood fit).lift fr2).mono fun h3 q => ?_)
    (first | (simp (maxSteps := 1000000) (disch := first | omega | (simp only [AM.DB, List.length_set, List.length_map]; first | done | omega)) only [AM.RB, Nat.reduceAdd, Nat.reduceMul, Nat.reduceEqDiff, reduceCtorEq, b24_IH6]) | skip)
    exact q
  · have d2 : decide (0 ≤ v ∧ v ≤ 15) = false := decide_eq_false hv
    (first | (simp (maxSteps := 1000000) (disch := first | omega | (simp only [AM.DB, List.length_set, List.length_map]; first | done | omega)) only [AM.RB, Nat.reduceAdd, Nat.reduceMul, Nat.reduceEqDiff, reduceCtorEq, b24_IH6, d2]) | skip)
    exact hbad (fun q => hv q.2) _ fr2
theorem back_w {h : AHeap} {p : Nat} {mo : Option Nat} {o : Int} {L : IL} (x : Hd h p mo o L) (ok : okI L) (r : Int) {Q : VQ}
    (hgood : HdTo h p mo o (delI L r) fun h' => Q (.bool (decide (nowL o (delI L r) ≠ nowL o L))) h') : W 27 [pv p, .int .i64 r] h Q := by
  refine AM.enter hp (fn := Try.f27) (rs := [.tmp 4]) (nt := 12) (by kernel_rfl) Try.func27 rfl rfl rfl (by kernel_rfl) ?_
  simp (maxSteps := 1000000) (disch := first | omega | (simp only [AM.DB, List.length_set, List.length_map]; first | done | omega)) only [AM.RB, Nat.reduceAdd, Nat.reduceMul, Nat.reduceEqDiff, reduceCtorEq, b27_IH6]
  obtain ⟨h2, e2, ga, gb, fr2, n2, l2⟩ := two_new h [pv p] [.int .i64 r] 72 3
  rw [e2]
  have x2 := x.fr0 fr2
  refine turned_w x2 ok (ok.del r) (fun Q' hq' => back1_w x2 ga gb hq') ((hgood.lift fr2).mono fun h3 q => ?_)
  (first | (simp (maxSteps := 1000000) (disch := first | omega | (simp only [AM.DB, List.length_set, List.length_map]; first | done | omega)) only [AM.RB, Nat.reduceAdd, Nat.reduceMul, Nat.reduceEqDiff, reduceCtorEq, b27_IH6]) | skip)
  exact q
theorem hclear_w {h : AHeap} {p : Nat} {mo : Option Nat} {o : Int} {L : IL} (x : Hd h p mo o L) (ok : okI L) {Q : VQ}
    (hgood : HdTo h p mo o [] fun h' => Q (.bool (decide (nowL o [] ≠ nowL o L))) h') : W 45 [pv p] h Q := by
  refine AM.enter hp (fn := Try.f45) (rs := [.tmp 2]) (nt := 10) (by kernel_rfl) Try.func45 rfl rfl rfl (by kernel_rfl) ?_
  simp (maxSteps := 1000000) (disch := first | omega | (simp only [AM.DB, List.length_set, List.length_map]; first | done | omega)) only [AM.RB, Nat.reduceAdd, Nat.reduceMul, Nat.reduceEqDiff, reduceCtorEq, b45_IH6]
  have fr2 : Fr none' h (h.alloc (.cells [pv p] 72 false)) := (Fr.refl _ _).alloc _
  have ga : (h.alloc (.cells [pv p] 72 false)).get h.next = some (.cells [pv p] 72 false) := AM.get_alloc_self rfl
  have x2 := x.fr0 fr2
  refine turned_w x2 ok okI_nil (fun Q' hq' => clear1_w x2 ga hq') ((hgood.lift fr2).mono fun h3 q => ?_)
  (first | (simp (maxSteps := 1000000) (disch := first | omega | (simp only [AM.DB, List.length_set, List.length_map]; first | done | omega)) only [AM.RB, Nat.reduceAdd, Nat.reduceMul, Nat.reduceEqDiff, reduceCtorEq, b45_IH6]) | skip)
  exact q
end Go.Proofs.Ytodcnfabnlojdaa

namespace Go.Proofs.Ytodcnfabnlojdaa
open Go.AM
set_option maxRecDepth 8000
/-- A holder made since h0. -/
def Hn (h0 h : AHeap) (p : Nat) (mo : Option Nat) (o : Int) (L : IL) : Prop := Hd h p mo o L ∧ Fr none' h0 h ∧ ∀ id, own p mo id → h0.next ≤ id
theorem Hn.step {h0 h : AHeap} {p : Nat} {mo : Option Nat} {o o' : Int} {L L' : IL} (x : Hn h0 h p mo o L) {K : AHeap → Prop} (k : ∀ h' mo', Hn h0 h' p mo' o' L' → K h') : HdTo h p mo o' L' K :=
  fun h' mo' x' fr' hm => k h' mo' ⟨x', x.2.1.fresh fr' x.2.2, fun id q => q.elim (fun e => x.2.2 id (.inl e)) fun e => (hm id e).elim (fun e' => x.2.2 id (.inr e')) (fun e' => Nat.le_trans x.2.1.next e')⟩
theorem Hn.fr0 {h0 h h' : AHeap} {p : Nat} {mo : Option Nat} {o : Int} {L : IL} (x : Hn h0 h p mo o L) (fr : Fr none' h h') : Hn h0 h' p mo o L := ⟨x.1.fr0 fr, x.2.1.trans fr, x.2.2⟩
theorem Hn.new (h : AHeap) (hl : h.low ≤ h.next) : Hn h (h.alloc (.cells [.int .i64 0, .map none] 45 false)) h.next none 0 [] :=
  ⟨⟨AM.get_alloc_self rfl, hl, by simp, rfl⟩, (Fr.refl _ _).alloc _, fun id q => q.elim (fun e => by omega) (fun e => by cases e)⟩

end Go.Proofs.Ytodcnfabnlojdaa

namespace Go.Proofs.Ytodcnfabnlojdaa
open Go.AM
set_option maxRecDepth 8000
theorem b44_IH12 : type_of% (And.intro (@AM.bin_add) (And.intro (@AM.bin_gtr) (And.intro (@AM.bin_lss) (And.intro (@AM.fa_ptr) (And.intro (@fd_80_0) (And.intro (@fd_80_1) (And.intro (@AM.iaA_ok) (And.intro (AM.ia_array ar_78) (And.intro (@AM.ldO_agg) (And.intro (@AM.ldO_one) (And.intro (@AM.ld_ptr) (And.intro (@lk_3) (And.intro (@AM.op_binOp) (And.intro (@AM.op_fieldAddr) (And.intro (@AM.op_indexAddr) (And.intro (@AM.op_load) (@AM.op_nilCheck))))))))))))))))) := And.intro (@AM.bin_add) (And.intro (@AM.bin_gtr) (And.intro (@AM.bin_lss) (And.intro (@AM.fa_ptr) (And.intro (@fd_80_0) (And.intro (@fd_80_1) (And.intro (@AM.iaA_ok) (And.intro (AM.ia_array ar_78) (And.intro (@AM.ldO_agg) (And.intro (@AM.ldO_one) (And.intro (@AM.ld_ptr) (And.intro (@lk_3) (And.intro (@AM.op_binOp) (And.intro (@AM.op_fieldAddr) (And.intro (@AM.op_indexAddr) (And.intro (@AM.op_load) (@AM.op_nilCheck))))))))))))))))


/-! ### The reference's holder: a priority, and of each robot what it gave -/
theorem getI_mem : ∀ {L : IL} {x v : Int}, getI L x = some v → (x, v) ∈ L
  | (k, w) :: l, x, v, h => by
    unfold getI at h
    split at h
    · rename_i e; subst e; cases h; exact List.mem_cons_self
    · exact List.mem_cons_of_mem _ (getI_mem h)
theorem getI_none_iff : ∀ {L : IL} {x : Int}, getI L x = none ↔ x ∉ L.map (·.1)
  | [], x => by simp [getI]
  | (k, w) :: l, x => by
    unfold getI
    split
    · rename_i e; subst e; simp
    · rename_i e; rw [getI_none_iff]; simp [e]
theorem mem_getI : ∀ {L : IL} {x v : Int}, (L.map (·.1)).Nodup → (x, v) ∈ L → getI L x = some v
  | (k, w) :: l, x, v, hn, hm => by
    simp only [List.map_cons, List.nodup_cons] at hn
    rcases List.mem_cons.1 hm with e | e
    · cases e; simp [getI]
    · unfold getI
      rw [if_neg (fun q => hn.1 (by rw [← q]; exact List.mem_map.2 ⟨_, e, rfl⟩))]
      exact mem_getI hn.2 e
def gI (L : IL) (x : Int) : Int := (getI L x).getD (-1)
theorem getI_set : ∀ (L : IL) (x v y : Int), getI (setI L x v) y = if y = x then some v else getI L y
  | [], x, v, y => by
    unfold setI getI
    split
    · rfl
    · rfl
  | (k, w) :: l, x, v, y => by
    unfold setI
    by_cases h : x = k
    · subst h
      rw [if_pos rfl]
      unfold getI
      by_cases h2 : y = x
      · subst h2; simp
      · simp [h2]
    · rw [if_neg h]
      unfold getI
      rw [getI_set l x v y]
      by_cases h2 : y = k
      · subst h2; rw [if_pos rfl, if_neg (fun e => h e.symm), if_pos rfl]
      · rw [if_neg h2, if_neg h2]
theorem getI_del : ∀ (L : IL) (x y : Int), (L.map (·.1)).Nodup → getI (delI L x) y = if y = x then none else getI L y
  | [], x, y, _ => by unfold delI getI; split <;> rfl
  | (k, w) :: l, x, y, hn => by
    simp only [List.map_cons, List.nodup_cons] at hn
    unfold delI
    by_cases h : x = k
    · subst h
      rw [if_pos rfl]
      by_cases h2 : y = x
      · subst h2; rw [if_pos rfl]; exact getI_none_iff.2 hn.1
      · rw [if_neg h2]; conv => rhs; unfold getI
        rw [if_neg h2]
    · rw [if_neg h]
      unfold getI
      rw [getI_del l x y hn.2]
      by_cases h2 : y = k
      · subst h2; rw [if_pos rfl, if_neg (fun e => h e.symm), if_pos rfl]
      · rw [if_neg h2, if_neg h2]
def Rh (h : AHeap) (q : Nat) (o : Int) (L : IL) : Prop :=
  ∃ c, h.get q = some (.cells c 80 false) ∧ h.low ≤ q ∧ c.length = 65 ∧ c[0]? = some (.int .i64 o) ∧ ∀ i : Nat, i < 64 → c[1 + i]? = some (.int .i64 (gI L i))
theorem Rh.fr {S : Nat → Prop} {h h' : AHeap} {q : Nat} {o : Int} {L : IL} (x : Rh h q o L) (fr : Fr S h h') (hS : ¬ S q) : Rh h' q o L := by
  obtain ⟨c, g, l, r⟩ := x
  exact ⟨c, fr.get g hS, by rw [fr.low]; exact l, r⟩
theorem Rh.fr0 {h h' : AHeap} {q : Nat} {o : Int} {L : IL} (x : Rh h q o L) (fr : Fr none' h h') : Rh h' q o L := x.fr fr fun q => q
theorem Rh.lt {h : AHeap} {q : Nat} {o : Int} {L : IL} (x : Rh h q o L) : q < h.next := by obtain ⟨c, g, _⟩ := x; exact AM.get_some_lt g
theorem Rh.set {h h' : AHeap} {q : Nat} {o : Int} {L L' : IL} {c : List Value} {k : Nat} {v : Int} (hl : h.low ≤ q) (hlen : c.length = 65) (h0 : c[0]? = some (.int .i64 o)) (hc : ∀ i : Nat, i < 64 → c[1 + i]? = some (.int .i64 (gI L i)))
    (g : h'.get q = some (.cells (c.set (1 + k) (.int .i64 v)) 80 false)) (lw : h'.low = h.low) (hk : k < 64) (hv : gI L' k = v) (ho : ∀ i : Nat, i < 64 → i ≠ k → gI L' i = gI L i) : Rh h' q o L' := by
  refine ⟨_, g, by omega, by simpa using hlen, by rw [List.getElem?_set, if_neg (by omega)]; exact h0, fun i hi => ?_⟩
  rw [List.getElem?_set]
  by_cases e : i = k
  · subst e; rw [if_pos rfl, if_pos (by omega), hv]
  · rw [if_neg (by omega), hc i hi, ho i hi e]

theorem le_nowL (o : Int) : ∀ (L : IL), o ≤ nowL o L ∧ (∀ q ∈ L, q.2 ≤ nowL o L) ∧ (nowL o L = o ∨ ∃ q ∈ L, q.2 = nowL o L)
  | [] => ⟨Int.le_refl _, by simp, .inl rfl⟩
  | q :: l => by
    obtain ⟨h1, h2, h3⟩ := le_nowL o l
    have e : nowL o (q :: l) = max q.2 (nowL o l) := rfl
    rw [e]
    refine ⟨by omega, fun r hr => ?_, ?_⟩
    · rcases List.mem_cons.1 hr with rfl | hr
      · omega
      · have := h2 r hr; omega
    · by_cases hq : q.2 ≤ nowL o l
      · rw [Int.max_eq_right hq]
        exact h3.imp id fun ⟨r, hr, e⟩ => ⟨r, List.mem_cons_of_mem _ hr, e⟩
      · exact .inr ⟨q, List.mem_cons_self, by omega⟩
theorem gI_le {L : IL} {o : Int} (h0 : 0 ≤ o) (x : Int) : gI L x ≤ nowL o L := by
  obtain ⟨h1, h2, _⟩ := le_nowL o L
  unfold gI
  cases hg : getI L x with
  | none => simp; omega
  | some v => exact h2 _ (getI_mem hg)
theorem nowL_of {L : IL} {o m : Int} (ok : okI L) (hm : o ≤ m) (hall : ∀ i : Nat, i < 64 → gI L i ≤ m) (hle : m ≤ nowL o L) : m = nowL o L := by
  obtain ⟨h1, h2, h3⟩ := le_nowL o L
  rcases h3 with h3 | ⟨⟨k, v⟩, hq, e⟩
  · omega
  · have hf := (ok.1 _ hq).1
    simp only at hf e
    have := hall k.toNat (by omega)
    rw [show ((k.toNat : Nat) : Int) = k by omega] at this
    unfold gI at this
    rw [mem_getI ok.2 hq] at this
    simp at this
    omega

theorem refNow_w {h : AHeap} {q : Nat} {o : Int} {L : IL} (x : Rh h q o L) (ok : okI L) (h0 : 0 ≤ o) {Q : VQ} (hq : Q (.int .i64 (nowL o L)) h) : W 44 [pv q] h Q := by
  obtain ⟨c, g, hl, hlen, hc0, hc⟩ := x
  refine AM.enter hp (fn := Try.f44) (rs := [.tmp 2]) (nt := 28) (by kernel_rfl) Try.func44 rfl rfl rfl (by kernel_rfl) ?_
  (first | (simp (maxSteps := 1000000) (disch := first | omega | (simp only [AM.DB, List.length_set, List.length_map]; first | done | omega)) only [AM.RB, Nat.reduceAdd, Nat.reduceMul, Nat.reduceEqDiff, reduceCtorEq, b44_IH12, g, hc0]) | skip)
  refine AM.loop_w hp 28 (fun p : Nat × Int => [(0, pv q), (3, .int .i64 p.2), (4, .int .i64 p.1)])
    (fun p h' => h' = h ∧ p.1 ≤ 64 ∧ o ≤ p.2 ∧ (∀ j : Nat, j < p.1 → gI L j ≤ p.2) ∧ p.2 ≤ nowL o L) (fun p => 64 - p.1) (by kernel_rfl) (0, o) ?_ ?_ ?_
  · simp (maxSteps := 1000000) (disch := first | omega | (simp only [AM.DB, List.length_set, List.length_map]; first | done | omega)) only [AM.RB, Nat.reduceAdd, Nat.reduceMul, Nat.reduceEqDiff, reduceCtorEq, b44_IH12]
    first | rfl | skip
  · exact ⟨rfl, Nat.zero_le _, Int.le_refl _, fun j hj => by simp only at hj; omega, (le_nowL o L).1⟩
  rintro ⟨i, m⟩ hh ρ ⟨rfl, hi, hm, hall, hle⟩
  simp only at hi hm hall hle
  simp (maxSteps := 1000000) (disch := first | omega | (simp only [AM.DB, List.length_set, List.length_map]; first | done | omega)) only [AM.RB, Nat.reduceAdd, Nat.reduceMul, Nat.reduceEqDiff, reduceCtorEq, b44_IH12]
  refine AM.condV_split (fun hlt => ?_) (fun hlt => ?_)
  · have hi64 : i < 64 := by omega
    have e1 := hc i hi64
    have hg := gI_le (L := L) h0 (i : Int)
    by_cases hb : m < gI L i
    · have d1 : decide (m < gI L i) = true := decide_eq_true hb
      (first | (simp (maxSteps := 1000000) (disch := first | omega | (simp only [AM.DB, List.length_set, List.length_map]; first | done | omega)) only [AM.RB, Nat.reduceAdd, Nat.reduceMul, Nat.reduceEqDiff, reduceCtorEq, b44_IH12, g, Int.toNat_natCast, e1, d1, AM.wrap_i64]) | skip)
      refine ⟨(i + 1, gI L i), by simp only; omega, ?_, by simp only; omega, by simp only; omega, fun j hj => ?_, hg⟩
      · simp (maxSteps := 1000000) (disch := first | omega | (simp only [AM.DB, List.length_set, List.length_map]; first | done | omega)) only [AM.RB, Nat.reduceAdd, Nat.reduceMul, Nat.reduceEqDiff, reduceCtorEq, b44_IH12]
        first | rfl | skip
      · simp only at hj ⊢
        by_cases e : j = i
        · subst e; omega
        · have := hall j (by omega); omega
    · have d1 : decide (m < gI L i) = false := decide_eq_false hb
      (first | (simp (maxSteps := 1000000) (disch := first | omega | (simp only [AM.DB, List.length_set, List.length_map]; first | done | omega)) only [AM.RB, Nat.reduceAdd, Nat.reduceMul, Nat.reduceEqDiff, reduceCtorEq, b44_IH12, g, Int.toNat_natCast, e1, d1, AM.wrap_i64]) | skip)
      refine ⟨(i + 1, m), by simp only; omega, ?_, by simp only; omega, hm, fun j hj => ?_, hle⟩
      · simp (maxSteps := 1000000) (disch := first | omega | (simp only [AM.DB, List.length_set, List.length_map]; first | done | omega)) only [AM.RB, Nat.reduceAdd, Nat.reduceMul, Nat.reduceEqDiff, reduceCtorEq, b44_IH12]
        first | rfl | skip
      · simp only at hj ⊢
        by_cases e : j = i
        · subst e; omega
        · exact hall j (by omega)
  · obtain rfl : i = 64 := by omega
    have := nowL_of ok hm hall hle
    subst this
    (first | (simp (maxSteps := 1000000) (disch := first | omega | (simp only [AM.DB, List.length_set, List.length_map]; first | done | omega)) only [AM.RB, Nat.reduceAdd, Nat.reduceMul, Nat.reduceEqDiff, reduceCtorEq, b44_IH12]) | skip)
    exact hq
end Go.Proofs.Ytodcnfabnlojdaa

namespace Go.Proofs.Ytodcnfabnlojdaa
open Go.AM
set_option maxRecDepth 8000
theorem b41_IH13 : type_of% (And.intro (@AM.bin_gtr) (And.intro (@AM.bin_lss) (And.intro (@AM.bin_neq) (And.intro (@AM.fa_ptr) (And.intro (@fd_80_0) (And.intro (@AM.op_binOp) (And.intro (@AM.op_call) (And.intro (@AM.op_fieldAddr) (And.intro (@AM.op_nilCheck) (And.intro (@AM.op_store) (And.intro (@AM.resL_two) (And.intro (@AM.stO_agg) (And.intro (@AM.stO_bool) (And.intro (@AM.stO_int) (And.intro (@AM.stO_map) (And.intro (@AM.stO_pointer) (And.intro (@AM.stO_slice) (And.intro (@AM.stO_string) (And.intro (@AM.st_ptr) (@sz_3)))))))))))))))))))) := And.intro (@AM.bin_gtr) (And.intro (@AM.bin_lss) (And.intro (@AM.bin_neq) (And.intro (@AM.fa_ptr) (And.intro (@fd_80_0) (And.intro (@AM.op_binOp) (And.intro (@AM.op_call) (And.intro (@AM.op_fieldAddr) (And.intro (@AM.op_nilCheck) (And.intro (@AM.op_store) (And.intro (@AM.resL_two) (And.intro (@AM.stO_agg) (And.intro (@AM.stO_bool) (And.intro (@AM.stO_int) (And.intro (@AM.stO_map) (And.intro (@AM.stO_pointer) (And.intro (@AM.stO_slice) (And.intro (@AM.stO_string) (And.intro (@AM.st_ptr) (@sz_3)))))))))))))))))))
theorem b42_IH13 : type_of% (And.intro (@AM.bin_geq) (And.intro (@AM.bin_gtr) (And.intro (@AM.bin_lss) (And.intro (@AM.bin_neq) (And.intro (@AM.fa_ptr) (And.intro (@fd_80_1) (And.intro (@AM.iaA_ok) (And.intro (AM.ia_array ar_78) (And.intro (@AM.op_binOp) (And.intro (@AM.op_call) (And.intro (@AM.op_fieldAddr) (And.intro (@AM.op_indexAddr) (And.intro (@AM.op_nilCheck) (And.intro (@AM.op_store) (And.intro (@AM.resL_two) (And.intro (@AM.stO_agg) (And.intro (@AM.stO_bool) (And.intro (@AM.stO_int) (And.intro (@AM.stO_map) (And.intro (@AM.stO_pointer) (And.intro (@AM.stO_slice) (And.intro (@AM.stO_string) (And.intro (@AM.st_ptr) (@sz_3)))))))))))))))))))))))) := And.intro (@AM.bin_geq) (And.intro (@AM.bin_gtr) (And.intro (@AM.bin_lss) (And.intro (@AM.bin_neq) (And.intro (@AM.fa_ptr) (And.intro (@fd_80_1) (And.intro (@AM.iaA_ok) (And.intro (AM.ia_array ar_78) (And.intro (@AM.op_binOp) (And.intro (@AM.op_call) (And.intro (@AM.op_fieldAddr) (And.intro (@AM.op_indexAddr) (And.intro (@AM.op_nilCheck) (And.intro (@AM.op_store) (And.intro (@AM.resL_two) (And.intro (@AM.stO_agg) (And.intro (@AM.stO_bool) (And.intro (@AM.stO_int) (And.intro (@AM.stO_map) (And.intro (@AM.stO_pointer) (And.intro (@AM.stO_slice) (And.intro (@AM.stO_string) (And.intro (@AM.st_ptr) (@sz_3)))))))))))))))))))))))
theorem b43_IH13 : type_of% (And.intro (@AM.bin_geq) (And.intro (@AM.bin_lss) (And.intro (@AM.bin_neq) (And.intro (@AM.fa_ptr) (And.intro (@fd_80_1) (And.intro (@AM.iaA_ok) (And.intro (AM.ia_array ar_78) (And.intro (@AM.op_binOp) (And.intro (@AM.op_call) (And.intro (@AM.op_fieldAddr) (And.intro (@AM.op_indexAddr) (And.intro (@AM.op_nilCheck) (And.intro (@AM.op_store) (And.intro (@AM.stO_agg) (And.intro (@AM.stO_bool) (And.intro (@AM.stO_int) (And.intro (@AM.stO_map) (And.intro (@AM.stO_pointer) (And.intro (@AM.stO_slice) (And.intro (@AM.stO_string) (And.intro (@AM.st_ptr) (@sz_3)))))))))))))))))))))) := And.intro (@AM.bin_geq) (And.intro (@AM.bin_lss) (And.intro (@AM.bin_neq) (And.intro (@AM.fa_ptr) (And.intro (@fd_80_1) (And.intro (@AM.iaA_ok) (And.intro (AM.ia_array ar_78) (And.intro (@AM.op_binOp) (And.intro (@AM.op_call) (And.intro (@AM.op_fieldAddr) (And.intro (@AM.op_indexAddr) (And.intro (@AM.op_nilCheck) (And.intro (@AM.op_store) (And.intro (@AM.stO_agg) (And.intro (@AM.stO_bool) (And.intro (@AM.stO_int) (And.intro (@AM.stO_map) (And.intro (@AM.stO_pointer) (And.intro (@AM.stO_slice) (And.intro (@AM.stO_string) (And.intro (@AM.st_ptr) (@sz_3)))))))))))))))))))))
theorem b46_IH13 : type_of% (And.intro (@AM.bin_add) (And.intro (@AM.bin_geq) (And.intro (@AM.bin_lss) (And.intro (AM.bsW_int bs_22) (And.intro (AM.bsW_nil bs_22) (And.intro (AM.bsW_slice bs_22) (And.intro (AM.bsW_string bs_22) (And.intro (@AM.fa_ptr) (And.intro (@fd_80_1) (And.intro (@AM.iaA_ok) (And.intro (AM.ia_array ar_78) (And.intro (@AM.ldO_agg) (And.intro (@AM.ldO_one) (And.intro (@AM.ld_ptr) (And.intro (@lk_3) (And.intro (@AM.op_append) (And.intro (@AM.op_binOp) (And.intro (@AM.op_buildSlice) (And.intro (@AM.op_fieldAddr) (And.intro (@AM.op_indexAddr) (And.intro (@AM.op_load) (@AM.op_nilCheck)))))))))))))))))))))) := And.intro (@AM.bin_add) (And.intro (@AM.bin_geq) (And.intro (@AM.bin_lss) (And.intro (AM.bsW_int bs_22) (And.intro (AM.bsW_nil bs_22) (And.intro (AM.bsW_slice bs_22) (And.intro (AM.bsW_string bs_22) (And.intro (@AM.fa_ptr) (And.intro (@fd_80_1) (And.intro (@AM.iaA_ok) (And.intro (AM.ia_array ar_78) (And.intro (@AM.ldO_agg) (And.intro (@AM.ldO_one) (And.intro (@AM.ld_ptr) (And.intro (@lk_3) (And.intro (@AM.op_append) (And.intro (@AM.op_binOp) (And.intro (@AM.op_buildSlice) (And.intro (@AM.op_fieldAddr) (And.intro (@AM.op_indexAddr) (And.intro (@AM.op_load) (@AM.op_nilCheck)))))))))))))))))))))


theorem refOwn_w {h : AHeap} {q : Nat} {o : Int} {L : IL} (x : Rh h q o L) (ok : okI L) (h0 : 0 ≤ o) (v : Int) {Q : VQ}
    (hbad : ¬ (0 ≤ v ∧ v ≤ 15) → Q (.tuple #[.bool false, .int .i64 2]) h)
    (hgood : 0 ≤ v ∧ v ≤ 15 → ∀ h', Rh h' q v L → Fr (fun id => id = q) h h' → Q (.tuple #[.bool (decide (nowL v L ≠ nowL o L)), .int .i64 0]) h') : W 41 [pv q, .int .i64 v] h Q := by
  refine AM.enter hp (fn := Try.f41) (rs := [.tmp 4, .tmp 5]) (nt := 25) (by kernel_rfl) Try.func41 rfl rfl rfl (by kernel_rfl) ?_
  by_cases v0 : v < 0
  · have d0 : decide (v < 0) = true := decide_eq_true v0
    (first | (simp (maxSteps := 1000000) (disch := first | omega | (simp only [AM.DB, List.length_set, List.length_map]; first | done | omega)) only [AM.RB, Nat.reduceAdd, Nat.reduceMul, Nat.reduceEqDiff, reduceCtorEq, b41_IH13, d0]) | skip)
    exact hbad (by omega)
  have d0 : decide (v < 0) = false := decide_eq_false v0
  by_cases v1 : 15 < v
  · have d1 : decide (15 < v) = true := decide_eq_true v1
    (first | (simp (maxSteps := 1000000) (disch := first | omega | (simp only [AM.DB, List.length_set, List.length_map]; first | done | omega)) only [AM.RB, Nat.reduceAdd, Nat.reduceMul, Nat.reduceEqDiff, reduceCtorEq, b41_IH13, d0, d1]) | skip)
    exact hbad (by omega)
  have d1 : decide (15 < v) = false := decide_eq_false v1
  (first | (simp (maxSteps := 1000000) (disch := first | omega | (simp only [AM.DB, List.length_set, List.length_map]; first | done | omega)) only [AM.RB, Nat.reduceAdd, Nat.reduceMul, Nat.reduceEqDiff, reduceCtorEq, b41_IH13, d0, d1]) | skip)
  refine refNow_w x ok h0 ?_
  have x' := x
  obtain ⟨c, g, hl, hlen, hc0, hc⟩ := x
  have hlt := AM.get_some_lt g
  (first | (simp (maxSteps := 1000000) (disch := first | omega | (simp only [AM.DB, List.length_set, List.length_map]; first | done | omega)) only [AM.RB, Nat.reduceAdd, Nat.reduceMul, Nat.reduceEqDiff, reduceCtorEq, b41_IH13, g]) | skip)
  generalize hE_ : AHeap.put h _ _ = h1; obtain ⟨g1, fr1, n1, l1⟩ := AM.put_get hE_ (by omega); clear hE_
  have x1 : Rh h1 q v L := ⟨_, g1, by omega, by simpa using hlen, by rw [List.getElem?_set]; simp [hlen], fun i hi => by rw [List.getElem?_set, if_neg (by omega)]; exact hc i hi⟩
  refine refNow_w x1 ok (by omega) ?_
  (first | (simp (maxSteps := 1000000) (disch := first | omega | (simp only [AM.DB, List.length_set, List.length_map]; first | done | omega)) only [AM.RB, Nat.reduceAdd, Nat.reduceMul, Nat.reduceEqDiff, reduceCtorEq, b41_IH13]) | skip)
  have e : (!decide (nowL v L = nowL o L)) = decide (nowL v L ≠ nowL o L) := by simp
  first
    | exact hgood (by omega) h1 x1 fr1
    | (rw [e]; exact hgood (by omega) h1 x1 fr1)
    | (have := hgood (by omega) h1 x1 fr1; simpa using this)

theorem refGive_w {h : AHeap} {q : Nat} {o : Int} {L : IL} (x : Rh h q o L) (ok : okI L) (h0 : 0 ≤ o) (r v : Int) {Q : VQ}
    (hbad : ¬ fitI (r, v) → Q (.tuple #[.bool false, .int .i64 2]) h)
    (hgood : fitI (r, v) → ∀ h', Rh h' q o (setI L r v) → Fr (fun id => id = q) h h' → Q (.tuple #[.bool (decide (nowL o (setI L r v) ≠ nowL o L)), .int .i64 0]) h') : W 42 [pv q, .int .i64 r, .int .i64 v] h Q := by
  refine AM.enter hp (fn := Try.f42) (rs := [.tmp 6, .tmp 7]) (nt := 37) (by kernel_rfl) Try.func42 rfl rfl rfl (by kernel_rfl) ?_
  by_cases r0 : r < 0
  · have e0 : decide (r < 0) = true := decide_eq_true r0
    (first | (simp (maxSteps := 1000000) (disch := first | omega | (simp only [AM.DB, List.length_set, List.length_map]; first | done | omega)) only [AM.RB, Nat.reduceAdd, Nat.reduceMul, Nat.reduceEqDiff, reduceCtorEq, b42_IH13, e0]) | skip)
    exact hbad (fun q => by have := q.1.1; simp only at this; omega)
  have e0 : decide (r < 0) = false := decide_eq_false r0
  by_cases r1 : 64 ≤ r
  · have e1 : decide (64 ≤ r) = true := decide_eq_true r1
    (first | (simp (maxSteps := 1000000) (disch := first | omega | (simp only [AM.DB, List.length_set, List.length_map]; first | done | omega)) only [AM.RB, Nat.reduceAdd, Nat.reduceMul, Nat.reduceEqDiff, reduceCtorEq, b42_IH13, e0, e1]) | skip)
    exact hbad (fun q => by have := q.1.2; simp only at this; omega)
  have e1 : decide (64 ≤ r) = false := decide_eq_false r1
  by_cases v0 : v < 0
  · have d0 : decide (v < 0) = true := decide_eq_true v0
    (first | (simp (maxSteps := 1000000) (disch := first | omega | (simp only [AM.DB, List.length_set, List.length_map]; first | done | omega)) only [AM.RB, Nat.reduceAdd, Nat.reduceMul, Nat.reduceEqDiff, reduceCtorEq, b42_IH13, e0, e1, d0]) | skip)
    exact hbad (fun q => by have := q.2.1; simp only at this; omega)
  have d0 : decide (v < 0) = false := decide_eq_false v0
  by_cases v1 : 15 < v
  · have d1 : decide (15 < v) = true := decide_eq_true v1
    (first | (simp (maxSteps := 1000000) (disch := first | omega | (simp only [AM.DB, List.length_set, List.length_map]; first | done | omega)) only [AM.RB, Nat.reduceAdd, Nat.reduceMul, Nat.reduceEqDiff, reduceCtorEq, b42_IH13, e0, e1, d0, d1]) | skip)
    exact hbad (fun q => by have := q.2.2; simp only at this; omega)
  have d1 : decide (15 < v) = false := decide_eq_false v1
  have fit : fitI (r, v) := ⟨⟨by simp only; omega, by simp only; omega⟩, by simp only; omega, by simp only; omega⟩
  (first | (simp (maxSteps := 1000000) (disch := first | omega | (simp only [AM.DB, List.length_set, List.length_map]; first | done | omega)) only [AM.RB, Nat.reduceAdd, Nat.reduceMul, Nat.reduceEqDiff, reduceCtorEq, b42_IH13, e0, e1, d0, d1]) | skip)
  refine refNow_w x ok h0 ?_
  have x' := x
  obtain ⟨c, g, hl, hlen, hc0, hc⟩ := x
  have hlt := AM.get_some_lt g
  obtain ⟨k, rfl⟩ := Int.eq_ofNat_of_zero_le (show 0 ≤ r by omega)
  have t1 : ((k : Nat) : Int).toNat = k := Int.toNat_natCast k
  (first | (simp (maxSteps := 1000000) (disch := first | omega | (simp only [AM.DB, List.length_set, List.length_map]; first | done | omega)) only [AM.RB, Nat.reduceAdd, Nat.reduceMul, Nat.reduceEqDiff, reduceCtorEq, b42_IH13, g, t1]) | skip)
  generalize hE_ : AHeap.put h _ _ = h1; obtain ⟨g1, fr1, n1, l1⟩ := AM.put_get hE_ (by omega); clear hE_
  have x1 : Rh h1 q o (setI L k v) := Rh.set (k := k) (v := v) hl hlen hc0 hc (by simpa using g1) l1 (by omega) (by unfold gI; rw [getI_set, if_pos rfl]; rfl) (fun i hi ne => by unfold gI; rw [getI_set, if_neg (by omega)])
  refine refNow_w x1 (ok.set fit) h0 ?_
  (first | (simp (maxSteps := 1000000) (disch := first | omega | (simp only [AM.DB, List.length_set, List.length_map]; first | done | omega)) only [AM.RB, Nat.reduceAdd, Nat.reduceMul, Nat.reduceEqDiff, reduceCtorEq, b42_IH13]) | skip)
  have e : (!decide (nowL o (setI L k v) = nowL o L)) = decide (nowL o (setI L k v) ≠ nowL o L) := by simp
  first
    | exact hgood fit h1 x1 fr1
    | (rw [e]; exact hgood fit h1 x1 fr1)
    | (have := hgood fit h1 x1 fr1; simpa using this)

theorem delI_out {L : IL} (ok : okI L) {r : Int} (h : ¬ (0 ≤ r ∧ r < 64)) : delI L r = L := by
  refine delI_none ?_
  rw [getI_none_iff]
  intro hm
  obtain ⟨q, hq, e⟩ := List.mem_map.1 hm
  have := (ok.1 q hq).1
  omega
theorem refBack_w {h : AHeap} {q : Nat} {o : Int} {L : IL} (x : Rh h q o L) (ok : okI L) (h0 : 0 ≤ o) (r : Int) {Q : VQ}
    (hgood : ∀ h', Rh h' q o (delI L r) → Fr (fun id => id = q) h h' → Q (.bool (decide (nowL o (delI L r) ≠ nowL o L))) h') : W 43 [pv q, .int .i64 r] h Q := by
  refine AM.enter hp (fn := Try.f43) (rs := [.tmp 4]) (nt := 25) (by kernel_rfl) Try.func43 rfl rfl rfl (by kernel_rfl) ?_
  by_cases r0 : r < 0
  · have e0 : decide (r < 0) = true := decide_eq_true r0
    (first | (simp (maxSteps := 1000000) (disch := first | omega | (simp only [AM.DB, List.length_set, List.length_map]; first | done | omega)) only [AM.RB, Nat.reduceAdd, Nat.reduceMul, Nat.reduceEqDiff, reduceCtorEq, b43_IH13, e0]) | skip)
    rw [delI_out ok (by omega)] at hgood
    have := hgood h x (Fr.refl _ _)
    simpa using this
  have e0 : decide (r < 0) = false := decide_eq_false r0
  by_cases r1 : 64 ≤ r
  · have e1 : decide (64 ≤ r) = true := decide_eq_true r1
    (first | (simp (maxSteps := 1000000) (disch := first | omega | (simp only [AM.DB, List.length_set, List.length_map]; first | done | omega)) only [AM.RB, Nat.reduceAdd, Nat.reduceMul, Nat.reduceEqDiff, reduceCtorEq, b43_IH13, e0, e1]) | skip)
    rw [delI_out ok (by omega)] at hgood
    have := hgood h x (Fr.refl _ _)
    simpa using this
  have e1 : decide (64 ≤ r) = false := decide_eq_false r1
  (first | (simp (maxSteps := 1000000) (disch := first | omega | (simp only [AM.DB, List.length_set, List.length_map]; first | done | omega)) only [AM.RB, Nat.reduceAdd, Nat.reduceMul, Nat.reduceEqDiff, reduceCtorEq, b43_IH13, e0, e1]) | skip)
  refine refNow_w x ok h0 ?_
  have x' := x
  obtain ⟨c, g, hl, hlen, hc0, hc⟩ := x
  have hlt := AM.get_some_lt g
  obtain ⟨k, rfl⟩ := Int.eq_ofNat_of_zero_le (show 0 ≤ r by omega)
  have t1 : ((k : Nat) : Int).toNat = k := Int.toNat_natCast k
  (first | (simp (maxSteps := 1000000) (disch := first | omega | (simp only [AM.DB, List.length_set, List.length_map]; first | done | omega)) only [AM.RB, Nat.reduceAdd, Nat.reduceMul, Nat.reduceEqDiff, reduceCtorEq, b43_IH13, g, t1]) | skip)
  generalize hE_ : AHeap.put h _ _ = h1; obtain ⟨g1, fr1, n1, l1⟩ := AM.put_get hE_ (by omega); clear hE_
  have x1 : Rh h1 q o (delI L k) := Rh.set (k := k) (v := -1) hl hlen hc0 hc (by simpa using g1) l1 (by omega) (by unfold gI; rw [getI_del _ _ _ ok.2, if_pos rfl]; rfl) (fun i hi ne => by unfold gI; rw [getI_del _ _ _ ok.2, if_neg (by omega)])
  refine refNow_w x1 (ok.del _) h0 ?_
  (first | (simp (maxSteps := 1000000) (disch := first | omega | (simp only [AM.DB, List.length_set, List.length_map]; first | done | omega)) only [AM.RB, Nat.reduceAdd, Nat.reduceMul, Nat.reduceEqDiff, reduceCtorEq, b43_IH13]) | skip)
  have e : (!decide (nowL o (delI L k) = nowL o L)) = decide (nowL o (delI L k) ≠ nowL o L) := by simp
  first
    | exact hgood h1 x1 fr1
    | (rw [e]; exact hgood h1 x1 fr1)
    | (have := hgood h1 x1 fr1; simpa using this)

/-! ### From -/
def refF (L : IL) (n : Nat) : List Int := ((List.range n).map Int.ofNat).filter fun c => decide (0 ≤ gI L c)
theorem refF_succ (L : IL) (n : Nat) : refF L (n + 1) = refF L n ++ if 0 ≤ gI L n then [(n : Int)] else [] := by
  unfold refF
  rw [List.range_succ, List.map_append, List.filter_append]
  by_cases h : 0 ≤ gI L n
  · simp [h]
  · simp [h]
theorem refF_len (L : IL) (n : Nat) : (refF L n).length ≤ n := by
  have := List.length_filter_le (fun c => decide (0 ≤ gI L c)) ((List.range n).map Int.ofNat)
  simpa [refF] using this
theorem refF_all {L : IL} (ok : okI L) : refF L 64 = fromL L := by
  have hs : (refF L 64).Pairwise (fun a b => Go.leI a b = true) := by
    unfold refF
    refine List.Pairwise.filter _ ?_
    rw [List.pairwise_map]
    exact (List.pairwise_lt_range).imp fun {a b} q => by simp [Go.leI]; omega
  have hp : (refF L 64).Perm (L.map (·.1)) := by
    refine (List.perm_ext_iff_of_nodup ?_ ok.2).2 fun x => ?_
    · unfold refF
      refine (List.filter_sublist).nodup ?_
      rw [List.nodup_iff_pairwise_ne, List.pairwise_map]
      exact (List.pairwise_lt_range).imp fun {a b} q e => by have : (a : Int) = b := e; omega
    · constructor
      · intro hx
        obtain ⟨h1, h2⟩ := List.mem_filter.1 hx
        have h2 := of_decide_eq_true h2
        unfold gI at h2
        cases hg : getI L x with
        | none => rw [hg] at h2; simp at h2
        | some v => exact List.mem_map.2 ⟨_, getI_mem hg, rfl⟩
      · intro hx
        obtain ⟨⟨k, v⟩, h2, rfl⟩ := List.mem_map.1 hx
        have hf := ok.1 _ h2
        have h4 := hf.1
        have h5 := hf.2
        simp only at h4 h5
        refine List.mem_filter.2 ⟨List.mem_map.2 ⟨k.toNat, List.mem_range.2 (by omega), by show ((k.toNat : Nat) : Int) = k; omega⟩, decide_eq_true ?_⟩
        unfold gI
        rw [mem_getI ok.2 h2]
        exact h5.1
  have e1 : (refF L 64).mergeSort Go.leI = refF L 64 := List.mergeSort_of_pairwise hs
  rw [← e1]
  exact Go.mergeSort_of_perm_i hp

theorem refFrom_w {h : AHeap} {q : Nat} {o : Int} {L : IL} (x : Rh h q o L) (hl : h.low ≤ h.next) {Q : VQ}
    (hq : ∀ v h', Ow h' 3 1 v (refF L 64).length ((refF L 64).map (.int .i64)) → Fr none' h h' → (∀ id, idOf v id → h.next ≤ id) → Q v h') : W 46 [pv q] h Q := by
  obtain ⟨c, g, hlq, hlen, hc0, hc⟩ := x
  refine AM.enter hp (fn := Try.f46) (rs := [.tmp 2]) (nt := 21) (by kernel_rfl) Try.func46 rfl rfl rfl (by kernel_rfl) ?_
  simp (maxSteps := 1000000) (disch := first | omega | (simp only [AM.DB, List.length_set, List.length_map]; first | done | omega)) only [AM.RB, Nat.reduceAdd, Nat.reduceMul, Nat.reduceEqDiff, reduceCtorEq, b46_IH13]
  refine AM.loop_w hp 21 (fun p : Nat × Value => [(0, pv q), (3, p.2), (4, .int .i64 p.1)])
    (fun p h' => p.1 ≤ 64 ∧ Ow h' 3 1 p.2 (refF L p.1).length ((refF L p.1).map (.int .i64)) ∧ Fr none' h h' ∧ ∀ id, idOf p.2 id → h.next ≤ id) (fun p => 64 - p.1) (by kernel_rfl) (0, .slice none 0 0) ?_ ?_ ?_
  · simp (maxSteps := 1000000) (disch := first | omega | (simp only [AM.DB, List.length_set, List.length_map]; first | done | omega)) only [AM.RB, Nat.reduceAdd, Nat.reduceMul, Nat.reduceEqDiff, reduceCtorEq, b46_IH13]
    first | rfl | skip
  · exact ⟨Nat.zero_le _, Ow.nil _ _ _, Fr.refl _ _, fun _ q => q.elim⟩
  rintro ⟨i, v⟩ h1 ρ ⟨hi, ow, fr1, hid⟩
  simp only at hi ow hid
  have g1 := g.fr0 fr1
  have hl1 := fr1.hl hl
  have rbl := refF_len L i
  have rbs := refF_succ L i
  (first | (simp (maxSteps := 1000000) (disch := first | omega | (simp only [AM.DB, List.length_set, List.length_map]; first | done | omega)) only [AM.RB, Nat.reduceAdd, Nat.reduceMul, Nat.reduceEqDiff, reduceCtorEq, b46_IH13]) | skip)
  refine AM.condV_split (fun hlt => ?_) (fun hlt => ?_)
  · have hi64 : i < 64 := by omega
    have e1 := hc i hi64
    obtain ⟨va, vc, rfl⟩ := ow.form
    by_cases hu : 0 ≤ gI L i
    · have du : decide (0 ≤ gI L i) = true := decide_eq_true hu
      rw [if_pos hu] at rbs
      (first | (simp (maxSteps := 1000000) (disch := first | omega | (simp only [AM.DB, List.length_set, List.length_map]; first | done | omega)) only [AM.RB, Nat.reduceAdd, Nat.reduceMul, Nat.reduceEqDiff, reduceCtorEq, b46_IH13, g1, Int.toNat_natCast, e1, du]) | skip)
      generalize hE_ : AHeap.alloc h1 _ = h2; obtain ⟨g2, fr2, n2, l2⟩ := AM.new_get hE_; clear hE_
      refine AM.appends_w ap_22 ap_22 (ow.fr0 fr2) (AM.Rd.whole (n := 1) (c := [.int .i64 (i : Int)]) g2 rfl) rfl (fr2.hl hl1) (AM.fits (by omega) (by omega)) (AM.fits' (by omega)) fun v3 h3 ow3 fr3 hid3 => ?_
      have n1 := fr1.next
      (first | (simp (maxSteps := 1000000) (disch := first | omega | (simp only [AM.DB, List.length_set, List.length_map]; first | done | omega)) only [AM.RB, Nat.reduceAdd, Nat.reduceMul, Nat.reduceEqDiff, reduceCtorEq, b46_IH13, AM.wrap_i64]) | skip)
      refine ⟨(i + 1, v3), by simp only; omega, ?_, by simp only; omega, ?_, (fr1.trans fr2).fresh fr3 (fun id q => hid id q), fun id q => (hid3 id q).elim (hid id) (fun q => by have := fr2.next; omega)⟩
      · simp (maxSteps := 1000000) (disch := first | omega | (simp only [AM.DB, List.length_set, List.length_map]; first | done | omega)) only [AM.RB, Nat.reduceAdd, Nat.reduceMul, Nat.reduceEqDiff, reduceCtorEq, b46_IH13]
        first | rfl | skip
      · simp only
        rw [rbs]
        simpa using ow3
    · have du : decide (0 ≤ gI L i) = false := decide_eq_false hu
      rw [if_neg hu, List.append_nil] at rbs
      (first | (simp (maxSteps := 1000000) (disch := first | omega | (simp only [AM.DB, List.length_set, List.length_map]; first | done | omega)) only [AM.RB, Nat.reduceAdd, Nat.reduceMul, Nat.reduceEqDiff, reduceCtorEq, b46_IH13, g1, Int.toNat_natCast, e1, du, AM.wrap_i64]) | skip)
      refine ⟨(i + 1, _), by simp only; omega, ?_, by simp only; omega, ?_, fr1, hid⟩
      · simp (maxSteps := 1000000) (disch := first | omega | (simp only [AM.DB, List.length_set, List.length_map]; first | done | omega)) only [AM.RB, Nat.reduceAdd, Nat.reduceMul, Nat.reduceEqDiff, reduceCtorEq, b46_IH13]
        first | rfl | skip
      · simp only
        rw [rbs]
        exact ow
  · obtain rfl : i = 64 := by omega
    (first | (simp (maxSteps := 1000000) (disch := first | omega | (simp only [AM.DB, List.length_set, List.length_map]; first | done | omega)) only [AM.RB, Nat.reduceAdd, Nat.reduceMul, Nat.reduceEqDiff, reduceCtorEq, b46_IH13]) | skip)
    exact hq _ _ ow fr1 hid
end Go.Proofs.Ytodcnfabnlojdaa

namespace Go.Proofs.Ytodcnfabnlojdaa
open Go.AM

/-! ### Calls as they come in -/
abbrev Op3 := Int × Int × Int
abbrev encO (o : Op3) : List Value := [.int .i64 o.1, .int .i64 o.2.1, .int .i64 o.2.2]
abbrev dO : Op3 := (0, 0, 0)
theorem encO_len (o : Op3) : (encO o).length = 3 := rfl
instance (q : Int × Int) : Decidable (fitI q) := by unfold fitI; exact inferInstance
/-- What is given by a call. -/
def stepI (L : IL) (o : Op3) : IL := if fitI (o.2.1, o.2.2) then setI L o.2.1 o.2.2 else L
/-! ### Two holders at once -/
def H2 (h0 h : AHeap) (p1 p2 : Nat) (m1 m2 : Option Nat) (L1 L2 : IL) : Prop := Hn h0 h p1 m1 0 L1 ∧ Hn h0 h p2 m2 0 L2 ∧ ∀ id, own p1 m1 id → ¬ own p2 m2 id
theorem H2.left {h0 h : AHeap} {p1 p2 : Nat} {m1 m2 : Option Nat} {L1 L2 L' : IL} (x : H2 h0 h p1 p2 m1 m2 L1 L2) {K : AHeap → Prop} (k : ∀ h' m', H2 h0 h' p1 p2 m' m2 L' L2 → Fr (own p1 m1) h h' → (∀ id, m' = some id → m1 = some id ∨ h.next ≤ id) → K h') : HdTo h p1 m1 0 L' K := by
  obtain ⟨x1, x2, hd⟩ := x
  intro h' mo' x' fr' hm
  have y1 : Hn h0 h' p1 mo' 0 L' := ⟨x', x1.2.1.fresh fr' x1.2.2, fun id q => q.elim (fun e => x1.2.2 id (.inl e)) fun e => (hm id e).elim (fun e' => x1.2.2 id (.inr e')) (fun e' => Nat.le_trans x1.2.1.next e')⟩
  refine k h' mo' ?_ fr' hm
  refine ⟨y1, ⟨x2.1.fr fr' (fun id q s => hd id s q), y1.2.1, x2.2.2⟩, fun id q s => ?_⟩
  rcases q with q | q
  · exact hd id (.inl q) s
  · rcases hm id q with e | e
    · exact hd id (.inr e) s
    · have := x2.1.lt s; omega
theorem H2.swap {h0 h : AHeap} {p1 p2 : Nat} {m1 m2 : Option Nat} {L1 L2 : IL} (x : H2 h0 h p1 p2 m1 m2 L1 L2) : H2 h0 h p2 p1 m2 m1 L2 L1 := ⟨x.2.1, x.1, fun id q s => x.2.2 id s q⟩
theorem H2.fr {S : Nat → Prop} {h0 h h' : AHeap} {p1 p2 : Nat} {m1 m2 : Option Nat} {L1 L2 : IL} (x : H2 h0 h p1 p2 m1 m2 L1 L2) (fr : Fr S h h') (hS : ∀ id, S id → h0.next ≤ id ∧ ¬ own p1 m1 id ∧ ¬ own p2 m2 id) : H2 h0 h' p1 p2 m1 m2 L1 L2 :=
  ⟨⟨x.1.1.fr fr (fun id q s => (hS id s).2.1 q), x.1.2.1.fresh fr (fun id s => (hS id s).1), x.1.2.2⟩, ⟨x.2.1.1.fr fr (fun id q s => (hS id s).2.2 q), x.1.2.1.fresh fr (fun id s => (hS id s).1), x.2.1.2.2⟩, x.2.2⟩
theorem H2.fr0 {h0 h h' : AHeap} {p1 p2 : Nat} {m1 m2 : Option Nat} {L1 L2 : IL} (x : H2 h0 h p1 p2 m1 m2 L1 L2) (fr : Fr none' h h') : H2 h0 h' p1 p2 m1 m2 L1 L2 := x.fr fr fun _ q => q.elim
theorem H2.new (h : AHeap) (hl : h.low ≤ h.next) : H2 h ((h.alloc (.cells [.int .i64 0, .map none] 45 false)).alloc (.cells [.int .i64 0, .map none] 45 false)) h.next (h.next + 1) none none [] [] := by
  refine ⟨⟨⟨?_, hl, by simp, rfl⟩, ((Fr.refl _ _).alloc _).alloc _, fun id q => q.elim (fun e => by omega) (fun e => by cases e)⟩, ⟨⟨?_, by simp; omega, by simp, rfl⟩, ((Fr.refl _ _).alloc _).alloc _, fun id q => q.elim (fun e => by omega) (fun e => by cases e)⟩, fun id q s => ?_⟩
  · rw [AM.get_alloc_ne (by simp), AM.get_alloc_self rfl]
  · rw [AM.get_alloc_self (by simp)]
  · rcases q with q | q
    · rcases s with s | s
      · omega
      · cases s
    · cases q
theorem H2.give {h0 h : AHeap} {p1 p2 : Nat} {m1 m2 : Option Nat} {L1 L2 : IL} (x : H2 h0 h p1 p2 m1 m2 L1 L2) (ok : okI L1) (o : Op3) {Q : VQ} (hq : ∀ v h' m', H2 h0 h' p1 p2 m' m2 (stepI L1 o) L2 → Q v h') :
    W 24 [pv p1, .int .i64 o.2.1, .int .i64 o.2.2] h Q := by
  unfold stepI at hq
  refine give_w x.1.1 ok _ _ (fun hb h' fr => hq _ _ m1 ?_) (fun hf => x.left fun h' m' y _ _ => hq _ _ m' ?_)
  · rw [if_neg hb]; exact x.fr0 fr
  · rw [if_pos hf]; exact y
end Go.Proofs.Ytodcnfabnlojdaa

namespace Go.Proofs.Ytodcnfabnlojdaa
open Go.AM
set_option maxRecDepth 8000
theorem b40_IH14 : type_of% (And.intro (@AM.bdV_some) (And.intro (@bd_80) (And.intro (@AM.bin_add) (And.intro (@AM.bin_lss) (And.intro (@AM.boxK_agg) (And.intro (@AM.boxK_bool) (And.intro (@AM.boxK_func) (And.intro (@AM.boxK_int) (And.intro (@AM.boxK_map) (And.intro (@AM.boxK_pointer) (And.intro (@AM.boxK_slice) (And.intro (@AM.boxK_string) (And.intro (@AM.fa_ptr) (And.intro (@fd_80_1) (And.intro (@AM.fillL_cons) (And.intro (@AM.fillL_nil) (And.intro (@AM.fillS_agg) (And.intro (@AM.fillS_bool) (And.intro (@AM.fillS_func) (And.intro (@AM.fillS_int) (And.intro (@AM.fillS_map) (And.intro (@AM.fillS_pointer) (And.intro (@AM.fillS_slice) (And.intro (@AM.fillS_string) (And.intro (@AM.iaA_ok) (And.intro (AM.ia_array ar_78) (And.intro (@AM.op_binOp) (And.intro (@AM.op_box) (And.intro (@AM.op_build) (And.intro (@AM.op_fieldAddr) (And.intro (@AM.op_indexAddr) (And.intro (@AM.op_nilCheck) (And.intro (@AM.op_store) (And.intro (@AM.stO_agg) (And.intro (@AM.stO_bool) (And.intro (@AM.stO_int) (And.intro (@AM.stO_map) (And.intro (@AM.stO_pointer) (And.intro (@AM.stO_slice) (And.intro (@AM.stO_string) (And.intro (@AM.st_ptr) (@sz_3)))))))))))))))))))))))))))))))))))))))))) := And.intro (@AM.bdV_some) (And.intro (@bd_80) (And.intro (@AM.bin_add) (And.intro (@AM.bin_lss) (And.intro (@AM.boxK_agg) (And.intro (@AM.boxK_bool) (And.intro (@AM.boxK_func) (And.intro (@AM.boxK_int) (And.intro (@AM.boxK_map) (And.intro (@AM.boxK_pointer) (And.intro (@AM.boxK_slice) (And.intro (@AM.boxK_string) (And.intro (@AM.fa_ptr) (And.intro (@fd_80_1) (And.intro (@AM.fillL_cons) (And.intro (@AM.fillL_nil) (And.intro (@AM.fillS_agg) (And.intro (@AM.fillS_bool) (And.intro (@AM.fillS_func) (And.intro (@AM.fillS_int) (And.intro (@AM.fillS_map) (And.intro (@AM.fillS_pointer) (And.intro (@AM.fillS_slice) (And.intro (@AM.fillS_string) (And.intro (@AM.iaA_ok) (And.intro (AM.ia_array ar_78) (And.intro (@AM.op_binOp) (And.intro (@AM.op_box) (And.intro (@AM.op_build) (And.intro (@AM.op_fieldAddr) (And.intro (@AM.op_indexAddr) (And.intro (@AM.op_nilCheck) (And.intro (@AM.op_store) (And.intro (@AM.stO_agg) (And.intro (@AM.stO_bool) (And.intro (@AM.stO_int) (And.intro (@AM.stO_map) (And.intro (@AM.stO_pointer) (And.intro (@AM.stO_slice) (And.intro (@AM.stO_string) (And.intro (@AM.st_ptr) (@sz_3)))))))))))))))))))))))))))))))))))))))))


theorem one65 : (List.replicate 65 (Value.int .i64 0)).all (·.oneCell') = true := by kernel_rfl
theorem refNew_w {h : AHeap} (hl : h.low ≤ h.next) {Q : VQ} (hq : ∀ h' q, Rh h' q 0 [] → Fr none' h h' → h.next ≤ q → Q (pv q) h') : W 40 [] h Q := by
  refine AM.enter hp (fn := Try.f40) (rs := [.tmp 0]) (nt := 15) (by kernel_rfl) Try.func40 rfl rfl rfl (by kernel_rfl) ?_
  (repeat' (first | (simp (maxSteps := 1000000) (disch := first | omega | (simp only [AM.DB, List.length_set, List.length_map]; first | done | omega)) only [AM.RB, Nat.reduceAdd, Nat.reduceMul, Nat.reduceEqDiff, reduceCtorEq, b40_IH14]) | refine AM.build_w ?_))
  rw [AM.boxK_agg (hl := one65)]
  generalize hE_ : AHeap.alloc h _ = h1
  obtain ⟨g1, fr1, n1, l1⟩ := AM.new_get hE_
  clear hE_
  simp (maxSteps := 1000000) (disch := first | omega | (simp only [AM.DB, List.length_set, List.length_map]; first | done | omega)) only [AM.RB, Nat.reduceAdd, Nat.reduceMul, Nat.reduceEqDiff, reduceCtorEq, b40_IH14]
  refine AM.loop_w hp 15 (fun i : Nat => [(0, .pointer none), (1, pv h.next), (2, .int .i64 i)])
    (fun i h' => i ≤ 64 ∧ Fr (fun id => id = h.next) h1 h' ∧ ∃ c, h'.get h.next = some (.cells c 80 false) ∧ c.length = 65 ∧ c[0]? = some (.int .i64 0) ∧ ∀ j : Nat, j < i → c[1 + j]? = some (.int .i64 (-1))) (fun i => 64 - i) (by kernel_rfl) 0 ?_ ?_ ?_
  · simp (maxSteps := 1000000) (disch := first | omega | (simp only [AM.DB, List.length_set, List.length_map]; first | done | omega)) only [AM.RB, Nat.reduceAdd, Nat.reduceMul, Nat.reduceEqDiff, reduceCtorEq, b40_IH14]
    first | rfl | skip
  · exact ⟨Nat.zero_le _, Fr.refl _ _, _, g1, by rfl, by rfl, fun j hj => by omega⟩
  rintro i h2 ρ ⟨hi, fr2, c, g2, hlen, hc0, hc⟩
  have lt2 := AM.get_some_lt g2
  have l2 := fr2.low
  simp (maxSteps := 1000000) (disch := first | omega | (simp only [AM.DB, List.length_set, List.length_map]; first | done | omega)) only [AM.RB, Nat.reduceAdd, Nat.reduceMul, Nat.reduceEqDiff, reduceCtorEq, b40_IH14]
  refine AM.condV_split (fun hlt => ?_) (fun hlt => ?_)
  · (repeat' (first | (simp (maxSteps := 1000000) (disch := first | omega | (simp only [AM.DB, List.length_set, List.length_map]; first | done | omega)) only [AM.RB, Nat.reduceAdd, Nat.reduceMul, Nat.reduceEqDiff, reduceCtorEq, b40_IH14, g2, Int.toNat_natCast]) | refine AM.build_w ?_))
    generalize hE_ : AHeap.put h2 _ _ = h3; obtain ⟨g3, fr3, n3, l3⟩ := AM.put_get hE_ (by omega); clear hE_
    (repeat' (first | (simp (maxSteps := 1000000) (disch := first | omega | (simp only [AM.DB, List.length_set, List.length_map]; first | done | omega)) only [AM.RB, Nat.reduceAdd, Nat.reduceMul, Nat.reduceEqDiff, reduceCtorEq, b40_IH14, AM.wrap_i64]) | refine AM.build_w ?_))
    refine ⟨i + 1, by omega, ?_, by omega, fr2.trans fr3, c.set (1 + i) (.int .i64 (-1)), rfl, by rw [List.length_set]; exact hlen, by rw [List.getElem?_set, if_neg (by omega)]; exact hc0, fun j hj => ?_⟩
    · simp (maxSteps := 1000000) (disch := first | omega | (simp only [AM.DB, List.length_set, List.length_map]; first | done | omega)) only [AM.RB, Nat.reduceAdd, Nat.reduceMul, Nat.reduceEqDiff, reduceCtorEq, b40_IH14]
      first | rfl | skip
    · rw [List.getElem?_set]
      by_cases e : j = i
      · subst e; rw [if_pos rfl, if_pos (by omega)]
      · rw [if_neg (by omega)]; exact hc j (by omega)
  · obtain rfl : i = 64 := by omega
    (repeat' (first | (simp (maxSteps := 1000000) (disch := first | omega | (simp only [AM.DB, List.length_set, List.length_map]; first | done | omega)) only [AM.RB, Nat.reduceAdd, Nat.reduceMul, Nat.reduceEqDiff, reduceCtorEq, b40_IH14]) | refine AM.build_w ?_))
    refine hq _ _ ⟨c, g2, by omega, hlen, hc0, fun j hj => hc j hj⟩ (fr1.fresh fr2 fun id e => by omega) (Nat.le_refl _)

/-- The program's holder, and the reference's, both made since h0. -/
def TwoH (h0 h : AHeap) (p q : Nat) (mo : Option Nat) (o : Int) (L : IL) : Prop :=
  okI L ∧ 0 ≤ o ∧ Hd h p mo o L ∧ Rh h q o L ∧ Fr none' h0 h ∧ (∀ id, own p mo id → h0.next ≤ id) ∧ h0.next ≤ q ∧ ¬ own p mo q
theorem TwoH.fr0 {h0 h h' : AHeap} {p q : Nat} {mo : Option Nat} {o : Int} {L : IL} (x : TwoH h0 h p q mo o L) (fr : Fr none' h h') : TwoH h0 h' p q mo o L := by
  obtain ⟨a, b, c, d, e, f, g, i⟩ := x
  exact ⟨a, b, c.fr0 fr, d.fr0 fr, e.trans fr, f, g, i⟩
theorem TwoH.mid {h0 h h1 : AHeap} {p q : Nat} {mo : Option Nat} {o : Int} {L : IL} (x : TwoH h0 h p q mo o L) (fr1 : Fr (own p mo) h h1) : Rh h1 q o L := x.2.2.2.1.fr fr1 x.2.2.2.2.2.2.2
theorem TwoH.step {h0 h h1 h2 : AHeap} {p q : Nat} {mo mo1 : Option Nat} {o o' : Int} {L L' : IL} (x : TwoH h0 h p q mo o L) (ok : okI L') (ho : 0 ≤ o') (b1 : Hd h1 p mo1 o' L') (fr1 : Fr (own p mo) h h1) (nw1 : ∀ id, mo1 = some id → mo = some id ∨ h.next ≤ id)
    (b2 : Rh h2 q o' L') (fr2 : Fr (fun id => id = q) h1 h2) : TwoH h0 h2 p q mo1 o' L' := by
  obtain ⟨a, b, c, d, e, f, g, i⟩ := x
  have nx := e.next
  have n1 := fr1.next
  have ltq := d.lt
  have o1 : ∀ id, own p mo1 id → own p mo id ∨ h.next ≤ id := fun id i => i.elim (fun i => .inl (.inl i)) (fun i => (nw1 id i).imp .inr (fun i => i))
  have nq : ¬ own p mo1 q := fun j => (o1 q j).elim i (fun j => by omega)
  refine ⟨ok, ho, b1.fr fr2 fun id j k => nq (k ▸ j), b2, (e.fresh fr1 fun id j => f id j).fresh fr2 fun id j => by omega, fun id j => ?_, g, nq⟩
  rcases o1 id j with j | j
  · exact f id j
  · omega
end Go.Proofs.Ytodcnfabnlojdaa

namespace Go.Proofs.Ytodcnfabnlojdaa
open Go.AM
set_option maxRecDepth 8000
theorem b9_IH15 : type_of% (And.intro (@AM.alK_some) (And.intro (@al_42) (And.intro (@AM.bdV_some) (And.intro (@bd_45) (And.intro (@AM.bin_add) (And.intro (AM.bin_beq ul_4) (And.intro (@AM.bin_eql) (And.intro (@AM.bin_gtr) (And.intro (@AM.bin_lss) (And.intro (@AM.bin_neq) (And.intro (@AM.boxK_agg) (And.intro (@AM.boxK_bool) (And.intro (@AM.boxK_func) (And.intro (@AM.boxK_int) (And.intro (@AM.boxK_map) (And.intro (@AM.boxK_pointer) (And.intro (@AM.boxK_slice) (And.intro (@AM.boxK_string) (And.intro (@AM.ex_tuple) (And.intro (@AM.fa_ptr) (And.intro (@fd_42_0) (And.intro (@fd_42_1) (And.intro (@fd_42_2) (And.intro (@fd_80_1) (And.intro (@AM.fillL_cons) (And.intro (@AM.fillL_nil) (And.intro (@AM.fillS_agg) (And.intro (@AM.fillS_bool) (And.intro (@AM.fillS_func) (And.intro (@AM.fillS_int) (And.intro (@AM.fillS_map) (And.intro (@AM.fillS_pointer) (And.intro (@AM.fillS_slice) (And.intro (@AM.fillS_string) (And.intro (@AM.iaA_ok) (And.intro (@AM.iaO_ok) (And.intro (AM.ia_array ar_78) (And.intro (AM.ia_slice el_40) (And.intro (@AM.ldO_agg) (And.intro (@AM.ldO_one) (And.intro (@AM.ld_ptr) (And.intro (AM.len_slice ul_40) (And.intro (@lk_3) (And.intro (@lk_42) (And.intro (@AM.op_alloc) (And.intro (@AM.op_binOp) (And.intro (@AM.op_box) (And.intro (@AM.op_build) (And.intro (@AM.op_call) (And.intro (@AM.op_extract) (And.intro (@AM.op_fieldAddr) (And.intro (@AM.op_indexAddr) (And.intro (@AM.op_len) (And.intro (@AM.op_load) (And.intro (@AM.op_nilCheck) (And.intro (@AM.op_store) (And.intro (@AM.op_unOp) (And.intro (@AM.stO_agg) (And.intro (@AM.stO_bool) (And.intro (@AM.stO_int) (And.intro (@AM.stO_map) (And.intro (@AM.stO_pointer) (And.intro (@AM.stO_slice) (And.intro (@AM.stO_string) (And.intro (@AM.st_ptr) (And.intro (@sz_3) (And.intro (@sz_42) (And.intro (@AM.un_neg) (@AM.un_not))))))))))))))))))))))))))))))))))))))))))))))))))))))))))))))))))))) := And.intro (@AM.alK_some) (And.intro (@al_42) (And.intro (@AM.bdV_some) (And.intro (@bd_45) (And.intro (@AM.bin_add) (And.intro (AM.bin_beq ul_4) (And.intro (@AM.bin_eql) (And.intro (@AM.bin_gtr) (And.intro (@AM.bin_lss) (And.intro (@AM.bin_neq) (And.intro (@AM.boxK_agg) (And.intro (@AM.boxK_bool) (And.intro (@AM.boxK_func) (And.intro (@AM.boxK_int) (And.intro (@AM.boxK_map) (And.intro (@AM.boxK_pointer) (And.intro (@AM.boxK_slice) (And.intro (@AM.boxK_string) (And.intro (@AM.ex_tuple) (And.intro (@AM.fa_ptr) (And.intro (@fd_42_0) (And.intro (@fd_42_1) (And.intro (@fd_42_2) (And.intro (@fd_80_1) (And.intro (@AM.fillL_cons) (And.intro (@AM.fillL_nil) (And.intro (@AM.fillS_agg) (And.intro (@AM.fillS_bool) (And.intro (@AM.fillS_func) (And.intro (@AM.fillS_int) (And.intro (@AM.fillS_map) (And.intro (@AM.fillS_pointer) (And.intro (@AM.fillS_slice) (And.intro (@AM.fillS_string) (And.intro (@AM.iaA_ok) (And.intro (@AM.iaO_ok) (And.intro (AM.ia_array ar_78) (And.intro (AM.ia_slice el_40) (And.intro (@AM.ldO_agg) (And.intro (@AM.ldO_one) (And.intro (@AM.ld_ptr) (And.intro (AM.len_slice ul_40) (And.intro (@lk_3) (And.intro (@lk_42) (And.intro (@AM.op_alloc) (And.intro (@AM.op_binOp) (And.intro (@AM.op_box) (And.intro (@AM.op_build) (And.intro (@AM.op_call) (And.intro (@AM.op_extract) (And.intro (@AM.op_fieldAddr) (And.intro (@AM.op_indexAddr) (And.intro (@AM.op_len) (And.intro (@AM.op_load) (And.intro (@AM.op_nilCheck) (And.intro (@AM.op_store) (And.intro (@AM.op_unOp) (And.intro (@AM.stO_agg) (And.intro (@AM.stO_bool) (And.intro (@AM.stO_int) (And.intro (@AM.stO_map) (And.intro (@AM.stO_pointer) (And.intro (@AM.stO_slice) (And.intro (@AM.stO_string) (And.intro (@AM.st_ptr) (And.intro (@sz_3) (And.intro (@sz_42) (And.intro (@AM.un_neg) (@AM.un_not))))))))))))))))))))))))))))))))))))))))))))))))))))))))))))))))))))


set_option maxHeartbeats 8000000 in
theorem playsH_w {s : Value} {n : Nat} {l : List Op3} {h : AHeap} (hs : Rd h 42 3 s n (l.flatMap encO)) (hln : l.length = n) (hl : h.low ≤ h.next) :
    W 9 [s] h fun v _ => v = .bool true := by
  obtain ⟨a, cap, rfl⟩ := hs.form
  refine AM.enter hp (fn := Try.f9) (rs := [.tmp 2]) (nt := 138) (by kernel_rfl) Try.func9 rfl rfl rfl (by kernel_rfl) ?_
  by_cases h200 : (200 : Int) < n
  · have d0 := decide_eq_true h200
    (repeat' (first | (simp (maxSteps := 1000000) (disch := first | omega | (simp only [AM.DB, List.length_set, List.length_map]; first | done | omega)) only [AM.RB, Nat.reduceAdd, Nat.reduceMul, Nat.reduceEqDiff, reduceCtorEq, b9_IH15, d0]) | refine AM.drawW_loose (id := 20) hp (by kernel_rfl) (by kernel_rfl) ?_ | refine AM.opW_tied (by kernel_rfl) ?_ | refine AM.opW_untied (by kernel_rfl) ?_ | refine AM.build_w ?_))
  have d0 := decide_eq_false h200
  (repeat' (first | (simp (maxSteps := 1000000) (disch := first | omega | (simp only [AM.DB, List.length_set, List.length_map]; first | done | omega)) only [AM.RB, Nat.reduceAdd, Nat.reduceMul, Nat.reduceEqDiff, reduceCtorEq, b9_IH15, d0]) | refine AM.drawW_loose (id := 20) hp (by kernel_rfl) (by kernel_rfl) ?_ | refine AM.opW_tied (by kernel_rfl) ?_ | refine AM.opW_untied (by kernel_rfl) ?_ | refine AM.build_w ?_))
  generalize hE_ : AHeap.alloc h _ = h0
  have gp : h0.get h.next = some (.cells [.int .i64 0, .map none] 45 false) := by rw [← hE_, AM.get_alloc_self rfl]
  have fr0 : Fr none' h h0 := by rw [← hE_]; exact (Fr.refl _ _).alloc _
  have n0 : h0.next = h.next + 1 := by rw [← hE_]; rfl
  have l0 := fr0.low
  clear hE_
  refine refNew_w (by omega) fun hA q rhA frA hqA => ?_
  have tw0 : TwoH h hA h.next q none 0 [] :=
    ⟨okI_nil, Int.le_refl _, ⟨frA.get gp (fun q => q), by have := frA.low; omega, by simp, rfl⟩, rhA, fr0.trans frA, fun id j => j.elim (fun e => by omega) (fun e => by cases e), by omega, fun j => j.elim (fun e => by omega) (fun e => by cases e)⟩
  (repeat' (first | (simp (maxSteps := 1000000) (disch := first | omega | (simp only [AM.DB, List.length_set, List.length_map]; first | done | omega)) only [AM.RB, Nat.reduceAdd, Nat.reduceMul, Nat.reduceEqDiff, reduceCtorEq, b9_IH15]) | refine AM.drawW_loose (id := 20) hp (by kernel_rfl) (by kernel_rfl) ?_ | refine AM.opW_tied (by kernel_rfl) ?_ | refine AM.opW_untied (by kernel_rfl) ?_ | refine AM.build_w ?_))
  refine AM.loop_w hp 138 (fun i : Nat => [(0, .slice a n cap), (3, pv h.next), (4, pv q), (26, .int .i64 n), (27, .int .i64 i)])
    (fun i h' => i ≤ n ∧ ∃ mo o L, TwoH h h' h.next q mo o L) (fun i => n - i) (by kernel_rfl) 0 ?_ ?_ ?_
  · simp (maxSteps := 1000000) (disch := first | omega | (simp only [AM.DB, List.length_set, List.length_map]; first | done | omega)) only [AM.RB, Nat.reduceAdd, Nat.reduceMul, Nat.reduceEqDiff, reduceCtorEq, b9_IH15]
    first | rfl | skip
  · exact ⟨Nat.zero_le _, none, 0, [], tw0⟩
  rintro i h1 ρ ⟨hi, mo, o, L, tw⟩
  have fr1 := tw.2.2.2.2.1
  have hl1 := fr1.hl hl
  have hs1 := hs.fr0 fr1
  have nx1 := fr1.next
  simp (maxSteps := 1000000) (disch := first | omega | (simp only [AM.DB, List.length_set, List.length_map]; first | done | omega)) only [AM.RB, Nat.reduceAdd, Nat.reduceMul, Nat.reduceEqDiff, reduceCtorEq, b9_IH15]
  refine AM.condV_split (fun hlt2 => ?_) (fun hlt2 => ?_)
  case' refine_2 => (repeat' (first | (simp (maxSteps := 1000000) (disch := first | omega | (simp only [AM.DB, List.length_set, List.length_map]; first | done | omega)) only [AM.RB, Nat.reduceAdd, Nat.reduceMul, Nat.reduceEqDiff, reduceCtorEq, b9_IH15]) | refine AM.drawW_loose (id := 20) hp (by kernel_rfl) (by kernel_rfl) ?_ | refine AM.opW_tied (by kernel_rfl) ?_ | refine AM.opW_untied (by kernel_rfl) ?_ | refine AM.build_w ?_))
  obtain ⟨⟨kind, r, v⟩, hr'⟩ : ∃ r, l.getD i dO = r := ⟨_, rfl⟩
  (repeat' (first | (simp (maxSteps := 1000000) (disch := first | omega | (simp only [AM.DB, List.length_set, List.length_map]; first | done | omega)) only [AM.RB, Nat.reduceAdd, Nat.reduceMul, Nat.reduceEqDiff, reduceCtorEq, b9_IH15, hs1.ia el_40, hs1.lds encO_len lk_42 hln dO, Int.toNat_natCast, hr', encO]) | refine AM.drawW_loose (id := 20) hp (by kernel_rfl) (by kernel_rfl) ?_ | refine AM.opW_tied (by kernel_rfl) ?_ | refine AM.opW_untied (by kernel_rfl) ?_ | refine AM.build_w ?_))
  generalize hE_ : AHeap.put (AHeap.alloc h1 _) _ _ = h2; obtain ⟨g2, fr2, n2, l2⟩ := AM.box_get hE_ (by omega); clear hE_
  have tw2 := tw.fr0 fr2
  have lt2 := AM.get_some_lt g2
  have ownne : ∀ id, own h.next mo id → id ≠ h1.next := fun id q e => by have := tw.2.2.1.lt q; omega
  have qne : h1.next ≠ q := by have := tw.2.2.2.1.lt; omega
  by_cases kA : kind = 0 ∧ 0 ≤ v ∧ v ≤ 15
  case' pos =>
    obtain ⟨rfl, hv⟩ := kA
    (repeat' (first | (simp (maxSteps := 1000000) (disch := first | omega | (simp only [AM.DB, List.length_set, List.length_map]; first | done | omega)) only [AM.RB, Nat.reduceAdd, Nat.reduceMul, Nat.reduceEqDiff, reduceCtorEq, b9_IH15, g2]) | refine AM.drawW_loose (id := 20) hp (by kernel_rfl) (by kernel_rfl) ?_ | refine AM.opW_tied (by kernel_rfl) ?_ | refine AM.opW_untied (by kernel_rfl) ?_ | refine AM.build_w ?_))
    refine own_w tw2.2.2.1 tw2.1 v (fun c => absurd hv c) fun _ h3 mo3 b3 fr3 nw3 => ?_
    have g3 := fr3.get g2 (fun q => ownne _ q rfl)
    have rb3 := tw2.mid fr3
    (repeat' (first | (simp (maxSteps := 1000000) (disch := first | omega | (simp only [AM.DB, List.length_set, List.length_map]; first | done | omega)) only [AM.RB, Nat.reduceAdd, Nat.reduceMul, Nat.reduceEqDiff, reduceCtorEq, b9_IH15, g3]) | refine AM.drawW_loose (id := 20) hp (by kernel_rfl) (by kernel_rfl) ?_ | refine AM.opW_tied (by kernel_rfl) ?_ | refine AM.opW_untied (by kernel_rfl) ?_ | refine AM.build_w ?_))
    refine refOwn_w rb3 tw2.1 tw2.2.1 v (fun c => absurd hv c) fun _ h4 rb4 fr4 => ?_
    have tw4 := tw2.step tw2.1 hv.1 b3 fr3 nw3 rb4 fr4
    have g4 := fr4.get g3 qne
    generalize decide (nowL v L ≠ nowL o L) = bb at *
    clear b3 rb3 rb4
    generalize mo3 = mo4 at *
    generalize L = L4 at tw4
    obtain ⟨o4, ho4⟩ : ∃ o4, o4 = v := ⟨_, rfl⟩
    rw [← ho4] at tw4
  case' neg =>
    by_cases kB : kind = 0
    case' pos =>
      subst kB
      have hv : ¬ (0 ≤ v ∧ v ≤ 15) := fun q => kA ⟨rfl, q⟩
      (repeat' (first | (simp (maxSteps := 1000000) (disch := first | omega | (simp only [AM.DB, List.length_set, List.length_map]; first | done | omega)) only [AM.RB, Nat.reduceAdd, Nat.reduceMul, Nat.reduceEqDiff, reduceCtorEq, b9_IH15, g2]) | refine AM.drawW_loose (id := 20) hp (by kernel_rfl) (by kernel_rfl) ?_ | refine AM.opW_tied (by kernel_rfl) ?_ | refine AM.opW_untied (by kernel_rfl) ?_ | refine AM.build_w ?_))
      refine own_w tw2.2.2.1 tw2.1 v (fun _ h3 fr3 => ?_) (fun c => absurd c hv)
      have g3 := g2.fr0 fr3
      (repeat' (first | (simp (maxSteps := 1000000) (disch := first | omega | (simp only [AM.DB, List.length_set, List.length_map]; first | done | omega)) only [AM.RB, Nat.reduceAdd, Nat.reduceMul, Nat.reduceEqDiff, reduceCtorEq, b9_IH15, g3]) | refine AM.drawW_loose (id := 20) hp (by kernel_rfl) (by kernel_rfl) ?_ | refine AM.opW_tied (by kernel_rfl) ?_ | refine AM.opW_untied (by kernel_rfl) ?_ | refine AM.build_w ?_))
      refine refOwn_w (tw2.fr0 fr3).2.2.2.1 tw2.1 tw2.2.1 v (fun _ => ?_) (fun c => absurd c hv)
      have tw4 := tw2.fr0 fr3
      have g4 := g3
      generalize mo = mo4 at tw4
      generalize o = o4 at tw4
      generalize L = L4 at tw4
      obtain ⟨h4, rfl⟩ : ∃ h4, h4 = h3 := ⟨_, rfl⟩
    case' neg =>
      by_cases kC : kind = 1 ∧ fitI (r, v)
      case' pos =>
        obtain ⟨rfl, hv⟩ := kC
        have dk0 : decide ((1 : Int) = 0) = false := rfl
        (repeat' (first | (simp (maxSteps := 1000000) (disch := first | omega | (simp only [AM.DB, List.length_set, List.length_map]; first | done | omega)) only [AM.RB, Nat.reduceAdd, Nat.reduceMul, Nat.reduceEqDiff, reduceCtorEq, b9_IH15, g2, dk0]) | refine AM.drawW_loose (id := 20) hp (by kernel_rfl) (by kernel_rfl) ?_ | refine AM.opW_tied (by kernel_rfl) ?_ | refine AM.opW_untied (by kernel_rfl) ?_ | refine AM.build_w ?_))
        refine give_w tw2.2.2.1 tw2.1 r v (fun c => absurd hv c) fun _ h3 mo3 b3 fr3 nw3 => ?_
        have g3 := fr3.get g2 (fun q => ownne _ q rfl)
        have rb3 := tw2.mid fr3
        (repeat' (first | (simp (maxSteps := 1000000) (disch := first | omega | (simp only [AM.DB, List.length_set, List.length_map]; first | done | omega)) only [AM.RB, Nat.reduceAdd, Nat.reduceMul, Nat.reduceEqDiff, reduceCtorEq, b9_IH15, g3]) | refine AM.drawW_loose (id := 20) hp (by kernel_rfl) (by kernel_rfl) ?_ | refine AM.opW_tied (by kernel_rfl) ?_ | refine AM.opW_untied (by kernel_rfl) ?_ | refine AM.build_w ?_))
        refine refGive_w rb3 tw2.1 tw2.2.1 r v (fun c => absurd hv c) fun _ h4 rb4 fr4 => ?_
        have tw4 := tw2.step (tw2.1.set hv) tw2.2.1 b3 fr3 nw3 rb4 fr4
        have g4 := fr4.get g3 qne
        generalize decide (nowL o (setI L r v) ≠ nowL o L) = bb at *
        clear b3 rb3 rb4
        generalize mo3 = mo4 at *
        generalize setI L r v = L4 at tw4
        generalize o = o4 at tw4
      case' neg =>
        by_cases kD : kind = 1
        case' pos =>
          subst kD
          have hv : ¬ fitI (r, v) := fun q => kC ⟨rfl, q⟩
          have dk0 : decide ((1 : Int) = 0) = false := rfl
          (repeat' (first | (simp (maxSteps := 1000000) (disch := first | omega | (simp only [AM.DB, List.length_set, List.length_map]; first | done | omega)) only [AM.RB, Nat.reduceAdd, Nat.reduceMul, Nat.reduceEqDiff, reduceCtorEq, b9_IH15, g2, dk0]) | refine AM.drawW_loose (id := 20) hp (by kernel_rfl) (by kernel_rfl) ?_ | refine AM.opW_tied (by kernel_rfl) ?_ | refine AM.opW_untied (by kernel_rfl) ?_ | refine AM.build_w ?_))
          refine give_w tw2.2.2.1 tw2.1 r v (fun _ h3 fr3 => ?_) (fun c => absurd c hv)
          have g3 := g2.fr0 fr3
          (repeat' (first | (simp (maxSteps := 1000000) (disch := first | omega | (simp only [AM.DB, List.length_set, List.length_map]; first | done | omega)) only [AM.RB, Nat.reduceAdd, Nat.reduceMul, Nat.reduceEqDiff, reduceCtorEq, b9_IH15, g3]) | refine AM.drawW_loose (id := 20) hp (by kernel_rfl) (by kernel_rfl) ?_ | refine AM.opW_tied (by kernel_rfl) ?_ | refine AM.opW_untied (by kernel_rfl) ?_ | refine AM.build_w ?_))
          refine refGive_w (tw2.fr0 fr3).2.2.2.1 tw2.1 tw2.2.1 r v (fun _ => ?_) (fun c => absurd c hv)
          have tw4 := tw2.fr0 fr3
          have g4 := g3
          generalize mo = mo4 at tw4
          generalize o = o4 at tw4
          generalize L = L4 at tw4
          obtain ⟨h4, rfl⟩ : ∃ h4, h4 = h3 := ⟨_, rfl⟩
        case' neg =>
          by_cases kE : kind = 2
          case' pos =>
            subst kE
            have dk0 : decide ((2 : Int) = 0) = false := rfl
            have dk1 : decide ((2 : Int) = 1) = false := rfl
            (repeat' (first | (simp (maxSteps := 1000000) (disch := first | omega | (simp only [AM.DB, List.length_set, List.length_map]; first | done | omega)) only [AM.RB, Nat.reduceAdd, Nat.reduceMul, Nat.reduceEqDiff, reduceCtorEq, b9_IH15, g2, dk0, dk1]) | refine AM.drawW_loose (id := 20) hp (by kernel_rfl) (by kernel_rfl) ?_ | refine AM.opW_tied (by kernel_rfl) ?_ | refine AM.opW_untied (by kernel_rfl) ?_ | refine AM.build_w ?_))
            refine back_w tw2.2.2.1 tw2.1 r fun h3 mo3 b3 fr3 nw3 => ?_
            have g3 := fr3.get g2 (fun q => ownne _ q rfl)
            have lt3 := AM.get_some_lt g3
            have rb3 := tw2.mid fr3
            (repeat' (first | (simp (maxSteps := 1000000) (disch := first | omega | (simp only [AM.DB, List.length_set, List.length_map]; first | done | omega)) only [AM.RB, Nat.reduceAdd, Nat.reduceMul, Nat.reduceEqDiff, reduceCtorEq, b9_IH15, g3]) | refine AM.drawW_loose (id := 20) hp (by kernel_rfl) (by kernel_rfl) ?_ | refine AM.opW_tied (by kernel_rfl) ?_ | refine AM.opW_untied (by kernel_rfl) ?_ | refine AM.build_w ?_))
            refine refBack_w rb3 tw2.1 tw2.2.1 r fun h4 rb4 fr4 => ?_
            have tw4 := tw2.step (tw2.1.del r) tw2.2.1 b3 fr3 nw3 rb4 fr4
            have g4 := fr4.get g3 qne
            have lt4 := AM.get_some_lt g4
            generalize decide (nowL o (delI L r) ≠ nowL o L) = bb at *
            clear b3 rb3 rb4
            generalize mo3 = mo4 at *
            generalize delI L r = L4 at tw4
            generalize o = o4 at tw4
            (repeat' (first | (simp (maxSteps := 1000000) (disch := first | omega | (simp only [AM.DB, List.length_set, List.length_map]; first | done | omega)) only [AM.RB, Nat.reduceAdd, Nat.reduceMul, Nat.reduceEqDiff, reduceCtorEq, b9_IH15, g4]) | refine AM.drawW_loose (id := 20) hp (by kernel_rfl) (by kernel_rfl) ?_ | refine AM.opW_tied (by kernel_rfl) ?_ | refine AM.opW_untied (by kernel_rfl) ?_ | refine AM.build_w ?_))
            refine ⟨AM.looseOk_by [(6, [0, 4])] (by kernel_rfl) ?_, ?_⟩
            · simp (maxSteps := 1000000) (disch := first | omega | (simp only [AM.DB, List.length_set, List.length_map]; first | done | omega)) only [AM.RB, Nat.reduceAdd, Nat.reduceMul, Nat.reduceEqDiff, reduceCtorEq, b9_IH15]
              (repeat' apply And.intro) <;> (first | (refine AM.stable_len _ _ _ _ _ _ (fun _ => ?_); (simp (maxSteps := 1000000) (disch := first | omega | (simp only [AM.DB, List.length_set, List.length_map]; first | done | omega)) only [AM.RB, Nat.reduceAdd, Nat.reduceMul, Nat.reduceEqDiff, reduceCtorEq, b9_IH15, g2, g3, g4])) | (refine AM.stable_load _ _ _ _ _ _ ?_; (first | (simp (maxSteps := 1000000) (disch := first | omega | (simp only [AM.DB, List.length_set, List.length_map]; first | done | omega)) only [AM.RB, Nat.reduceAdd, Nat.reduceMul, Nat.reduceEqDiff, reduceCtorEq, b9_IH15, g2, g3, g4]) | skip); (first | (refine AM.stabL_int (by omega) ?_; (simp (maxSteps := 1000000) (disch := first | omega | (simp only [AM.DB, List.length_set, List.length_map]; first | done | omega)) only [AM.RB, Nat.reduceAdd, Nat.reduceMul, Nat.reduceEqDiff, reduceCtorEq, b9_IH15, g2, g3, g4])) | (refine AM.stabL_ptr (by omega) (by omega) ?_; (simp (maxSteps := 1000000) (disch := first | omega | (simp only [AM.DB, List.length_set, List.length_map]; first | done | omega)) only [AM.RB, Nat.reduceAdd, Nat.reduceMul, Nat.reduceEqDiff, reduceCtorEq, b9_IH15, g2, g3, g4])) | (refine AM.stabL_string (by omega) ?_; (simp (maxSteps := 1000000) (disch := first | omega | (simp only [AM.DB, List.length_set, List.length_map]; first | done | omega)) only [AM.RB, Nat.reduceAdd, Nat.reduceMul, Nat.reduceEqDiff, reduceCtorEq, b9_IH15, g2, g3, g4])) | (refine AM.stabL_bool (by omega) ?_; (simp (maxSteps := 1000000) (disch := first | omega | (simp only [AM.DB, List.length_set, List.length_map]; first | done | omega)) only [AM.RB, Nat.reduceAdd, Nat.reduceMul, Nat.reduceEqDiff, reduceCtorEq, b9_IH15, g2, g3, g4])))))
          case' neg =>
            by_cases kF : kind = 3
            case' pos =>
              subst kF
              have dk0 : decide ((3 : Int) = 0) = false := rfl
              have dk1 : decide ((3 : Int) = 1) = false := rfl
              have dk2 : decide ((3 : Int) = 2) = false := rfl
              (repeat' (first | (simp (maxSteps := 1000000) (disch := first | omega | (simp only [AM.DB, List.length_set, List.length_map]; first | done | omega)) only [AM.RB, Nat.reduceAdd, Nat.reduceMul, Nat.reduceEqDiff, reduceCtorEq, b9_IH15, g2, dk0, dk1, dk2]) | refine AM.drawW_loose (id := 20) hp (by kernel_rfl) (by kernel_rfl) ?_ | refine AM.opW_tied (by kernel_rfl) ?_ | refine AM.opW_untied (by kernel_rfl) ?_ | refine AM.build_w ?_))
              refine refNow_w tw2.2.2.2.1 tw2.1 tw2.2.1 ?_
              (repeat' (first | (simp (maxSteps := 1000000) (disch := first | omega | (simp only [AM.DB, List.length_set, List.length_map]; first | done | omega)) only [AM.RB, Nat.reduceAdd, Nat.reduceMul, Nat.reduceEqDiff, reduceCtorEq, b9_IH15, g2]) | refine AM.drawW_loose (id := 20) hp (by kernel_rfl) (by kernel_rfl) ?_ | refine AM.opW_tied (by kernel_rfl) ?_ | refine AM.opW_untied (by kernel_rfl) ?_ | refine AM.build_w ?_))
              refine AM.loop_w hp 138 (fun k : Nat => [(0, .slice a n cap), (3, pv h.next), (4, pv q), (6, pv h1.next), (16, .int .i64 (nowL o L)), (26, .int .i64 n), (27, .int .i64 i), (103, .int .i64 k)])
                (fun k h' => k ≤ 64 ∧ Fr (fun id => id = q) h2 h' ∧ ∃ c, h'.get q = some (.cells c 80 false) ∧ c.length = 65 ∧ c[0]? = some (.int .i64 o) ∧ ∀ j : Nat, j < k → c[1 + j]? = some (.int .i64 (-1))) (fun k => 64 - k) (by kernel_rfl) 0 ?_ ?_ ?_
              · simp (maxSteps := 1000000) (disch := first | omega | (simp only [AM.DB, List.length_set, List.length_map]; first | done | omega)) only [AM.RB, Nat.reduceAdd, Nat.reduceMul, Nat.reduceEqDiff, reduceCtorEq, b9_IH15]
                first | rfl | skip
              · obtain ⟨c, cg, _, cl, c0, _⟩ := tw2.2.2.2.1
                exact ⟨Nat.zero_le _, Fr.refl _ _, c, cg, cl, c0, fun j hj => by omega⟩
              rintro k h3 ρ3 ⟨hk, fr3, c, gc, hlen, hc0, hc⟩
              have lt3 := AM.get_some_lt gc
              have l3 := fr3.low
              have g3 := fr3.get g2 qne
              have lq : h2.low ≤ q := by obtain ⟨_, _, z, _⟩ := tw2.2.2.2.1; exact z
              simp (maxSteps := 1000000) (disch := first | omega | (simp only [AM.DB, List.length_set, List.length_map]; first | done | omega)) only [AM.RB, Nat.reduceAdd, Nat.reduceMul, Nat.reduceEqDiff, reduceCtorEq, b9_IH15]
              refine AM.condV_split (fun hlt3 => ?_) (fun hlt3 => ?_)
              case' refine_1 =>
                (repeat' (first | (simp (maxSteps := 1000000) (disch := first | omega | (simp only [AM.DB, List.length_set, List.length_map]; first | done | omega)) only [AM.RB, Nat.reduceAdd, Nat.reduceMul, Nat.reduceEqDiff, reduceCtorEq, b9_IH15, gc, Int.toNat_natCast]) | refine AM.drawW_loose (id := 20) hp (by kernel_rfl) (by kernel_rfl) ?_ | refine AM.opW_tied (by kernel_rfl) ?_ | refine AM.opW_untied (by kernel_rfl) ?_ | refine AM.build_w ?_))
                generalize hE_ : AHeap.put h3 _ _ = h5; obtain ⟨g5, fr5, n5, l5⟩ := AM.put_get hE_ (by omega); clear hE_
                (repeat' (first | (simp (maxSteps := 1000000) (disch := first | omega | (simp only [AM.DB, List.length_set, List.length_map]; first | done | omega)) only [AM.RB, Nat.reduceAdd, Nat.reduceMul, Nat.reduceEqDiff, reduceCtorEq, b9_IH15, AM.wrap_i64]) | refine AM.drawW_loose (id := 20) hp (by kernel_rfl) (by kernel_rfl) ?_ | refine AM.opW_tied (by kernel_rfl) ?_ | refine AM.opW_untied (by kernel_rfl) ?_ | refine AM.build_w ?_))
                refine ⟨k + 1, by omega, ?_, by omega, fr3.trans fr5, c.set (1 + k) (.int .i64 (-1)), rfl, by rw [List.length_set]; exact hlen, by rw [List.getElem?_set, if_neg (by omega)]; exact hc0, fun j hj => ?_⟩
                · simp (maxSteps := 1000000) (disch := first | omega | (simp only [AM.DB, List.length_set, List.length_map]; first | done | omega)) only [AM.RB, Nat.reduceAdd, Nat.reduceMul, Nat.reduceEqDiff, reduceCtorEq, b9_IH15]
                  first | rfl | skip
                · rw [List.getElem?_set]
                  by_cases e : j = k
                  · subst e; rw [if_pos rfl, if_pos (by omega)]
                  · rw [if_neg (by omega)]; exact hc j (by omega)
              obtain rfl : k = 64 := by omega
              have rb3 : Rh h3 q o [] := ⟨c, gc, by omega, hlen, hc0, fun j hj => hc j hj⟩
              have hd3 : Hd h3 h.next mo o L := tw2.2.2.1.fr fr3 fun id j e => tw2.2.2.2.2.2.2.2 (e ▸ j)
              (repeat' (first | (simp (maxSteps := 1000000) (disch := first | omega | (simp only [AM.DB, List.length_set, List.length_map]; first | done | omega)) only [AM.RB, Nat.reduceAdd, Nat.reduceMul, Nat.reduceEqDiff, reduceCtorEq, b9_IH15, g3]) | refine AM.drawW_loose (id := 20) hp (by kernel_rfl) (by kernel_rfl) ?_ | refine AM.opW_tied (by kernel_rfl) ?_ | refine AM.opW_untied (by kernel_rfl) ?_ | refine AM.build_w ?_))
              refine hclear_w hd3 tw2.1 fun h4 mo3 b4 fr4 nw4 => ?_
              have rb4 := rb3.fr fr4 tw2.2.2.2.2.2.2.2
              have g4 := fr4.get g3 (fun q => ownne _ q rfl)
              (repeat' (first | (simp (maxSteps := 1000000) (disch := first | omega | (simp only [AM.DB, List.length_set, List.length_map]; first | done | omega)) only [AM.RB, Nat.reduceAdd, Nat.reduceMul, Nat.reduceEqDiff, reduceCtorEq, b9_IH15, g4]) | refine AM.drawW_loose (id := 20) hp (by kernel_rfl) (by kernel_rfl) ?_ | refine AM.opW_tied (by kernel_rfl) ?_ | refine AM.opW_untied (by kernel_rfl) ?_ | refine AM.build_w ?_))
              refine refNow_w rb4 okI_nil tw2.2.1 ?_
              have tw4 : TwoH h h4 h.next q mo3 o [] := by
                obtain ⟨a1, a2, a3, a4, a5, a6, a7, a8⟩ := tw2
                have n3 := fr3.next
                have n5 := a5.next
                have ltq := a4.lt
                refine ⟨okI_nil, a2, b4, rb4, (a5.fresh fr3 fun id e => by omega).fresh fr4 fun id j => a6 id j, fun id j => ?_, a7, fun j => ?_⟩
                · rcases j with rfl | j
                  · exact a6 _ (.inl rfl)
                  · rcases nw4 id j with j | j
                    · exact a6 id (.inr j)
                    · omega
                · rcases j with j | j
                  · exact a8 (.inl j)
                  · rcases nw4 q j with j | j
                    · exact a8 (.inr j)
                    · omega
              have e5 : (!decide (nowL o [] = nowL o L)) = decide (nowL o [] ≠ nowL o L) := by simp
              (repeat' (first | (simp (maxSteps := 1000000) (disch := first | omega | (simp only [AM.DB, List.length_set, List.length_map]; first | done | omega)) only [AM.RB, Nat.reduceAdd, Nat.reduceMul, Nat.reduceEqDiff, reduceCtorEq, b9_IH15, e5]) | refine AM.drawW_loose (id := 20) hp (by kernel_rfl) (by kernel_rfl) ?_ | refine AM.opW_tied (by kernel_rfl) ?_ | refine AM.opW_untied (by kernel_rfl) ?_ | refine AM.build_w ?_))
              generalize decide (nowL o [] ≠ nowL o L) = bb at *
              clear b4 rb4
              generalize mo3 = mo4 at *
              obtain ⟨L4, hL4⟩ : ∃ L4 : IL, L4 = [] := ⟨_, rfl⟩
              rw [← hL4] at tw4
              generalize o = o4 at tw4
            case' neg =>
              have dk0 : decide (kind = 0) = false := decide_eq_false kB
              have dk1 : decide (kind = 1) = false := decide_eq_false kD
              have dk2 : decide (kind = 2) = false := decide_eq_false kE
              have dk3 : decide (kind = 3) = false := decide_eq_false kF
              (repeat' (first | (simp (maxSteps := 1000000) (disch := first | omega | (simp only [AM.DB, List.length_set, List.length_map]; first | done | omega)) only [AM.RB, Nat.reduceAdd, Nat.reduceMul, Nat.reduceEqDiff, reduceCtorEq, b9_IH15, g2, dk0, dk1, dk2, dk3]) | refine AM.drawW_loose (id := 20) hp (by kernel_rfl) (by kernel_rfl) ?_ | refine AM.opW_tied (by kernel_rfl) ?_ | refine AM.opW_untied (by kernel_rfl) ?_ | refine AM.build_w ?_))
              have tw4 := tw2
              have g4 := g2
              generalize mo = mo4 at tw4
              generalize o = o4 at tw4
              generalize L = L4 at tw4
              obtain ⟨h4, rfl⟩ : ∃ h4, h4 = h2 := ⟨_, rfl⟩
  all_goals (
    have fr4 := tw4.2.2.2.2.1
    have ok4 := tw4.1
    (repeat' (first | (simp (maxSteps := 1000000) (disch := first | omega | (simp only [AM.DB, List.length_set, List.length_map]; first | done | omega)) only [AM.RB, Nat.reduceAdd, Nat.reduceMul, Nat.reduceEqDiff, reduceCtorEq, b9_IH15, g4]) | refine AM.drawW_loose (id := 20) hp (by kernel_rfl) (by kernel_rfl) ?_ | refine AM.opW_tied (by kernel_rfl) ?_ | refine AM.opW_untied (by kernel_rfl) ?_ | refine AM.build_w ?_))
    refine from_w tw4.2.2.1 ok4 fun v5 h5 o5 fr5 hid5 => ?_
    have tw5 := tw4.fr0 fr5
    obtain ⟨va, vc, rfl⟩ := o5.form
    (repeat' (first | (simp (maxSteps := 1000000) (disch := first | omega | (simp only [AM.DB, List.length_set, List.length_map]; first | done | omega)) only [AM.RB, Nat.reduceAdd, Nat.reduceMul, Nat.reduceEqDiff, reduceCtorEq, b9_IH15]) | refine AM.drawW_loose (id := 20) hp (by kernel_rfl) (by kernel_rfl) ?_ | refine AM.opW_tied (by kernel_rfl) ?_ | refine AM.opW_untied (by kernel_rfl) ?_ | refine AM.build_w ?_))
    refine now_w tw5.2.2.1 ok4 ?_
    (repeat' (first | (simp (maxSteps := 1000000) (disch := first | omega | (simp only [AM.DB, List.length_set, List.length_map]; first | done | omega)) only [AM.RB, Nat.reduceAdd, Nat.reduceMul, Nat.reduceEqDiff, reduceCtorEq, b9_IH15]) | refine AM.drawW_loose (id := 20) hp (by kernel_rfl) (by kernel_rfl) ?_ | refine AM.opW_tied (by kernel_rfl) ?_ | refine AM.opW_untied (by kernel_rfl) ?_ | refine AM.build_w ?_))
    refine refNow_w tw5.2.2.2.1 ok4 tw5.2.1 ?_
    (repeat' (first | (simp (maxSteps := 1000000) (disch := first | omega | (simp only [AM.DB, List.length_set, List.length_map]; first | done | omega)) only [AM.RB, Nat.reduceAdd, Nat.reduceMul, Nat.reduceEqDiff, reduceCtorEq, b9_IH15]) | refine AM.drawW_loose (id := 20) hp (by kernel_rfl) (by kernel_rfl) ?_ | refine AM.opW_tied (by kernel_rfl) ?_ | refine AM.opW_untied (by kernel_rfl) ?_ | refine AM.build_w ?_))
    refine refFrom_w tw5.2.2.2.1 (tw5.2.2.2.2.1.hl hl) fun v6 h6 o6 fr6 hid6 => ?_
    rw [refF_all ok4] at o6
    obtain ⟨vb, vd, rfl⟩ := o6.form
    have tw6 := tw5.fr0 fr6
    have hdL : decide (fromL L4 = fromL L4) = true := decide_eq_true rfl
    have hbl := ok4.len
    (repeat' (first | (simp (maxSteps := 1000000) (disch := first | omega | (simp only [AM.DB, List.length_set, List.length_map]; first | done | omega)) only [AM.RB, Nat.reduceAdd, Nat.reduceMul, Nat.reduceEqDiff, reduceCtorEq, b9_IH15]) | refine AM.drawW_loose (id := 20) hp (by kernel_rfl) (by kernel_rfl) ?_ | refine AM.opW_tied (by kernel_rfl) ?_ | refine AM.opW_untied (by kernel_rfl) ?_ | refine AM.build_w ?_))
    refine same_w (o5.fr0 fr6).rd o6.rd (by omega) ?_
    rw [hdL]
    (repeat' (first | (simp (maxSteps := 1000000) (disch := first | omega | (simp only [AM.DB, List.length_set, List.length_map]; first | done | omega)) only [AM.RB, Nat.reduceAdd, Nat.reduceMul, Nat.reduceEqDiff, reduceCtorEq, b9_IH15, AM.wrap_i64]) | refine AM.drawW_loose (id := 20) hp (by kernel_rfl) (by kernel_rfl) ?_ | refine AM.opW_tied (by kernel_rfl) ?_ | refine AM.opW_untied (by kernel_rfl) ?_ | refine AM.build_w ?_))
    refine ⟨i + 1, by omega, ?_, by omega, mo4, o4, L4, tw6⟩
    simp (maxSteps := 1000000) (disch := first | omega | (simp only [AM.DB, List.length_set, List.length_map]; first | done | omega)) only [AM.RB, Nat.reduceAdd, Nat.reduceMul, Nat.reduceEqDiff, reduceCtorEq, b9_IH15]
    first | rfl | skip)
end Go.Proofs.Ytodcnfabnlojdaa
