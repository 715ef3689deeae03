/- Walks of this claim's functions, and plain laws. -/
import Derived.Test.YtgdcbjpookldoaaDoorWd
set_option linter.unusedSimpArgs false
set_option linter.unusedVariables false
namespace Go.Proofs.YtgdcbjpookldoaaDoor
open Go.AM
set_option maxRecDepth 8000
theorem b93_RT11 : type_of% (And.intro (@AM.fa_ptr) (And.intro (@fd_100_0) (And.intro (@AM.ldO_agg) (And.intro (@AM.ldO_one) (And.intro (@AM.ld_ptr) (And.intro (@lk_23) (And.intro (@lk_3) (And.intro (@lk_96) (And.intro (@AM.op_call) (And.intro (@AM.op_fieldAddr) (And.intro (@AM.op_load) (@AM.op_nilCheck)))))))))))) := And.intro (@AM.fa_ptr) (And.intro (@fd_100_0) (And.intro (@AM.ldO_agg) (And.intro (@AM.ldO_one) (And.intro (@AM.ld_ptr) (And.intro (@lk_23) (And.intro (@lk_3) (And.intro (@lk_96) (And.intro (@AM.op_call) (And.intro (@AM.op_fieldAddr) (And.intro (@AM.op_load) (@AM.op_nilCheck)))))))))))
theorem b83_RT11 : type_of% (And.intro (@List.map_toArray.{0,0}) (And.intro (@AM.alK_some) (And.intro (@al_127) (And.intro (@al_130) (And.intro (@al_133) (And.intro (@al_3) (And.intro (@al_98) (And.intro (@AM.bdV_some) (And.intro (@bd_133) (And.intro (@AM.bin_add) (And.intro (@AM.bin_eql) (And.intro (@AM.bin_geq) (And.intro (@AM.bin_gtr) (And.intro (@AM.bin_lss) (And.intro (@AM.boxK_agg) (And.intro (@AM.boxK_bool) (And.intro (@AM.boxK_func) (And.intro (@AM.boxK_int) (And.intro (@AM.boxK_map) (And.intro (@AM.boxK_pointer) (And.intro (@AM.boxK_slice) (And.intro (@AM.boxK_string) (And.intro (AM.bsW_int bs_22) (And.intro (AM.bsW_nil bs_22) (And.intro (AM.bsW_slice bs_22) (And.intro (AM.bsW_string bs_22) (And.intro (@AM.ex_tuple) (And.intro (@AM.fa_ptr) (And.intro (@fd_100_0) (And.intro (@fd_100_2) (And.intro (@fd_133_0) (And.intro (@fd_133_2) (And.intro (@AM.fillL_cons) (And.intro (@AM.fillL_nil) (And.intro (@AM.fillS_agg) (And.intro (@AM.fillS_bool) (And.intro (@AM.fillS_func) (And.intro (@AM.fillS_int) (And.intro (@AM.fillS_map) (And.intro (@AM.fillS_pointer) (And.intro (@AM.fillS_slice) (And.intro (@AM.fillS_string) (And.intro (@AM.ldO_agg) (And.intro (@AM.ldO_one) (And.intro (@AM.ld_ptr) (And.intro (@lk_127) (And.intro (@lk_23) (And.intro (@lk_3) (And.intro (@lk_96) (And.intro (@lk_98) (And.intro (@AM.op_alloc) (And.intro (@AM.op_binOp) (And.intro (@AM.op_box) (And.intro (@AM.op_build) (And.intro (@AM.op_buildSlice) (And.intro (@AM.op_call) (And.intro (@AM.op_extract) (And.intro (@AM.op_fieldAddr) (And.intro (@AM.op_insert) (And.intro (@AM.op_load) (And.intro (@AM.op_lookup) (And.intro (@AM.op_makeFunc) (And.intro (@AM.op_makeMap0) (And.intro (@AM.op_mapUpdate) (And.intro (@AM.op_nilCheck) (And.intro (@AM.op_store) (And.intro (@AM.op_unOp) (And.intro (@AM.stO_agg) (And.intro (@AM.stO_bool) (And.intro (@AM.stO_int) (And.intro (@AM.stO_map) (And.intro (@AM.stO_pointer) (And.intro (@AM.stO_slice) (And.intro (@AM.stO_string) (And.intro (@AM.st_ptr) (And.intro (@sz_127) (And.intro (@sz_133) (And.intro (@sz_3) (And.intro (@sz_98) (And.intro (@AM.un_neg) (@AM.un_not))))))))))))))))))))))))))))))))))))))))))))))))))))))))))))))))))))))))))))))))) := And.intro (@List.map_toArray.{0,0}) (And.intro (@AM.alK_some) (And.intro (@al_127) (And.intro (@al_130) (And.intro (@al_133) (And.intro (@al_3) (And.intro (@al_98) (And.intro (@AM.bdV_some) (And.intro (@bd_133) (And.intro (@AM.bin_add) (And.intro (@AM.bin_eql) (And.intro (@AM.bin_geq) (And.intro (@AM.bin_gtr) (And.intro (@AM.bin_lss) (And.intro (@AM.boxK_agg) (And.intro (@AM.boxK_bool) (And.intro (@AM.boxK_func) (And.intro (@AM.boxK_int) (And.intro (@AM.boxK_map) (And.intro (@AM.boxK_pointer) (And.intro (@AM.boxK_slice) (And.intro (@AM.boxK_string) (And.intro (AM.bsW_int bs_22) (And.intro (AM.bsW_nil bs_22) (And.intro (AM.bsW_slice bs_22) (And.intro (AM.bsW_string bs_22) (And.intro (@AM.ex_tuple) (And.intro (@AM.fa_ptr) (And.intro (@fd_100_0) (And.intro (@fd_100_2) (And.intro (@fd_133_0) (And.intro (@fd_133_2) (And.intro (@AM.fillL_cons) (And.intro (@AM.fillL_nil) (And.intro (@AM.fillS_agg) (And.intro (@AM.fillS_bool) (And.intro (@AM.fillS_func) (And.intro (@AM.fillS_int) (And.intro (@AM.fillS_map) (And.intro (@AM.fillS_pointer) (And.intro (@AM.fillS_slice) (And.intro (@AM.fillS_string) (And.intro (@AM.ldO_agg) (And.intro (@AM.ldO_one) (And.intro (@AM.ld_ptr) (And.intro (@lk_127) (And.intro (@lk_23) (And.intro (@lk_3) (And.intro (@lk_96) (And.intro (@lk_98) (And.intro (@AM.op_alloc) (And.intro (@AM.op_binOp) (And.intro (@AM.op_box) (And.intro (@AM.op_build) (And.intro (@AM.op_buildSlice) (And.intro (@AM.op_call) (And.intro (@AM.op_extract) (And.intro (@AM.op_fieldAddr) (And.intro (@AM.op_insert) (And.intro (@AM.op_load) (And.intro (@AM.op_lookup) (And.intro (@AM.op_makeFunc) (And.intro (@AM.op_makeMap0) (And.intro (@AM.op_mapUpdate) (And.intro (@AM.op_nilCheck) (And.intro (@AM.op_store) (And.intro (@AM.op_unOp) (And.intro (@AM.stO_agg) (And.intro (@AM.stO_bool) (And.intro (@AM.stO_int) (And.intro (@AM.stO_map) (And.intro (@AM.stO_pointer) (And.intro (@AM.stO_slice) (And.intro (@AM.stO_string) (And.intro (@AM.st_ptr) (And.intro (@sz_127) (And.intro (@sz_133) (And.intro (@sz_3) (And.intro (@sz_98) (And.intro (@AM.un_neg) (@AM.un_not))))))))))))))))))))))))))))))))))))))))))))))))))))))))))))))))))))))))))))))))


/-! ### The search itself -/
theorem left_w {h : AHeap} {b3 b4 sp p : Nat} {L : List (List UInt8)} {B : Nat → Prop} {fr : Int} {x1 x2 : Value} {e1 e2 e3 : TypeId} {f1 f2 f3 : Bool} (g3 : h.get b3 = some (.cells [pv sp] e1 f1)) (g4 : h.get b4 = some (.cells [.int .i64 fr] e2 f2)) (gs : h.get sp = some (.cells [pv p, x1, x2] e3 f3)) (m : Mk h p L B) (f : Fit L) (cell : Int) {Q : VQ} (hq : Q (.int .i64 (farL L fr cell)) h) :
    AM.CallW Tryd.prog prims (.func (.func 93) #[] #[pv b3, pv b4]) [.int .i64 cell] h Q := by
  obtain ⟨kv, tl, mm⟩ := m.mp
  refine AM.enter hp (fn := Tryd.f93) (rs := [.tmp 4]) (nt := 12) (by kernel_rfl) Tryd.func93 rfl rfl rfl (by kernel_rfl) ?_
  (repeat' (first | (simp (maxSteps := 1000000) (disch := first | omega | (simp only [AM.DB, List.length_set, List.length_map]; first | done | omega)) only [AM.RB, Nat.reduceAdd, Nat.reduceMul, Nat.reduceEqDiff, reduceCtorEq, b93_RT11, g3, g4, gs]) | refine AM.drawW_fine hp (by kernel_rfl) (by kernel_rfl) (by kernel_rfl) ?_ | refine AM.opW_tied (by kernel_rfl) ?_ | refine AM.opW_untied (by kernel_rfl) ?_))
  refine far_w mm f fr cell ?_
  (repeat' (first | (simp (maxSteps := 1000000) (disch := first | omega | (simp only [AM.DB, List.length_set, List.length_map]; first | done | omega)) only [AM.RB, Nat.reduceAdd, Nat.reduceMul, Nat.reduceEqDiff, reduceCtorEq, b93_RT11]) | refine AM.drawW_fine hp (by kernel_rfl) (by kernel_rfl) (by kernel_rfl) ?_ | refine AM.opW_tied (by kernel_rfl) ?_ | refine AM.opW_untied (by kernel_rfl) ?_))
  exact hq

theorem backK_w {h : AHeap} {p : Nat} {L : List (List UInt8)} {B : Nat → Prop} (m : Mk h p L B) (f : Fit L) (hw : h.get GW = some (.cells waysC 123 false)) (hgl : GW < h.low) (hl : h.low ≤ h.next) (i : Int) {Q : VQ}
    (hq : ∀ v h', Mk h' p L B → Ow h' 3 1 v (backL L i).length ((backL L i).map (.int .i64)) → Fr (fun id => id = p) h h' → (∀ id, idOf v id → h.next ≤ id) → Q v h') : W 96 [pv p, .int .i64 i] h Q := by
  obtain ⟨⟨S, m, hB⟩, hb⟩ := m
  exact back_w m f hw hgl hl i fun v h' S' m' hS' o fr hid => hq v h' (Mk.grow hB hb m' hS' fr.next) o fr fun id q => (hid id q).1
/-- Where a search's objects lie. -/
structure LkO (n0 p sp o1 o2 b3 b4 b8 b9 kid : Nat) : Prop where
  a1 : p < n0
  a2 : sp < n0
  a3 : o1 < n0
  a4 : o2 < n0
  a5 : ¬ sp = p
  a6 : ¬ o1 = p
  a7 : ¬ o2 = p
  a8 : ¬ sp = o2
  a9 : ¬ o1 = o2
  c3 : n0 ≤ b3
  c4 : b3 < b4
  c8 : b4 < b8
  c9 : b8 < b9
  ck : b9 < kid
/-- A search's objects. -/
structure LkS (h0 h' : AHeap) (p sp o1 o2 b3 b4 b8 b9 kid : Nat) (L : List (List UInt8)) (fr : Int) (ml : List (Int × Value)) (B0 : Nat → Prop) (K C : Int → Option Int) (Cl : List Int) (P : List AM.It) (v9 : Value) : Prop where
  g3 : h'.get b3 = some (.cells [pv sp] 96 false)
  g4 : h'.get b4 = some (.cells [.int .i64 fr] 3 false)
  g8 : h'.get b8 = some (.cells [.func (.func 93) #[] #[pv b3, pv b4]] 127 false)
  gs : h'.get sp = some (.cells [pv p, .map (some o1), .map (some o2)] 100 false)
  gm : h'.get o1 = some (.map (encM ml))
  g11 : h'.get (kid + 1) = some (.cells [.map (some kid)] 98 false)
  pl : Pl h' b9 P v9
  hp : AM.HeapP P
  gk : ∃ kl, h'.get kid = some (.map (encM kl)) ∧ ∀ x, mgetL kl x = (K x).map (.int .i64)
  gd : ∃ dl, h'.get o2 = some (.map (encM dl)) ∧ (∀ x, mgetL dl x = (C x).map (.int .i64)) ∧ dl.length = Cl.length
  cl : Cl.Nodup ∧ ∀ x, x ∈ Cl ↔ C x ≠ none
  m : Mk h' p L (fun id => B0 id ∨ id = b3 ∨ id = b4 ∨ id = b8 ∨ id = b9 ∨ id = kid ∨ id = kid + 1 ∨ idOf v9 id)
  nv : ∀ id, idOf v9 id → b9 < id ∧ id ≠ kid ∧ id ≠ kid + 1
  fr' : Fr (fun id => id = p ∨ id = o2) h0 h'
theorem LkS.step {h0 h1 h2 : AHeap} {p sp o1 o2 b3 b4 b8 b9 kid : Nat} {L : List (List UInt8)} {fr : Int} {ml : List (Int × Value)} {B0 : Nat → Prop} {K C K' C' : Int → Option Int} {Cl Cl' : List Int} {P P' : List AM.It} {v9 v9' : Value} {T : Nat → Prop} (x : LkS h0 h1 p sp o1 o2 b3 b4 b8 b9 kid L fr ml B0 K C Cl P v9) (O : LkO h0.next p sp o1 o2 b3 b4 b8 b9 kid) (f : Fr T h1 h2) (hT : ∀ id, T id → id = p ∨ id = o2 ∨ id = kid ∨ id = b9 ∨ idOf v9 id)
    (pl : Pl h2 b9 P' v9') (hp : AM.HeapP P') (gk : ∃ kl, h2.get kid = some (.map (encM kl)) ∧ ∀ x, mgetL kl x = (K' x).map (.int .i64)) (gd : ∃ dl, h2.get o2 = some (.map (encM dl)) ∧ (∀ x, mgetL dl x = (C' x).map (.int .i64)) ∧ dl.length = Cl'.length) (cl : Cl'.Nodup ∧ ∀ x, x ∈ Cl' ↔ C' x ≠ none)
    (m : Mk h2 p L (fun id => B0 id ∨ id = b3 ∨ id = b4 ∨ id = b8 ∨ id = b9 ∨ id = kid ∨ id = kid + 1 ∨ idOf v9' id)) (nv : ∀ id, idOf v9' id → b9 < id ∧ id ≠ kid ∧ id ≠ kid + 1) : LkS h0 h2 p sp o1 o2 b3 b4 b8 b9 kid L fr ml B0 K' C' Cl' P' v9' := by
  obtain ⟨a1, a2, a3, a4, a5, a6, a7, a8, a9, c3, c4, c8, c9, ck⟩ := O
  have no : ∀ id, ¬ id = p → ¬ id = o2 → ¬ id = kid → ¬ id = b9 → (id < b9 ∨ id = kid + 1) → ¬ T id := fun id e1 e2 e3 e4 e5 t => by
    rcases hT id t with t | t | t | t | t
    · exact e1 t
    · exact e2 t
    · exact e3 t
    · exact e4 t
    · have := x.nv id t; omega
  refine ⟨f.get x.g3 (no _ (by omega) (by omega) (by omega) (by omega) (by omega)), f.get x.g4 (no _ (by omega) (by omega) (by omega) (by omega) (by omega)), f.get x.g8 (no _ (by omega) (by omega) (by omega) (by omega) (by omega)), f.get x.gs (no _ (by omega) (by omega) (by omega) (by omega) (by omega)), f.get x.gm (no _ (by omega) (by omega) (by omega) (by omega) (by omega)), f.get x.g11 (no _ (by omega) (by omega) (by omega) (by omega) (by omega)), pl, hp, gk, gd, cl, m, nv, x.fr'.then f fun id hlt t => ?_⟩
  rcases hT id t with t | t | t | t | t
  · exact .inl t
  · exact .inr t
  · omega
  · omega
  · have := x.nv id t; omega
/-- What a search knows. -/
def SI (L : List (List UInt8)) (B : List Int) (fr to : Int) (K C : Int → Option Int) (P : List AM.It) (far : Int) : Prop :=
  (outB B fr to = false ∧ ∃ f0, AM.Star (nbB L B fr) to (farL L fr) (nbB L B fr) K C P f0 ∧ ((far = -1 ∧ C fr = none) ∨ (0 ≤ far ∧ C fr = some far ∧ f0 ≤ far))) ∨ (outB B fr to = true ∧ P = [] ∧ far = -1 ∧ C = fun _ => none)
theorem SI.fin {L : List (List UInt8)} (f : Fit L) {B : List Int} {fr to : Int} (hf : 0 ≤ fr ∧ fr < L.flatten.length) (ht : 0 ≤ to ∧ to < L.flatten.length) {K C : Int → Option Int} {P : List AM.It} {far : Int} (s : SI L B fr to K C P far) (he : P = [] ∨ (0 ≤ far ∧ ∀ q ∈ P, far < q.1)) {Cl : List Int} (cl : Cl.Nodup ∧ ∀ x, x ∈ Cl ↔ C x ≠ none) :
    far = (dtoL L B fr to).getD fr.toNat 0 ∧ C = CdL L B fr to ∧ Cl.length = looksN L (dtoL L B fr to) fr L.flatten.length := by
  have key : far = (dtoL L B fr to).getD fr.toNat 0 ∧ C = CdL L B fr to := by
    rcases s with ⟨ho, f0, st, hs⟩ | ⟨ho, _, hs, hC⟩
    · exact looked_dto f hf ht ho (st.looked (fun x y h => (far_nb f h).1) (far_self hf) hs he)
    · obtain ⟨a, b⟩ := out_dto hf ho (L := L)
      exact ⟨hs.trans a.symm, hC.trans b.symm⟩
  refine ⟨key.1, key.2, cl_len cl.1 fun x => ?_⟩
  rw [cl.2 x, key.2]
theorem SI.clN {L : List (List UInt8)} (f : Fit L) {B : List Int} {fr to : Int} (ht : 0 ≤ to ∧ to < L.flatten.length) {K C : Int → Option Int} {P : List AM.It} {far : Int} (s : SI L B fr to K C P far) {Cl : List Int} (cl : Cl.Nodup ∧ ∀ x, x ∈ Cl ↔ C x ≠ none) : Cl.length ≤ L.flatten.length := by
  refine AM.nodup_len cl.1 fun x hx => ?_
  have := (cl.2 x).1 hx
  rcases s with ⟨ho, f0, st, hs⟩ | ⟨ho, _, hs, hC⟩
  · cases hc : C x with
    | none => exact absurd hc this
    | some d => exact Wk.ok (ok := fun z => 0 ≤ z ∧ z < (L.flatten.length : Int)) ht (nbB_in f B fr) (st.cd x d hc).2.1.1
  · rw [hC] at this; exact absurd rfl this

theorem Mk.less {h : AHeap} {p : Nat} {L : List (List UInt8)} {B C : Nat → Prop} (m : Mk h p L B) (hC : ∀ id, C id → B id) : Mk h p L C := by
  obtain ⟨⟨S, a, b⟩, c⟩ := m
  exact ⟨⟨S, a, fun id e => b id (hC id e)⟩, fun id e => c id (hC id e)⟩
set_option maxHeartbeats 16000000 in
theorem look_w {h : AHeap} {p sp o1 o2 : Nat} {L : List (List UInt8)} {B0 : Nat → Prop} {ml : List (Int × Value)} {B : List Int} {fr to : Int} (gs : h.get sp = some (.cells [pv p, .map (some o1), .map (some o2)] 100 false)) (gm : h.get o1 = some (.map (encM ml))) (om : outMap B fr ml) (gd : h.get o2 = some (.map (encM []))) (m : Mk h p L B0) (f : Fit L) (hw : h.get GW = some (.cells waysC 123 false)) (hgl : GW < h.low) (hgp : ¬ GW = p)
    (hl : h.low ≤ h.next) (lo2 : h.low ≤ o2) (hd : ¬ sp = p ∧ ¬ o1 = p ∧ ¬ o2 = p ∧ ¬ sp = o2 ∧ ¬ o1 = o2 ∧ ¬ GW = o2) (hB0 : B0 sp ∧ B0 o1 ∧ B0 o2) (hfr : 0 ≤ fr ∧ fr < L.flatten.length) (hto : 0 ≤ to ∧ to < L.flatten.length) {Q : VQ}
    (hq : ∀ h' dl, h'.get o2 = some (.map (encM dl)) → (∀ x, mgetL dl x = (CdL L B fr to x).map (.int .i64)) → dl.length = looksN L (dtoL L B fr to) fr L.flatten.length → Mk h' p L B0 → Fr (fun id => id = p ∨ id = o2) h h' → Q (.int .i64 ((dtoL L B fr to).getD fr.toNat 0)) h') : W 83 [pv sp, .int .i64 fr, .int .i64 to] h Q := by
  obtain ⟨d1, d2, d3, d4, d5, d6⟩ := hd
  have lts := AM.get_some_lt gs
  have ltm := AM.get_some_lt gm
  have ltd := AM.get_some_lt gd
  have ltp := m.lt
  refine AM.enter hp (fn := Tryd.f83) (rs := [.tmp 6]) (nt := 116) (by kernel_rfl) Tryd.func83 rfl rfl rfl (by kernel_rfl) ?_
  (repeat' (first | (simp (maxSteps := 1000000) (disch := first | omega | (simp only [AM.DB, List.length_set, List.length_map]; first | done | omega)) only [AM.RB, Nat.reduceAdd, Nat.reduceMul, Nat.reduceEqDiff, reduceCtorEq, b83_RT11, AM.stO_fn]) | refine AM.drawW_fine (id := 11) hp (by kernel_rfl) (by kernel_rfl) (by kernel_rfl) ?_ | refine AM.drawW_fine (id := 14) hp (by kernel_rfl) (by kernel_rfl) (by kernel_rfl) ?_ | refine AM.drawW_loose (id := 17) hp (by kernel_rfl) (by kernel_rfl) ?_ | refine AM.drawW_loose (id := 22) hp (by kernel_rfl) (by kernel_rfl) ?_ | refine AM.opW_tied (by kernel_rfl) ?_ | refine AM.opW_untied (by kernel_rfl) ?_ | refine AM.build_w ?_))
  generalize hE_ : AHeap.alloc h _ = h1; obtain ⟨g1, fr1, n1, l1⟩ := AM.new_get hE_; clear hE_
  generalize hE_ : AHeap.alloc h1 _ = h2; obtain ⟨g2, fr2, n2, l2⟩ := AM.new_get hE_; clear hE_
  have hl2 : h2.low ≤ h2.next := by omega
  (repeat' (first | (simp (maxSteps := 1000000) (disch := first | omega | (simp only [AM.DB, List.length_set, List.length_map]; first | done | omega)) only [AM.RB, Nat.reduceAdd, Nat.reduceMul, Nat.reduceEqDiff, reduceCtorEq, b83_RT11, AM.stO_fn]) | refine AM.drawW_fine (id := 11) hp (by kernel_rfl) (by kernel_rfl) (by kernel_rfl) ?_ | refine AM.drawW_fine (id := 14) hp (by kernel_rfl) (by kernel_rfl) (by kernel_rfl) ?_ | refine AM.drawW_loose (id := 17) hp (by kernel_rfl) (by kernel_rfl) ?_ | refine AM.drawW_loose (id := 22) hp (by kernel_rfl) (by kernel_rfl) ?_ | refine AM.opW_tied (by kernel_rfl) ?_ | refine AM.opW_untied (by kernel_rfl) ?_ | refine AM.build_w ?_))
  generalize hE_ : AHeap.put (AHeap.alloc h2 _) _ _ = h3; obtain ⟨g3, fr3, n3, l3⟩ := AM.box_get hE_ (by omega); clear hE_
  (repeat' (first | (simp (maxSteps := 1000000) (disch := first | omega | (simp only [AM.DB, List.length_set, List.length_map]; first | done | omega)) only [AM.RB, Nat.reduceAdd, Nat.reduceMul, Nat.reduceEqDiff, reduceCtorEq, b83_RT11]) | refine AM.drawW_fine (id := 11) hp (by kernel_rfl) (by kernel_rfl) (by kernel_rfl) ?_ | refine AM.drawW_fine (id := 14) hp (by kernel_rfl) (by kernel_rfl) (by kernel_rfl) ?_ | refine AM.drawW_loose (id := 17) hp (by kernel_rfl) (by kernel_rfl) ?_ | refine AM.drawW_loose (id := 22) hp (by kernel_rfl) (by kernel_rfl) ?_ | refine AM.opW_tied (by kernel_rfl) ?_ | refine AM.opW_untied (by kernel_rfl) ?_ | refine AM.build_w ?_))
  generalize hE_ : AHeap.alloc h3 _ = h4; obtain ⟨g4, fr4, n4, l4⟩ := AM.new_get hE_; clear hE_
  generalize hE_ : AHeap.alloc h4 _ = h5; obtain ⟨g5, fr5, n5, l5⟩ := AM.new_get hE_; clear hE_
  have fr04 : Fr none' h h4 := ((fr1.trans fr2).trans fr3).trans fr4
  have fr05 := fr04.trans fr5
  simp only [n1, n2, n3, n4] at g2 g3 g4 g5
  generalize hba : h.next + 1 + 1 + 1 + 1 = ba at *
  generalize hb9 : h.next + 1 + 1 + 1 = b9 at *
  generalize hb8 : h.next + 1 + 1 = b8 at *
  generalize hb4 : h.next + 1 = b4 at *
  have e5 : h5.next = ba + 1 := by omega
  refine sfree_w fun h6 gA gB fr6 n6 l6 => ?_
  have fr06 := fr05.trans fr6
  have hl6 := fr06.hl hl
  have x3 := ((((g1.fr0 fr2).fr0 fr3).fr0 fr4).fr0 fr5).fr0 fr6
  have x4 := (((g2.fr0 fr3).fr0 fr4).fr0 fr5).fr0 fr6
  have x8 := ((g3.fr0 fr4).fr0 fr5).fr0 fr6
  have x9 := (g4.fr0 fr5).fr0 fr6
  have xs6 := gs.fr0 fr06
  have xm6 := gm.fr0 fr06
  have m6 : Mk h6 p L (fun id => B0 id ∨ (h.next ≤ id ∧ id < h6.next)) := m.more fr06 fun id e => e
  have e6 : h6.next = ba + 3 := by omega
  have low6 := fr06.low
  have rS : Rd h6 3 1 (.slice (some ⟨ba, 0, none⟩) 1 1) 1 ([to].map (.int .i64)) := AM.Rd.whole (n := 1) (g5.fr0 fr6) rfl
  rw [e5] at gA gB ⊢
  have kl1 : (keptL B fr [to]).length ≤ 1 := by unfold keptL; exact List.length_filter_le _ [to]
  have kel : ∀ c, c ∈ keptL B fr [to] → c = to := fun c hc => by
    unfold keptL at hc
    exact List.mem_singleton.1 (List.mem_filter.1 hc).1
  let core : Nat → (Nat → Prop) → AHeap → Prop := fun t S h' => ∃ v, Pl h' (b9) (((keptL B fr [to]).take t).map fun c => (farL L fr c, c)) v ∧ (∀ id, idOf v id → S id) ∧ (∀ id, S id → h6.next ≤ id) ∧ Fr (fun id => id = b9) h6 h'
  (repeat' (first | (simp (maxSteps := 1000000) (disch := first | omega | (simp only [AM.DB, List.length_set, List.length_map]; first | done | omega)) only [AM.RB, Nat.reduceAdd, Nat.reduceMul, Nat.reduceEqDiff, reduceCtorEq, b83_RT11]) | refine AM.drawW_fine (id := 11) hp (by kernel_rfl) (by kernel_rfl) (by kernel_rfl) ?_ | refine AM.drawW_fine (id := 14) hp (by kernel_rfl) (by kernel_rfl) (by kernel_rfl) ?_ | refine AM.drawW_loose (id := 17) hp (by kernel_rfl) (by kernel_rfl) ?_ | refine AM.drawW_loose (id := 22) hp (by kernel_rfl) (by kernel_rfl) ?_ | refine AM.opW_tied (by kernel_rfl) ?_ | refine AM.opW_untied (by kernel_rfl) ?_ | refine AM.build_w ?_))
  refine AM.range_iter hp (R := fun id => id = ba + 1 + 1 ∨ id = ba + 1 ∨ id = sp ∨ id = o1 ∨ idOf (.slice (some ⟨ba, 0, none⟩) 1 1) id) (xs := (keptL B fr [to]).map fun c => [.int .i64 c]) (AM.entersV_of Tryd.func82 rfl) (by kernel_rfl) (by kernel_rfl) ?_ ?_ hl6 ?_
    (fun t => AM.JK h6.next (core t)) (fun _ _ _ => False) ?_ (fun _ => AM.Stab.no) (fun env x => (env.set 25 (x.getD 0 undef)).set 10 (x.getD 0 undef)) ?_ ?_ ?_ ?_ ?_
  · intro y hy; obtain ⟨q, _, rfl⟩ := List.mem_map.1 hy; rfl
  · rintro id (rfl | rfl | rfl | rfl | q)
    · omega
    · omega
    · omega
    · omega
    · exact rS.lt q
  · exact free1_w gB gA xs6 xm6 om rS (by omega)
  · refine fun t => AM.JK.stab ?_
    rintro S x y hB ⟨v, q1, q2, q3, q4⟩ hS hBl hn' hl'
    have lt3 : b9 < h6.next := by omega
    refine ⟨v, ⟨by rw [hBl _ lt3]; exact q1.g, q1.o.same (fun id q => hS id (q2 id q)) hl', by rw [hl']; exact q1.lo, q1.na⟩, q2, q3, Fr.ext2 q4 hBl hn' hl'⟩
  · intro y hy h11
    obtain ⟨q, _, rfl⟩ := List.mem_map.1 hy
    simp (maxSteps := 1000000) (disch := first | omega | (simp only [AM.DB, List.length_set, List.length_map]; first | done | omega)) only [AM.RB, Nat.reduceAdd, Nat.reduceMul, Nat.reduceEqDiff, reduceCtorEq, b83_RT11]
  · intro o
    have fr11 : Fr none' h6 (h6.alloc o) := (Fr.refl _ _).alloc _
    refine ⟨Nat.le_succ _, fun id e => by omega, none', ⟨.slice none 0 0, ⟨x9.fr0 fr11, Ow.nil _ _ _, ?_, fun id q => q.elim⟩, fun id q => q.elim, fun id q => q.elim, fr11.weak⟩, fun id q => q.elim⟩
    have := fr11.low
    omega
  · rintro t y A1 h7 hy ⟨hB, hA, S, ⟨v, q1, q2, q3, q4⟩, hS⟩ hA1 hL hlow hR
    rw [List.getElem?_map] at hy
    obtain ⟨b, hb, rfl⟩ := Option.map_eq_some_iff.1 hy
    have htl : t < (keptL B fr [to]).length := (List.getElem?_eq_some_iff.1 hb).1
    obtain rfl : t = 0 := by omega
    obtain rfl : b = to := kel b (List.mem_of_getElem? hb)
    have u3 := q4.get x3 (fun e => by omega)
    have u4 := q4.get x4 (fun e => by omega)
    have u8 := q4.get x8 (fun e => by omega)
    have us := q4.get xs6 (fun e => by omega)
    have m7 := m6.frB q4 (fun id e => .inr (by omega))
    (repeat' (first | (simp (maxSteps := 1000000) (disch := first | omega | (simp only [AM.DB, List.length_set, List.length_map]; first | done | omega)) only [AM.RB, Nat.reduceAdd, Nat.reduceMul, Nat.reduceEqDiff, reduceCtorEq, b83_RT11, u8]) | refine AM.drawW_fine (id := 11) hp (by kernel_rfl) (by kernel_rfl) (by kernel_rfl) ?_ | refine AM.drawW_fine (id := 14) hp (by kernel_rfl) (by kernel_rfl) (by kernel_rfl) ?_ | refine AM.drawW_loose (id := 17) hp (by kernel_rfl) (by kernel_rfl) ?_ | refine AM.drawW_loose (id := 22) hp (by kernel_rfl) (by kernel_rfl) ?_ | refine AM.opW_tied (by kernel_rfl) ?_ | refine AM.opW_untied (by kernel_rfl) ?_ | refine AM.build_w ?_))
    refine left_w u3 u4 us m7 f b ?_
    (repeat' (first | (simp (maxSteps := 1000000) (disch := first | omega | (simp only [AM.DB, List.length_set, List.length_map]; first | done | omega)) only [AM.RB, Nat.reduceAdd, Nat.reduceMul, Nat.reduceEqDiff, reduceCtorEq, b83_RT11]) | refine AM.drawW_fine (id := 11) hp (by kernel_rfl) (by kernel_rfl) (by kernel_rfl) ?_ | refine AM.drawW_fine (id := 14) hp (by kernel_rfl) (by kernel_rfl) (by kernel_rfl) ?_ | refine AM.drawW_loose (id := 17) hp (by kernel_rfl) (by kernel_rfl) ?_ | refine AM.drawW_loose (id := 22) hp (by kernel_rfl) (by kernel_rfl) ?_ | refine AM.opW_tied (by kernel_rfl) ?_ | refine AM.opW_untied (by kernel_rfl) ?_ | refine AM.build_w ?_))
    simp only [List.take_zero, List.map_nil] at q1
    have hl7 := q4.hl hl6
    refine push_w q1 (fun j _ e => by simp at e) hl7 (by simp) (farL L fr b, b) fun u P' v' h8 pl8 hp8 pm8 fr8 hid8 => ?_
    have nx8 := fr8.next
    have nx67 := q4.next
    have eP : P' = [(farL L fr b, b)] := List.perm_singleton.1 pm8
    have eT : ((keptL B fr [b]).take (0 + 1)).map (fun c => (farL L fr c, c)) = [(farL L fr b, b)] := by
      have : keptL B fr [b] = [b] := by
        have h1 : (keptL B fr [b]).length = 1 := by omega
        obtain ⟨c, hc⟩ := List.length_eq_one_iff.1 h1
        rw [hc]
        congr 1
        exact kel c (by rw [hc]; exact List.mem_singleton.2 rfl)
      rw [this]; rfl
    rw [eP] at pl8
    (repeat' (first | (simp (maxSteps := 1000000) (disch := first | omega | (simp only [AM.DB, List.length_set, List.length_map]; first | done | omega)) only [AM.RB, Nat.reduceAdd, Nat.reduceMul, Nat.reduceEqDiff, reduceCtorEq, b83_RT11]) | refine AM.drawW_fine (id := 11) hp (by kernel_rfl) (by kernel_rfl) (by kernel_rfl) ?_ | refine AM.drawW_fine (id := 14) hp (by kernel_rfl) (by kernel_rfl) (by kernel_rfl) ?_ | refine AM.drawW_loose (id := 17) hp (by kernel_rfl) (by kernel_rfl) ?_ | refine AM.drawW_loose (id := 22) hp (by kernel_rfl) (by kernel_rfl) ?_ | refine AM.opW_tied (by kernel_rfl) ?_ | refine AM.opW_untied (by kernel_rfl) ?_ | refine AM.build_w ?_))
    refine ⟨nx8, fr8.low, fun id hid q => fr8.old id hid fun q' => ?_, by omega, hA, fun id => S id ∨ (idOf v' id ∧ h7.next ≤ id), ⟨v', by rw [eT]; exact pl8, fun id q => ?_, fun id q => ?_, q4.then fr8 fun id hlt q => ?_⟩, fun id q => ?_⟩
    · have h1 : A1 id → h6.next ≤ id := hA id
      have h2 : S id → h6.next ≤ id := q3 id
      have h3 : S id → ¬ A1 id := fun q => (hS id q).2
      rcases q' with q' | q'
      · rcases q with q | q | q | q | q | q
        · have := h1 q; omega
        · omega
        · omega
        · omega
        · omega
        · have q : id = ba := q; omega
      · have hs := q2 id q'
        rcases q with q | q | q | q | q | q
        · exact h3 hs q
        · have := h2 hs; omega
        · have := h2 hs; omega
        · have := h2 hs; omega
        · have := h2 hs; omega
        · have q : id = ba := q; have := h2 hs; omega
    · rcases hid8 id q with t | t
      · exact .inl (q2 id t)
      · exact .inr ⟨q, t⟩
    · rcases q with q | q
      · exact q3 id q
      · omega
    · rcases q with q | q
      · exact q
      · have := q3 id (q2 id q); omega
    · rcases q with q | q
      · have := hS id q; exact ⟨by omega, this.2⟩
      · have := pl8.o.lt q.1
        exact ⟨this, fun e => by have := (hA1 id e).2; omega⟩
  · rintro A1 h7 ⟨hB, hA, S, ⟨v, q1, q2, q3, q4⟩, hS⟩ hA1 hn7 hl7
    rw [List.length_map, List.take_length] at q1
    obtain ⟨va, vc, hv⟩ := q1.o.form
    rw [List.length_map] at hv
    have hl7 := q4.hl hl6
    (repeat' (first | (simp (maxSteps := 1000000) (disch := first | omega | (simp only [AM.DB, List.length_set, List.length_map]; first | done | omega)) only [AM.RB, Nat.reduceAdd, Nat.reduceMul, Nat.reduceEqDiff, reduceCtorEq, b83_RT11]) | refine AM.drawW_fine (id := 11) hp (by kernel_rfl) (by kernel_rfl) (by kernel_rfl) ?_ | refine AM.drawW_fine (id := 14) hp (by kernel_rfl) (by kernel_rfl) (by kernel_rfl) ?_ | refine AM.drawW_loose (id := 17) hp (by kernel_rfl) (by kernel_rfl) ?_ | refine AM.drawW_loose (id := 22) hp (by kernel_rfl) (by kernel_rfl) ?_ | refine AM.opW_tied (by kernel_rfl) ?_ | refine AM.opW_untied (by kernel_rfl) ?_ | refine AM.build_w ?_))
    generalize hE_ : AHeap.alloc h7 _ = h8; obtain ⟨g8, fr8, n8, l8⟩ := AM.new_get hE_; clear hE_
    have gk8 : h8.get h7.next = some (.map (encM [])) := g8
    have lm8 : h8.low ≤ h7.next := by omega
    (repeat' (first | (simp (maxSteps := 1000000) (disch := first | omega | (simp only [AM.DB, List.length_set, List.length_map]; first | done | omega)) only [AM.RB, Nat.reduceAdd, Nat.reduceMul, Nat.reduceEqDiff, reduceCtorEq, b83_RT11, AM.update_enc mp_98 gk8 lm8]) | refine AM.drawW_fine (id := 11) hp (by kernel_rfl) (by kernel_rfl) (by kernel_rfl) ?_ | refine AM.drawW_fine (id := 14) hp (by kernel_rfl) (by kernel_rfl) (by kernel_rfl) ?_ | refine AM.drawW_loose (id := 17) hp (by kernel_rfl) (by kernel_rfl) ?_ | refine AM.drawW_loose (id := 22) hp (by kernel_rfl) (by kernel_rfl) ?_ | refine AM.opW_tied (by kernel_rfl) ?_ | refine AM.opW_untied (by kernel_rfl) ?_ | refine AM.build_w ?_))
    generalize hE_ : AHeap.put h8 _ _ = h9; obtain ⟨g9, fr9, n9, l9⟩ := AM.put_get hE_ (by omega); clear hE_
    have hl9 : h9.low ≤ h9.next := by omega
    (repeat' (first | (simp (maxSteps := 1000000) (disch := first | omega | (simp only [AM.DB, List.length_set, List.length_map]; first | done | omega)) only [AM.RB, Nat.reduceAdd, Nat.reduceMul, Nat.reduceEqDiff, reduceCtorEq, b83_RT11]) | refine AM.drawW_fine (id := 11) hp (by kernel_rfl) (by kernel_rfl) (by kernel_rfl) ?_ | refine AM.drawW_fine (id := 14) hp (by kernel_rfl) (by kernel_rfl) (by kernel_rfl) ?_ | refine AM.drawW_loose (id := 17) hp (by kernel_rfl) (by kernel_rfl) ?_ | refine AM.drawW_loose (id := 22) hp (by kernel_rfl) (by kernel_rfl) ?_ | refine AM.opW_tied (by kernel_rfl) ?_ | refine AM.opW_untied (by kernel_rfl) ?_ | refine AM.build_w ?_))
    generalize hE_ : AHeap.put (AHeap.alloc h9 _) _ _ = h10; obtain ⟨g10, fr10, n10, l10⟩ := AM.box_get hE_ (by omega); clear hE_
    rw [n8] at g10
    simp only [n8]
    have nq4 := q4.next
    generalize hkid : h7.next = kid at *
    have fr710 : Fr none' h7 h10 := (fr8.fresh fr9 (fun id e => by omega)).trans fr10
    have fr610 : Fr (fun id => id = b9) h6 h10 := q4.trans fr710.weak
    have O : LkO h.next p sp o1 o2 h.next b4 b8 b9 kid := ⟨ltp, lts, ltm, ltd, d1, d2, d3, d4, d5, by omega, by omega, by omega, by omega, by omega⟩
    have S10 : LkS h h10 p sp o1 o2 h.next b4 b8 b9 kid L fr ml B0 (AM.upd (fun _ => none) to 0) (fun _ => none) [] ((keptL B fr [to]).map fun c => (farL L fr c, c)) v := by
      refine ⟨fr610.get x3 (fun e => by omega), fr610.get x4 (fun e => by omega), fr610.get x8 (fun e => by omega), fr610.get xs6 (fun e => by omega), fr610.get xm6 (fun e => by omega), g10, ?_, fun j h1 h2 => ?_, ⟨_, g9.fr0 fr10, map_upd (fun x => rfl) to 0⟩, ⟨[], fr610.get (gd.fr0 fr06) (fun e => by omega), fun x => rfl, rfl⟩, ⟨List.nodup_nil, fun x => by simp⟩, ?_, fun id e => ?_, ?_⟩
      · have q1' : Pl h7 b9 ((keptL B fr [to]).map fun c => (farL L fr c, c)) v := q1
        exact q1'.fr0 fr710
      · rw [List.length_map] at h2; omega
      · refine m6.frC fr610 (fun id e => .inr (by omega)) fun id e => ?_
        have nx := fr710.next
        rcases e with e | e | e | e | e | e | e | e
        · exact .inl (.inl e)
        · exact .inl (.inr (by omega))
        · exact .inl (.inr (by omega))
        · exact .inl (.inr (by omega))
        · exact .inl (.inr (by omega))
        · exact .inr (by omega)
        · exact .inr (by omega)
        · have h1 := q3 id (q2 id e)
          have h2 := (hS id (q2 id e)).1
          exact .inr (by omega)
      · have h1 := q3 id (q2 id e)
        have h2 := (hS id (q2 id e)).1
        exact ⟨by omega, by omega, by omega⟩
      · exact ((fr06.weak).then fr610 fun id hlt e => by omega)
    have si10 : SI L B fr to (AM.upd (fun _ => none) to 0) (fun _ => none) ((keptL B fr [to]).map fun c => (farL L fr c, c)) (-1) := by
      cases ho : outB B fr to with
      | true =>
        refine .inr ⟨ho, ?_, rfl, rfl⟩
        have : keptL B fr [to] = [] := by unfold keptL; simp [ho]
        rw [this]; rfl
      | false =>
        refine .inl ⟨ho, farL L fr to, ?_, .inl ⟨rfl, rfl⟩⟩
        have : keptL B fr [to] = [to] := by unfold keptL; simp [ho]
        rw [this]
        exact AM.Star.init _ _ _
    have lp10 : ((keptL B fr [to]).map fun c => (farL L fr c, c)).length ≤ 1 := by rw [List.length_map]; exact kl1
    generalize ((keptL B fr [to]).map fun c => (farL L fr c, c)) = P10 at *
    have hK := f.k1024
    have low10 := S10.fr'.low
    have nx10 := S10.fr'.next
    clear q1 q2 q3 q4 hS hB hA fr8 fr9 fr10 fr710 fr610 g8 g9 g10 gk8 lm8 n8 l8 n9 l9 n10 l10 hl9 nq4
    (repeat' (first | (simp (maxSteps := 1000000) (disch := first | omega | (simp only [AM.DB, List.length_set, List.length_map]; first | done | omega)) only [AM.RB, Nat.reduceAdd, Nat.reduceMul, Nat.reduceEqDiff, reduceCtorEq, b83_RT11]) | refine AM.drawW_fine (id := 11) hp (by kernel_rfl) (by kernel_rfl) (by kernel_rfl) ?_ | refine AM.drawW_fine (id := 14) hp (by kernel_rfl) (by kernel_rfl) (by kernel_rfl) ?_ | refine AM.drawW_loose (id := 17) hp (by kernel_rfl) (by kernel_rfl) ?_ | refine AM.drawW_loose (id := 22) hp (by kernel_rfl) (by kernel_rfl) ?_ | refine AM.opW_tied (by kernel_rfl) ?_ | refine AM.opW_untied (by kernel_rfl) ?_ | refine AM.build_w ?_))
    refine AM.loop_w hp 116 (fun z : Int × Nat => [(3, pv h.next), (4, pv b4), (7, .int .i64 z.1), (8, pv b8), (9, pv b9), (11, pv (kid + 1))])
      (fun z h' => ∃ K C Cl P v9, LkS h h' p sp o1 o2 h.next b4 b8 b9 kid L fr ml B0 K C Cl P v9 ∧ SI L B fr to K C P z.1 ∧ z.2 = P.length + 1025 * (L.flatten.length - Cl.length) ∧ z.2 ≤ 1025 * L.flatten.length + 1) (fun z => z.2) (by kernel_rfl) (-1, P10.length + 1025 * (L.flatten.length - ([] : List Int).length)) ?_ ?_ ?_
    · simp (maxSteps := 1000000) (disch := first | omega | (simp only [AM.DB, List.length_set, List.length_map]; first | done | omega)) only [AM.RB, Nat.reduceAdd, Nat.reduceMul, Nat.reduceEqDiff, reduceCtorEq, b83_RT11]
      first | rfl | skip
    · exact ⟨_, _, _, _, _, S10, si10, rfl, by simp only [List.length_nil]; omega⟩
    rintro ⟨far, M⟩ h11 ρ11 ⟨K, C, Cl, P, v9, S, si, hM, hM2⟩
    simp only at si hM hM2 ⊢
    have clN := si.clN f hto S.cl
    have hl11 := S.fr'.hl hl
    have low11 := S.fr'.low
    have nx11 := S.fr'.next
    (repeat' (first | (simp (maxSteps := 1000000) (disch := first | omega | (simp only [AM.DB, List.length_set, List.length_map]; first | done | omega)) only [AM.RB, Nat.reduceAdd, Nat.reduceMul, Nat.reduceEqDiff, reduceCtorEq, b83_RT11]) | refine AM.drawW_fine (id := 11) hp (by kernel_rfl) (by kernel_rfl) (by kernel_rfl) ?_ | refine AM.drawW_fine (id := 14) hp (by kernel_rfl) (by kernel_rfl) (by kernel_rfl) ?_ | refine AM.drawW_loose (id := 17) hp (by kernel_rfl) (by kernel_rfl) ?_ | refine AM.drawW_loose (id := 22) hp (by kernel_rfl) (by kernel_rfl) ?_ | refine AM.opW_tied (by kernel_rfl) ?_ | refine AM.opW_untied (by kernel_rfl) ?_ | refine AM.build_w ?_))
    refine pop_w S.pl S.hp hl11 (by omega) (fun hP h12 fr12 => ?_) (fun hP P' v' h12 pl12 hp12 pm12 fr12 hid12 => ?_)
    · have hl12 := fr12.hl hl11
      (repeat' (first | (simp (maxSteps := 1000000) (disch := first | omega | (simp only [AM.DB, List.length_set, List.length_map]; first | done | omega)) only [AM.RB, Nat.reduceAdd, Nat.reduceMul, Nat.reduceEqDiff, reduceCtorEq, b83_RT11]) | refine AM.drawW_fine (id := 11) hp (by kernel_rfl) (by kernel_rfl) (by kernel_rfl) ?_ | refine AM.drawW_fine (id := 14) hp (by kernel_rfl) (by kernel_rfl) (by kernel_rfl) ?_ | refine AM.drawW_loose (id := 17) hp (by kernel_rfl) (by kernel_rfl) ?_ | refine AM.drawW_loose (id := 22) hp (by kernel_rfl) (by kernel_rfl) ?_ | refine AM.opW_tied (by kernel_rfl) ?_ | refine AM.opW_untied (by kernel_rfl) ?_ | refine AM.build_w ?_))
      generalize hE_ : AHeap.put (AHeap.alloc h12 _) _ _ = h13; obtain ⟨g13, fr13, n13, l13⟩ := AM.box_get hE_ (by omega); clear hE_
      (repeat' (first | (simp (maxSteps := 1000000) (disch := first | omega | (simp only [AM.DB, List.length_set, List.length_map]; first | done | omega)) only [AM.RB, Nat.reduceAdd, Nat.reduceMul, Nat.reduceEqDiff, reduceCtorEq, b83_RT11]) | refine AM.drawW_fine (id := 11) hp (by kernel_rfl) (by kernel_rfl) (by kernel_rfl) ?_ | refine AM.drawW_fine (id := 14) hp (by kernel_rfl) (by kernel_rfl) (by kernel_rfl) ?_ | refine AM.drawW_loose (id := 17) hp (by kernel_rfl) (by kernel_rfl) ?_ | refine AM.drawW_loose (id := 22) hp (by kernel_rfl) (by kernel_rfl) ?_ | refine AM.opW_tied (by kernel_rfl) ?_ | refine AM.opW_untied (by kernel_rfl) ?_ | refine AM.build_w ?_))
      obtain ⟨e1, e2, e3⟩ := si.fin f hfr hto (.inl hP) S.cl
      obtain ⟨dl, g, q, ln⟩ := S.gd
      have fr1 := fr12.trans fr13
      rw [e1]
      exact hq _ dl (g.fr0 fr1) (by rw [← e2]; exact q) (ln.trans e3) (S.m.more fr1 fun id e => .inl (.inl e)) (S.fr'.trans fr1.weak)
    have hl12 := fr12.hl hl11
    (repeat' (first | (simp (maxSteps := 1000000) (disch := first | omega | (simp only [AM.DB, List.length_set, List.length_map]; first | done | omega)) only [AM.RB, Nat.reduceAdd, Nat.reduceMul, Nat.reduceEqDiff, reduceCtorEq, b83_RT11]) | refine AM.drawW_fine (id := 11) hp (by kernel_rfl) (by kernel_rfl) (by kernel_rfl) ?_ | refine AM.drawW_fine (id := 14) hp (by kernel_rfl) (by kernel_rfl) (by kernel_rfl) ?_ | refine AM.drawW_loose (id := 17) hp (by kernel_rfl) (by kernel_rfl) ?_ | refine AM.drawW_loose (id := 22) hp (by kernel_rfl) (by kernel_rfl) ?_ | refine AM.opW_tied (by kernel_rfl) ?_ | refine AM.opW_untied (by kernel_rfl) ?_ | refine AM.build_w ?_))
    generalize hE_ : AHeap.put (AHeap.alloc h12 _) _ _ = h13; obtain ⟨g13, fr13, n13, l13⟩ := AM.box_get hE_ (by omega); clear hE_
    have hlP : ∀ y ∈ P, AM.leI (AM.at' P 0) y := fun y hy => S.hp.least' hy
    have fr13b : Fr (fun id => id = b9 ∨ idOf v9 id) h11 h13 := fr12.trans fr13.weak
    have S13 : LkS h h13 p sp o1 o2 h.next b4 b8 b9 kid L fr ml B0 K C Cl P' v' := by
      obtain ⟨kl, gk, qk⟩ := S.gk
      obtain ⟨dl, gd', qd, ln⟩ := S.gd
      have nv := S.nv
      have c9 := O.c9
      have ck := O.ck
      have nk : ¬ (kid = b9 ∨ idOf v9 kid) := fun e => e.elim (fun e => by omega) fun e => (nv _ e).2.1 rfl
      have no : ¬ (o2 = b9 ∨ idOf v9 o2) := fun e => e.elim (fun e => by omega) fun e => by have := (nv _ e).1; omega
      refine S.step O fr13b (fun id e => e.elim (fun e => .inr (.inr (.inr (.inl e)))) fun e => .inr (.inr (.inr (.inr e)))) (pl12.fr0 fr13) hp12 ⟨kl, fr13b.get gk nk, qk⟩ ⟨dl, fr13b.get gd' no, qd, ln⟩ S.cl ?_ fun id e => nv id (hid12 id e)
      refine S.m.frC fr13b (fun id e => ?_) fun id e => .inl ?_
      · rcases e with e | e
        · exact .inr (.inr (.inr (.inr (.inl e))))
        · exact .inr (.inr (.inr (.inr (.inr (.inr (.inr e))))))
      · rcases e with e | e | e | e | e | e | e | e
        · exact .inl e
        · exact .inr (.inl e)
        · exact .inr (.inr (.inl e))
        · exact .inr (.inr (.inr (.inl e)))
        · exact .inr (.inr (.inr (.inr (.inl e))))
        · exact .inr (.inr (.inr (.inr (.inr (.inl e)))))
        · exact .inr (.inr (.inr (.inr (.inr (.inr (.inl e))))))
        · exact .inr (.inr (.inr (.inr (.inr (.inr (.inr (hid12 id e)))))))
    have pln := pm12.length_eq
    rw [List.length_cons] at pln
    rcases si with ⟨ho, f0, st, hs⟩ | ⟨_, e, _⟩
    case inr => exact absurd e hP
    have si : SI L B fr to K C P far := .inl ⟨ho, f0, st, hs⟩
    generalize AM.at' P 0 = q at *
    have hcons : ∀ x y, y ∈ nbB L B fr x → farL L fr x ≤ farL L fr y + 1 := fun x y h => (far_nb f h).1
    have hl13 := fr13.hl hl12
    have s3 := S13.g3
    have sgs := S13.gs
    have nx12 := fr12.next
    by_cases c1 : 0 ≤ far
    case' pos =>
      rcases Classical.em (far < q.1) with c2 | c2
    case' pos.inl =>
      (repeat' (first | (simp (maxSteps := 1000000) (disch := first | omega | (simp only [AM.DB, List.length_set, List.length_map]; first | done | omega)) only [AM.RB, Nat.reduceAdd, Nat.reduceMul, Nat.reduceEqDiff, reduceCtorEq, b83_RT11, decide_eq_true c1, g13, decide_eq_true c2]) | refine AM.drawW_fine (id := 11) hp (by kernel_rfl) (by kernel_rfl) (by kernel_rfl) ?_ | refine AM.drawW_fine (id := 14) hp (by kernel_rfl) (by kernel_rfl) (by kernel_rfl) ?_ | refine AM.drawW_loose (id := 17) hp (by kernel_rfl) (by kernel_rfl) ?_ | refine AM.drawW_loose (id := 22) hp (by kernel_rfl) (by kernel_rfl) ?_ | refine AM.opW_tied (by kernel_rfl) ?_ | refine AM.opW_untied (by kernel_rfl) ?_ | refine AM.build_w ?_))
      obtain ⟨e1, e2, e3⟩ := si.fin f hfr hto (.inr ⟨c1, fun y hy => by have := (hlP y hy).cost; omega⟩) S.cl
      obtain ⟨dl, g, q', ln⟩ := S13.gd
      rw [e1]
      exact hq _ dl g (by rw [← e2]; exact q') (ln.trans e3) (S13.m.less fun id e => .inl e) S13.fr'
    case' pos.inr =>
      have hle : 0 ≤ far → q.1 ≤ far := fun _ => by omega
      (repeat' (first | (simp (maxSteps := 1000000) (disch := first | omega | (simp only [AM.DB, List.length_set, List.length_map]; first | done | omega)) only [AM.RB, Nat.reduceAdd, Nat.reduceMul, Nat.reduceEqDiff, reduceCtorEq, b83_RT11, decide_eq_true c1, g13, decide_eq_false c2]) | refine AM.drawW_fine (id := 11) hp (by kernel_rfl) (by kernel_rfl) (by kernel_rfl) ?_ | refine AM.drawW_fine (id := 14) hp (by kernel_rfl) (by kernel_rfl) (by kernel_rfl) ?_ | refine AM.drawW_loose (id := 17) hp (by kernel_rfl) (by kernel_rfl) ?_ | refine AM.drawW_loose (id := 22) hp (by kernel_rfl) (by kernel_rfl) ?_ | refine AM.opW_tied (by kernel_rfl) ?_ | refine AM.opW_untied (by kernel_rfl) ?_ | refine AM.build_w ?_))
    case' neg =>
      have hle : 0 ≤ far → q.1 ≤ far := fun t => absurd t c1
      (repeat' (first | (simp (maxSteps := 1000000) (disch := first | omega | (simp only [AM.DB, List.length_set, List.length_map]; first | done | omega)) only [AM.RB, Nat.reduceAdd, Nat.reduceMul, Nat.reduceEqDiff, reduceCtorEq, b83_RT11, decide_eq_false c1]) | refine AM.drawW_fine (id := 11) hp (by kernel_rfl) (by kernel_rfl) (by kernel_rfl) ?_ | refine AM.drawW_fine (id := 14) hp (by kernel_rfl) (by kernel_rfl) (by kernel_rfl) ?_ | refine AM.drawW_loose (id := 17) hp (by kernel_rfl) (by kernel_rfl) ?_ | refine AM.drawW_loose (id := 22) hp (by kernel_rfl) (by kernel_rfl) ?_ | refine AM.opW_tied (by kernel_rfl) ?_ | refine AM.opW_untied (by kernel_rfl) ?_ | refine AM.build_w ?_))
    all_goals
      obtain ⟨dl, gd13, qd13, ln13⟩ := S13.gd
      have qC := qd13 q.2
      cases hC : C q.2
    case' pos.inr.some | neg.some =>
      rename_i d0
      rw [hC] at qC
      simp only [Option.map_some] at qC
      (repeat' (first | (simp (maxSteps := 1000000) (disch := first | omega | (simp only [AM.DB, List.length_set, List.length_map]; first | done | omega)) only [AM.RB, Nat.reduceAdd, Nat.reduceMul, Nat.reduceEqDiff, reduceCtorEq, b83_RT11, s3, sgs, g13, AM.lookup_enc2 mp_98 gd13, qC, Option.isSome_some]) | refine AM.drawW_fine (id := 11) hp (by kernel_rfl) (by kernel_rfl) (by kernel_rfl) ?_ | refine AM.drawW_fine (id := 14) hp (by kernel_rfl) (by kernel_rfl) (by kernel_rfl) ?_ | refine AM.drawW_loose (id := 17) hp (by kernel_rfl) (by kernel_rfl) ?_ | refine AM.drawW_loose (id := 22) hp (by kernel_rfl) (by kernel_rfl) ?_ | refine AM.opW_tied (by kernel_rfl) ?_ | refine AM.opW_untied (by kernel_rfl) ?_ | refine AM.build_w ?_))
      refine ⟨(far, P'.length + 1025 * (L.flatten.length - Cl.length)), by simp only; omega, ?_, K, C, Cl, P', v', S13, .inl ⟨ho, q.1, st.drop pm12 hlP (by rw [hC]; simp), hs.imp (fun e => e) fun e => ⟨e.1, e.2.1, hle e.1⟩⟩, rfl, by simp only; omega⟩
      simp (maxSteps := 1000000) (disch := first | omega | (simp only [AM.DB, List.length_set, List.length_map]; first | done | omega)) only [AM.RB, Nat.reduceAdd, Nat.reduceMul, Nat.reduceEqDiff, reduceCtorEq, b83_RT11]
      first | rfl | skip
    all_goals
      rw [hC] at qC
      simp only [Option.map_none] at qC
      obtain ⟨k, hk, k0, hq1, hdist, st'⟩ := st.close hcons pm12 hlP hC
      have kbd := isD.bound (nbB_in f B fr) hto hdist
      have fbd := far_bd f fr q.2
      obtain ⟨kl, gk13, qk13⟩ := S13.gk
      have qK := qk13 q.2
      rw [hk] at qK
      simp only [Option.map_some] at qK
      have s11 := S13.g11
      have s4 := S13.g4
      (repeat' (first | (simp (maxSteps := 1000000) (disch := first | omega | (simp only [AM.DB, List.length_set, List.length_map]; first | done | omega)) only [AM.RB, Nat.reduceAdd, Nat.reduceMul, Nat.reduceEqDiff, reduceCtorEq, b83_RT11, s3, sgs, g13, AM.lookup_enc2 mp_98 gd13, qC, Option.isSome_none, s11, AM.lookup_enc mp_98 gk13, qK]) | refine AM.drawW_fine (id := 11) hp (by kernel_rfl) (by kernel_rfl) (by kernel_rfl) ?_ | refine AM.drawW_fine (id := 14) hp (by kernel_rfl) (by kernel_rfl) (by kernel_rfl) ?_ | refine AM.drawW_loose (id := 17) hp (by kernel_rfl) (by kernel_rfl) ?_ | refine AM.drawW_loose (id := 22) hp (by kernel_rfl) (by kernel_rfl) ?_ | refine AM.opW_tied (by kernel_rfl) ?_ | refine AM.opW_untied (by kernel_rfl) ?_ | refine AM.build_w ?_))
      generalize hE_ : AHeap.put (AHeap.alloc h13 _) _ _ = h14; obtain ⟨g14, fr14, n14, l14⟩ := AM.box_get hE_ (by omega); clear hE_
      have gd14 := gd13.fr0 fr14
      have lo14 : h14.low ≤ o2 := by have := S13.fr'.low; have := fr14.low; omega
      have s314 := s3.fr0 fr14
      have sgs14 := sgs.fr0 fr14
      have g1314 := g13.fr0 fr14
      (repeat' (first | (simp (maxSteps := 1000000) (disch := first | omega | (simp only [AM.DB, List.length_set, List.length_map]; first | done | omega)) only [AM.RB, Nat.reduceAdd, Nat.reduceMul, Nat.reduceEqDiff, reduceCtorEq, b83_RT11, s314, sgs14, g1314, g14, AM.update_enc mp_98 gd14 lo14]) | refine AM.drawW_fine (id := 11) hp (by kernel_rfl) (by kernel_rfl) (by kernel_rfl) ?_ | refine AM.drawW_fine (id := 14) hp (by kernel_rfl) (by kernel_rfl) (by kernel_rfl) ?_ | refine AM.drawW_loose (id := 17) hp (by kernel_rfl) (by kernel_rfl) ?_ | refine AM.drawW_loose (id := 22) hp (by kernel_rfl) (by kernel_rfl) ?_ | refine AM.opW_tied (by kernel_rfl) ?_ | refine AM.opW_untied (by kernel_rfl) ?_ | refine AM.build_w ?_))
      generalize hE_ : AHeap.put h14 _ _ = h15; obtain ⟨g15, fr15, n15, l15⟩ := AM.put_get hE_ (by omega); clear hE_
      have fr1315 : Fr (fun id => id = o2) h13 h15 := fr14.weak.trans fr15
      have nvo : ∀ id, idOf v' id → ¬ id = o2 := fun id e t => by have := (S13.nv id e).1; have := O.c9; omega
      have S15 : LkS h h15 p sp o1 o2 h.next b4 b8 b9 kid L fr ml B0 K (AM.upd C q.2 k) (q.2 :: Cl) P' v' := by
        have ck := O.ck
        refine S13.step O fr1315 (fun id e => .inr (.inl e)) (S13.pl.fr fr1315 (by omega) nvo) hp12 ⟨kl, fr1315.get gk13 (by omega), qk13⟩ ⟨_, g15, map_upd qd13 q.2 k, by rw [mset_len qC, ln13, List.length_cons]⟩ ⟨List.nodup_cons.2 ⟨fun e => (S13.cl.2 _).1 e hC, S13.cl.1⟩, fun x => ?_⟩ (S13.m.frC fr1315 (fun id e => .inl (by rw [e]; exact hB0.2.2)) fun id e => .inl e) S13.nv
        rw [List.mem_cons, S13.cl.2]
        by_cases t : x = q.2
        · rw [t, AM.upd_self]; simp
        · rw [AM.upd_ne t]; simp [t]
      have s414 := s4.fr0 fr14
      have s415 := S15.g4
      have s315 := S15.g3
      have sgs15 := S15.gs
      have g1315 := fr15.get g1314 (fun e => by omega)
      have g1415 := fr15.get g14 (fun e => by have := fr13.next; omega)
      have hl15 := S15.fr'.hl hl
      have hw15 := S15.fr'.get hw (fun e => e.elim hgp d6)
      have low15 := S15.fr'.low
      cases eb : decide (q.2 = fr)
    case' pos.inr.none.true | neg.none.true =>
      have e := of_decide_eq_true eb
      obtain ⟨F, hF, hsF⟩ : ∃ F, F = k ∧ ((F = -1 ∧ AM.upd C q.2 k fr = none) ∨ (0 ≤ F ∧ AM.upd C q.2 k fr = some F ∧ q.1 ≤ F)) := by
        refine ⟨k, rfl, .inr ⟨k0, by rw [← e]; exact AM.upd_self _ _ _, ?_⟩⟩
        have := far_self hfr
        rw [hq1, e]; omega
      (repeat' (first | (simp (maxSteps := 1000000) (disch := first | omega | (simp only [AM.DB, List.length_set, List.length_map]; first | done | omega)) only [AM.RB, Nat.reduceAdd, Nat.reduceMul, Nat.reduceEqDiff, reduceCtorEq, b83_RT11, s414, s415, g1314, g1315, g14, g1415, eb, s315, sgs15]) | refine AM.drawW_fine (id := 11) hp (by kernel_rfl) (by kernel_rfl) (by kernel_rfl) ?_ | refine AM.drawW_fine (id := 14) hp (by kernel_rfl) (by kernel_rfl) (by kernel_rfl) ?_ | refine AM.drawW_loose (id := 17) hp (by kernel_rfl) (by kernel_rfl) ?_ | refine AM.drawW_loose (id := 22) hp (by kernel_rfl) (by kernel_rfl) ?_ | refine AM.opW_tied (by kernel_rfl) ?_ | refine AM.opW_untied (by kernel_rfl) ?_ | refine AM.build_w ?_))
    case' pos.inr.none.false | neg.none.false =>
      have e := of_decide_eq_false eb
      obtain ⟨F, hF, hsF⟩ : ∃ F, F = far ∧ ((F = -1 ∧ AM.upd C q.2 k fr = none) ∨ (0 ≤ F ∧ AM.upd C q.2 k fr = some F ∧ q.1 ≤ F)) :=
        ⟨far, rfl, hs.imp (fun t => ⟨t.1, by rw [AM.upd_ne (Ne.symm e)]; exact t.2⟩) fun t => ⟨t.1, by rw [AM.upd_ne (Ne.symm e)]; exact t.2.1, hle t.1⟩⟩
      (repeat' (first | (simp (maxSteps := 1000000) (disch := first | omega | (simp only [AM.DB, List.length_set, List.length_map]; first | done | omega)) only [AM.RB, Nat.reduceAdd, Nat.reduceMul, Nat.reduceEqDiff, reduceCtorEq, b83_RT11, s414, s415, g1314, g1315, g14, g1415, eb, s315, sgs15]) | refine AM.drawW_fine (id := 11) hp (by kernel_rfl) (by kernel_rfl) (by kernel_rfl) ?_ | refine AM.drawW_fine (id := 14) hp (by kernel_rfl) (by kernel_rfl) (by kernel_rfl) ?_ | refine AM.drawW_loose (id := 17) hp (by kernel_rfl) (by kernel_rfl) ?_ | refine AM.drawW_loose (id := 22) hp (by kernel_rfl) (by kernel_rfl) ?_ | refine AM.opW_tied (by kernel_rfl) ?_ | refine AM.opW_untied (by kernel_rfl) ?_ | refine AM.build_w ?_))
    all_goals
      refine backK_w S15.m f hw15 (by omega) hl15 q.2 fun vB h16 m16 oB fr16 hidB => ?_
      obtain ⟨ka, kc, rfl⟩ := oB.form
      have hl16 := fr16.hl hl15
      have c9 := O.c9
      have ck := O.ck
      have nx15 := S15.fr'.next
      have nx16 := fr16.next
      have s316 := fr16.get s315 (fun t => by omega)
      have sgs16 := fr16.get sgs15 d1
      have lt12 := AM.get_some_lt g13
      have g1316 := fr16.get g1315 (fun t => by omega)
      have g1416 := fr16.get g1415 (fun t => by have := fr13.next; omega)
      (repeat' (first | (simp (maxSteps := 1000000) (disch := first | omega | (simp only [AM.DB, List.length_set, List.length_map]; first | done | omega)) only [AM.RB, Nat.reduceAdd, Nat.reduceMul, Nat.reduceEqDiff, reduceCtorEq, b83_RT11]) | refine AM.drawW_fine (id := 11) hp (by kernel_rfl) (by kernel_rfl) (by kernel_rfl) ?_ | refine AM.drawW_fine (id := 14) hp (by kernel_rfl) (by kernel_rfl) (by kernel_rfl) ?_ | refine AM.drawW_loose (id := 17) hp (by kernel_rfl) (by kernel_rfl) ?_ | refine AM.drawW_loose (id := 22) hp (by kernel_rfl) (by kernel_rfl) ?_ | refine AM.opW_tied (by kernel_rfl) ?_ | refine AM.opW_untied (by kernel_rfl) ?_ | refine AM.build_w ?_))
      refine sfree_w fun h17 gA gB fr17 n17 l17 => ?_
      have s317 := s316.fr0 fr17
      have sgs17 := sgs16.fr0 fr17
      have g1317 := g1316.fr0 fr17
      have g1417 := g1416.fr0 fr17
      (repeat' (first | (simp (maxSteps := 1000000) (disch := first | omega | (simp only [AM.DB, List.length_set, List.length_map]; first | done | omega)) only [AM.RB, Nat.reduceAdd, Nat.reduceMul, Nat.reduceEqDiff, reduceCtorEq, b83_RT11]) | refine AM.drawW_fine (id := 11) hp (by kernel_rfl) (by kernel_rfl) (by kernel_rfl) ?_ | refine AM.drawW_fine (id := 14) hp (by kernel_rfl) (by kernel_rfl) (by kernel_rfl) ?_ | refine AM.drawW_loose (id := 17) hp (by kernel_rfl) (by kernel_rfl) ?_ | refine AM.drawW_loose (id := 22) hp (by kernel_rfl) (by kernel_rfl) ?_ | refine AM.opW_tied (by kernel_rfl) ?_ | refine AM.opW_untied (by kernel_rfl) ?_ | refine AM.build_w ?_))
      refine ⟨AM.looseOk_by [(0, [0, 8])] (by kernel_rfl) ?_, ?_⟩
      · simp (maxSteps := 1000000) (disch := first | omega | (simp only [AM.DB, List.length_set, List.length_map]; first | done | omega)) only [AM.RB, Nat.reduceAdd, Nat.reduceMul, Nat.reduceEqDiff, reduceCtorEq, b83_RT11]
        (repeat' apply And.intro) <;> (first | (refine AM.stable_len _ _ _ _ _ _ (fun _ => ?_); (simp (maxSteps := 1000000) (disch := first | omega | (simp only [AM.DB, List.length_set, List.length_map]; first | done | omega)) only [AM.RB, Nat.reduceAdd, Nat.reduceMul, Nat.reduceEqDiff, reduceCtorEq, b83_RT11, s315, s316, s317, sgs15, sgs16, sgs17, g1315, g1316, g1317])) | (refine AM.stable_load _ _ _ _ _ _ ?_; (first | (simp (maxSteps := 1000000) (disch := first | omega | (simp only [AM.DB, List.length_set, List.length_map]; first | done | omega)) only [AM.RB, Nat.reduceAdd, Nat.reduceMul, Nat.reduceEqDiff, reduceCtorEq, b83_RT11, s315, s316, s317, sgs15, sgs16, sgs17, g1315, g1316, g1317]) | skip); (first | (refine AM.stabL_int (by omega) ?_; (simp (maxSteps := 1000000) (disch := first | omega | (simp only [AM.DB, List.length_set, List.length_map]; first | done | omega)) only [AM.RB, Nat.reduceAdd, Nat.reduceMul, Nat.reduceEqDiff, reduceCtorEq, b83_RT11, s315, s316, s317, sgs15, sgs16, sgs17, g1315, g1316, g1317])) | (refine AM.stabL_ptr (by omega) (by omega) ?_; (simp (maxSteps := 1000000) (disch := first | omega | (simp only [AM.DB, List.length_set, List.length_map]; first | done | omega)) only [AM.RB, Nat.reduceAdd, Nat.reduceMul, Nat.reduceEqDiff, reduceCtorEq, b83_RT11, s315, s316, s317, sgs15, sgs16, sgs17, g1315, g1316, g1317])) | (refine AM.stabL_string (by omega) ?_; (simp (maxSteps := 1000000) (disch := first | omega | (simp only [AM.DB, List.length_set, List.length_map]; first | done | omega)) only [AM.RB, Nat.reduceAdd, Nat.reduceMul, Nat.reduceEqDiff, reduceCtorEq, b83_RT11, s315, s316, s317, sgs15, sgs16, sgs17, g1315, g1316, g1317])) | (refine AM.stabL_bool (by omega) ?_; (simp (maxSteps := 1000000) (disch := first | omega | (simp only [AM.DB, List.length_set, List.length_map]; first | done | omega)) only [AM.RB, Nat.reduceAdd, Nat.reduceMul, Nat.reduceEqDiff, reduceCtorEq, b83_RT11, s315, s316, s317, sgs15, sgs16, sgs17, g1315, g1316, g1317])))))
      have fr1517 : Fr (fun id => id = p) h15 h17 := fr16.trans fr17.weak
      have n17' := fr1517.next
      obtain ⟨kl15, gk15, qk15⟩ := S15.gk
      obtain ⟨dl15, gd15, qd15, ln15⟩ := S15.gd
      have nv' := S15.nv
      have S17 : LkS h h17 p sp o1 o2 h.next b4 b8 b9 kid L fr ml B0 K (AM.upd C q.2 k) (q.2 :: Cl) P' v' :=
        S15.step O fr1517 (fun id t => .inl t) (S15.pl.fr fr1517 (by omega) fun id t t2 => by have := (nv' id t).1; omega) S15.hp ⟨kl15, fr1517.get gk15 (by omega), qk15⟩ ⟨dl15, fr1517.get gd15 d3, qd15, ln15⟩ S15.cl (m16.fr0 fr17) nv'
      have u17 := S17.m
      have hl17 := S17.fr'.hl hl
      have low17 := S17.fr'.low
      have rB := oB.rd.fr0 fr17
      have bl := backL_len f q.2
      have gk17 := S17.gk
      have lv' : ∀ id, idOf v' id → b9 < id ∧ id < h12.next ∧ ¬ id = kid ∧ ¬ id = kid + 1 := fun id t => ⟨(nv' id t).1, pl12.o.lt t, (nv' id t).2.1, (nv' id t).2.2⟩
      have ltk := AM.get_some_lt S.g11
      have clN' : (q.2 :: Cl).length ≤ L.flatten.length := by
        refine AM.nodup_len S15.cl.1 fun x hx => ?_
        rcases List.mem_cons.1 hx with hx | hx
        · rw [hx]; exact Wk.ok (ok := fun z => 0 ≤ z ∧ z < (L.flatten.length : Int)) hto (nbB_in f B fr) hdist.1
        · have := (S.cl.2 x).1 hx
          cases hc : C x with
          | none => exact absurd hc this
          | some d => exact Wk.ok (ok := fun z => 0 ≤ z ∧ z < (L.flatten.length : Int)) hto (nbB_in f B fr) (st.cd x d hc).2.1.1
      rw [List.length_cons] at clN'
      let core : Nat → (Nat → Prop) → AHeap → Prop := fun t Sx h' => ∃ K' P2 v2, (∃ kl, h'.get kid = some (.map (encM kl)) ∧ ∀ x, mgetL kl x = (K' x).map (.int .i64)) ∧ Pl h' b9 P2 v2 ∧ AM.HeapP P2 ∧ AM.Star (nbB L B fr) to (farL L fr) (fun z => if z = q.2 then (nbB L B fr q.2).take t else nbB L B fr z) K' (AM.upd C q.2 k) P2 q.1 ∧ P2.length ≤ P'.length + t ∧
        (∀ id, idOf v2 id → Sx id ∨ idOf v' id) ∧ (∀ id, Sx id → h17.next ≤ id) ∧ Fr (fun id => id = kid ∨ id = b9 ∨ idOf v' id) h17 h'
      refine AM.range_iter hp (R := fun id => id = h16.next + 1 ∨ id = h16.next ∨ id = sp ∨ id = o1 ∨ idOf (.slice ka (backL L q.2).length kc) id) (xs := (nbB L B fr q.2).map fun c => [.int .i64 c]) (AM.entersV_of Tryd.func82 rfl) (by kernel_rfl) (by kernel_rfl) ?_ ?_ hl17 ?_
        (fun t => AM.JK h17.next (core t)) (fun _ _ _ => False) ?_ (fun _ => AM.Stab.no) (fun env x => (env.set 88 (x.getD 0 undef)).set 17 (x.getD 0 undef)) ?_ ?_ ?_ ?_ ?_
      · intro y hy; obtain ⟨z, _, rfl⟩ := List.mem_map.1 hy; rfl
      · rintro id (rfl | rfl | rfl | rfl | t)
        · omega
        · omega
        · omega
        · omega
        · exact rB.lt t
      · exact free1_w gB gA S17.gs S17.gm om rB (by omega)
      · refine fun t => AM.JK.stab ?_
        rintro Sx x y hB ⟨K', P2, v2, ⟨kl2, q1, q2⟩, q3, q4, q5, q6, q7, q8, q9⟩ hS hBl hn' hl'
        have lk17 : kid < h17.next := by omega
        have lb17 : b9 < h17.next := by omega
        refine ⟨K', P2, v2, ⟨kl2, by rw [hBl _ lk17]; exact q1, q2⟩, ⟨by rw [hBl _ lb17]; exact q3.g, q3.o.same (fun id t => ?_) hl', by rw [hl']; exact q3.lo, q3.na⟩, q4, q5, q6, q7, q8, Fr.ext2 q9 hBl hn' hl'⟩
        rcases q7 id t with t | t
        · exact hS id t
        · exact hBl id (by have := lv' id t; omega)
      · intro y hy h18
        obtain ⟨z, _, rfl⟩ := List.mem_map.1 hy
        simp (maxSteps := 1000000) (disch := first | omega | (simp only [AM.DB, List.length_set, List.length_map]; first | done | omega)) only [AM.RB, Nat.reduceAdd, Nat.reduceMul, Nat.reduceEqDiff, reduceCtorEq, b83_RT11]
      · intro o
        have fr11 : Fr none' h17 (h17.alloc o) := (Fr.refl _ _).alloc _
        obtain ⟨kl2, q1, q2⟩ := gk17
        exact ⟨Nat.le_succ _, fun id t => by omega, none', ⟨K, P', v', ⟨kl2, q1.fr0 fr11, q2⟩, S17.pl.fr0 fr11, S17.hp, by simp only [List.take_zero]; exact st', by omega, fun id t => .inr t, fun id t => t.elim, fr11.weak⟩, fun id t => t.elim⟩
      · rintro t y A1 h18 hy ⟨hB, hA, Sx, ⟨K', P2, v2, ⟨kl2, q1, q2⟩, q3, q4, q5, q6, q7, q8, q9⟩, hSx⟩ hA1 hL hlow hR
        rw [List.getElem?_map] at hy
        obtain ⟨b, hb, rfl⟩ := Option.map_eq_some_iff.1 hy
        have htl : t < (nbB L B fr q.2).length := (List.getElem?_eq_some_iff.1 hb).1
        have htk : (nbB L B fr q.2).take (t + 1) = (nbB L B fr q.2).take t ++ [b] := by
          rw [List.take_succ_eq_append_getElem htl]
          congr 2
          exact (List.getElem?_eq_some_iff.1 hb).2
        have hbm : b ∈ nbB L B fr q.2 := List.mem_of_getElem? hb
        have kx : AM.upd C q.2 k q.2 = some k := AM.upd_self _ _ _
        have nT : ∀ id, (id < b9 ∨ id = kid + 1 ∨ h12.next ≤ id) → ¬ (id = kid ∨ id = b9 ∨ idOf v' id) := fun id hi t => by
          rcases t with t | t | t
          · omega
          · omega
          · have := lv' id t; omega
        have u3 := q9.get S17.g3 (nT _ (by omega))
        have u4 := q9.get S17.g4 (nT _ (by omega))
        have u8 := q9.get S17.g8 (nT _ (by omega))
        have us := q9.get S17.gs (nT _ (by omega))
        have u11 := q9.get S17.g11 (nT _ (by omega))
        have u16 := q9.get g1417 (nT _ (by have := fr13.next; omega))
        have qb := q2 b
        have lk18 : h18.low ≤ kid := by have := q9.low; omega
        have fb := far_bd f fr b
        have w1 : IntKind.i64.wrap (k + 1) = k + 1 := AM.wrap_i64 (by omega) (by omega)
        have w2 : IntKind.i64.wrap (k + 1 + farL L fr b) = k + 1 + farL L fr b := AM.wrap_i64 (by omega) (by omega)
        have hl18 := q9.hl hl17
        have xlen : (nbB L B fr q.2).length ≤ 1024 := Nat.le_trans (List.length_filter_le _ _) bl
        cases hKb : K' b
        case' some =>
          rename_i kb
          rw [hKb] at qb
          simp only [Option.map_some] at qb
          cases ec : decide (k + 1 < kb)
        case' some.false =>
          have q5' := q5.pass kx hKb (of_decide_eq_false ec)
          (repeat' (first | (simp (maxSteps := 1000000) (disch := first | omega | (simp only [AM.DB, List.length_set, List.length_map]; first | done | omega)) only [AM.RB, Nat.reduceAdd, Nat.reduceMul, Nat.reduceEqDiff, reduceCtorEq, b83_RT11, u11, u16, AM.lookup_enc2 mp_98 q1, qb, Option.isSome_some, w1, ec]) | refine AM.drawW_fine (id := 11) hp (by kernel_rfl) (by kernel_rfl) (by kernel_rfl) ?_ | refine AM.drawW_fine (id := 14) hp (by kernel_rfl) (by kernel_rfl) (by kernel_rfl) ?_ | refine AM.drawW_loose (id := 17) hp (by kernel_rfl) (by kernel_rfl) ?_ | refine AM.drawW_loose (id := 22) hp (by kernel_rfl) (by kernel_rfl) ?_ | refine AM.opW_tied (by kernel_rfl) ?_ | refine AM.opW_untied (by kernel_rfl) ?_ | refine AM.build_w ?_))
          refine ⟨Nat.le_refl _, fun _ _ _ => trivial, hB, hA, Sx, ⟨K', P2, v2, ⟨kl2, q1, q2⟩, q3, q4, by rw [htk]; exact q5', by omega, q7, q8, q9⟩, hSx⟩
        case' none =>
          have hkk : ∀ kb, K' b = some kb → k + 1 < kb := fun kb t => by rw [hKb] at t; cases t
          rw [hKb] at qb
          simp only [Option.map_none] at qb
          (repeat' (first | (simp (maxSteps := 1000000) (disch := first | omega | (simp only [AM.DB, List.length_set, List.length_map]; first | done | omega)) only [AM.RB, Nat.reduceAdd, Nat.reduceMul, Nat.reduceEqDiff, reduceCtorEq, b83_RT11, u11, u16, AM.lookup_enc2 mp_98 q1, qb, Option.isSome_none, w1, AM.update_enc mp_98 q1 lk18]) | refine AM.drawW_fine (id := 11) hp (by kernel_rfl) (by kernel_rfl) (by kernel_rfl) ?_ | refine AM.drawW_fine (id := 14) hp (by kernel_rfl) (by kernel_rfl) (by kernel_rfl) ?_ | refine AM.drawW_loose (id := 17) hp (by kernel_rfl) (by kernel_rfl) ?_ | refine AM.drawW_loose (id := 22) hp (by kernel_rfl) (by kernel_rfl) ?_ | refine AM.opW_tied (by kernel_rfl) ?_ | refine AM.opW_untied (by kernel_rfl) ?_ | refine AM.build_w ?_))
        case' some.true =>
          have hkk : ∀ kb, K' b = some kb → k + 1 < kb := fun kb t => by rw [hKb] at t; cases t; exact of_decide_eq_true ec
          (repeat' (first | (simp (maxSteps := 1000000) (disch := first | omega | (simp only [AM.DB, List.length_set, List.length_map]; first | done | omega)) only [AM.RB, Nat.reduceAdd, Nat.reduceMul, Nat.reduceEqDiff, reduceCtorEq, b83_RT11, u11, u16, AM.lookup_enc2 mp_98 q1, qb, Option.isSome_some, w1, ec, AM.update_enc mp_98 q1 lk18]) | refine AM.drawW_fine (id := 11) hp (by kernel_rfl) (by kernel_rfl) (by kernel_rfl) ?_ | refine AM.drawW_fine (id := 14) hp (by kernel_rfl) (by kernel_rfl) (by kernel_rfl) ?_ | refine AM.drawW_loose (id := 17) hp (by kernel_rfl) (by kernel_rfl) ?_ | refine AM.drawW_loose (id := 22) hp (by kernel_rfl) (by kernel_rfl) ?_ | refine AM.opW_tied (by kernel_rfl) ?_ | refine AM.opW_untied (by kernel_rfl) ?_ | refine AM.build_w ?_))
        all_goals
          generalize hE_ : AHeap.put h18 _ _ = h19; obtain ⟨g19, fr19, n19, l19⟩ := AM.put_get hE_ (by omega); clear hE_
          have lv2 : ∀ id, idOf v2 id → ¬ id = kid := fun id t => by
            rcases q7 id t with t | t
            · have := q8 id t; omega
            · exact (lv' id t).2.2.1
          have u319 := fr19.get u3 (fun t => by omega)
          have u419 := fr19.get u4 (fun t => by omega)
          have u819 := fr19.get u8 (fun t => by omega)
          have us19 := fr19.get us (fun t => by omega)
          have u1619 := fr19.get u16 (fun t => by have := fr13.next; omega)
          have qp19 := q3.fr fr19 (fun t => by omega) lv2
          have hl19 := fr19.hl hl18
          have m18 := u17.frB q9 fun id t => by
            rcases t with t | t | t
            · exact .inr (.inr (.inr (.inr (.inr (.inl t)))))
            · exact .inr (.inr (.inr (.inr (.inl t))))
            · exact .inr (.inr (.inr (.inr (.inr (.inr (.inr t))))))
          have m19 := m18.frB fr19 fun id t => .inr (.inr (.inr (.inr (.inr (.inl t)))))
          (repeat' (first | (simp (maxSteps := 1000000) (disch := first | omega | (simp only [AM.DB, List.length_set, List.length_map]; first | done | omega)) only [AM.RB, Nat.reduceAdd, Nat.reduceMul, Nat.reduceEqDiff, reduceCtorEq, b83_RT11, u1619, u819, u8, u16, w1]) | refine AM.drawW_fine (id := 11) hp (by kernel_rfl) (by kernel_rfl) (by kernel_rfl) ?_ | refine AM.drawW_fine (id := 14) hp (by kernel_rfl) (by kernel_rfl) (by kernel_rfl) ?_ | refine AM.drawW_loose (id := 17) hp (by kernel_rfl) (by kernel_rfl) ?_ | refine AM.drawW_loose (id := 22) hp (by kernel_rfl) (by kernel_rfl) ?_ | refine AM.opW_tied (by kernel_rfl) ?_ | refine AM.opW_untied (by kernel_rfl) ?_ | refine AM.build_w ?_))
          refine left_w u319 u419 us19 m19 f b ?_
          (repeat' (first | (simp (maxSteps := 1000000) (disch := first | omega | (simp only [AM.DB, List.length_set, List.length_map]; first | done | omega)) only [AM.RB, Nat.reduceAdd, Nat.reduceMul, Nat.reduceEqDiff, reduceCtorEq, b83_RT11, w2]) | refine AM.drawW_fine (id := 11) hp (by kernel_rfl) (by kernel_rfl) (by kernel_rfl) ?_ | refine AM.drawW_fine (id := 14) hp (by kernel_rfl) (by kernel_rfl) (by kernel_rfl) ?_ | refine AM.drawW_loose (id := 17) hp (by kernel_rfl) (by kernel_rfl) ?_ | refine AM.drawW_loose (id := 22) hp (by kernel_rfl) (by kernel_rfl) ?_ | refine AM.opW_tied (by kernel_rfl) ?_ | refine AM.opW_untied (by kernel_rfl) ?_ | refine AM.build_w ?_))
          refine push_w qp19 q4 hl19 (by omega) (k + 1 + farL L fr b, b) fun u P3 v3 h20 pl20 hp20 pm20 fr20 hid20 => ?_
          (repeat' (first | (simp (maxSteps := 1000000) (disch := first | omega | (simp only [AM.DB, List.length_set, List.length_map]; first | done | omega)) only [AM.RB, Nat.reduceAdd, Nat.reduceMul, Nat.reduceEqDiff, reduceCtorEq, b83_RT11]) | refine AM.drawW_fine (id := 11) hp (by kernel_rfl) (by kernel_rfl) (by kernel_rfl) ?_ | refine AM.drawW_fine (id := 14) hp (by kernel_rfl) (by kernel_rfl) (by kernel_rfl) ?_ | refine AM.drawW_loose (id := 17) hp (by kernel_rfl) (by kernel_rfl) ?_ | refine AM.drawW_loose (id := 22) hp (by kernel_rfl) (by kernel_rfl) ?_ | refine AM.opW_tied (by kernel_rfl) ?_ | refine AM.opW_untied (by kernel_rfl) ?_ | refine AM.build_w ?_))
          have nx20 := fr20.next
          have pln3 := pm20.length_eq
          rw [List.length_cons] at pln3
          have q5' := q5.push kx hq1 hbm (hcons q.2 b hbm) hkk pm20
          rw [← htk] at q5'
          have fr1820 : Fr (fun id => id = kid ∨ id = b9 ∨ idOf v2 id) h18 h20 := (fr19.mono fun id _ t => .inl t).trans (fr20.mono fun id _ t => .inr t)
          have gk20 := fr20.get g19 (fun t => t.elim (fun t => by omega) fun t => lv2 _ t rfl)
          have nx18 := fr1820.next
          have lo20 := fr1820.low
          have u1620 := fr20.get u1619 (fun t => t.elim (fun t => by have := fr13.next; omega) fun t => by
            rcases q7 _ t with t | t
            · have := q8 _ t; have := fr13.next; omega
            · have := lv' _ t; have := fr13.next; omega)
          have u820 := fr20.get u819 (fun t => t.elim (fun t => by omega) fun t => by
            rcases q7 _ t with t | t
            · have := q8 _ t; omega
            · have := lv' _ t; omega)
          refine ⟨AM.looseOk_by [(0, [0, 5])] (by kernel_rfl) ?_, ?_⟩
          · simp (maxSteps := 1000000) (disch := first | omega | (simp only [AM.DB, List.length_set, List.length_map]; first | done | omega)) only [AM.RB, Nat.reduceAdd, Nat.reduceMul, Nat.reduceEqDiff, reduceCtorEq, b83_RT11]
            (repeat' apply And.intro) <;> (first | (refine AM.stable_len _ _ _ _ _ _ (fun _ => ?_); (simp (maxSteps := 1000000) (disch := first | omega | (simp only [AM.DB, List.length_set, List.length_map]; first | done | omega)) only [AM.RB, Nat.reduceAdd, Nat.reduceMul, Nat.reduceEqDiff, reduceCtorEq, b83_RT11, u1619, u819, u8, u16, u1620, u820])) | (refine AM.stable_load _ _ _ _ _ _ ?_; (first | (simp (maxSteps := 1000000) (disch := first | omega | (simp only [AM.DB, List.length_set, List.length_map]; first | done | omega)) only [AM.RB, Nat.reduceAdd, Nat.reduceMul, Nat.reduceEqDiff, reduceCtorEq, b83_RT11, u1619, u819, u8, u16, u1620, u820]) | skip); (first | (refine AM.stabL_int (by omega) ?_; (simp (maxSteps := 1000000) (disch := first | omega | (simp only [AM.DB, List.length_set, List.length_map]; first | done | omega)) only [AM.RB, Nat.reduceAdd, Nat.reduceMul, Nat.reduceEqDiff, reduceCtorEq, b83_RT11, u1619, u819, u8, u16, u1620, u820])) | (refine AM.stabL_ptr (by omega) (by omega) ?_; (simp (maxSteps := 1000000) (disch := first | omega | (simp only [AM.DB, List.length_set, List.length_map]; first | done | omega)) only [AM.RB, Nat.reduceAdd, Nat.reduceMul, Nat.reduceEqDiff, reduceCtorEq, b83_RT11, u1619, u819, u8, u16, u1620, u820])) | (refine AM.stabL_string (by omega) ?_; (simp (maxSteps := 1000000) (disch := first | omega | (simp only [AM.DB, List.length_set, List.length_map]; first | done | omega)) only [AM.RB, Nat.reduceAdd, Nat.reduceMul, Nat.reduceEqDiff, reduceCtorEq, b83_RT11, u1619, u819, u8, u16, u1620, u820])) | (refine AM.stabL_bool (by omega) ?_; (simp (maxSteps := 1000000) (disch := first | omega | (simp only [AM.DB, List.length_set, List.length_map]; first | done | omega)) only [AM.RB, Nat.reduceAdd, Nat.reduceMul, Nat.reduceEqDiff, reduceCtorEq, b83_RT11, u1619, u819, u8, u16, u1620, u820])))))
          refine ⟨by omega, by omega, fun id hid t => fr1820.old id hid fun t' => ?_, by omega, hA, fun id => Sx id ∨ (idOf v3 id ∧ h18.next ≤ id), ⟨_, P3, v3, ⟨_, gk20, map_upd q2 b (k + 1)⟩, pl20, hp20, q5', by omega, fun id t => ?_, fun id t => ?_, q9.then fr1820 fun id hlt t => ?_⟩, fun id t => ?_⟩
          · have a1 : A1 id → h17.next ≤ id := hA id
            have a2 : idOf (.slice ka (backL L q.2).length kc) id → h15.next ≤ id := hidB id
            have a3 : idOf (.slice ka (backL L q.2).length kc) id → id < h17.next := fun t => rB.lt t
            have a4 : Sx id → h17.next ≤ id := q8 id
            have a5 : Sx id → ¬ A1 id := fun t => (hSx id t).2
            have a6 : idOf v' id → b9 < id ∧ id < h12.next := fun t => ⟨(lv' id t).1, (lv' id t).2.1⟩
            have z : (id = kid ∨ id = b9 ∨ idOf v' id) → False := fun z => by
              have z2 : b9 ≤ id ∧ id < h15.next ∧ id < h17.next := by
                rcases z with z | z | z
                · omega
                · omega
                · have := a6 z; omega
              rcases t with t | t | t | t | t | t
              · have := a1 t; omega
              · omega
              · omega
              · omega
              · omega
              · have := a2 t; omega
            rcases t' with t' | t' | t'
            · exact z (.inl t')
            · exact z (.inr (.inl t'))
            · rcases q7 id t' with t' | t'
              · rcases t with t | t | t | t | t | t
                · exact a5 t' t
                · have := a4 t'; omega
                · have := a4 t'; omega
                · have := a4 t'; omega
                · have := a4 t'; omega
                · have := a3 t; have := a4 t'; omega
              · exact z (.inr (.inr t'))
          · rcases hid20 id t with t2 | t2
            · rcases q7 id t2 with t2 | t2
              · exact .inl (.inl t2)
              · exact .inr t2
            · exact .inl (.inr ⟨t, by omega⟩)
          · rcases t with t | t
            · exact q8 id t
            · have := q9.next; omega
          · rcases t with t | t | t
            · exact .inl t
            · exact .inr (.inl t)
            · rcases q7 id t with t | t
              · have := q8 id t; omega
              · exact .inr (.inr t)
          · rcases t with t | t
            · have := hSx id t; exact ⟨by omega, this.2⟩
            · have := pl20.o.lt t.1
              exact ⟨by omega, fun e => by have := (hA1 id e).2; omega⟩
      · rintro A1 h18 ⟨hB, hA, Sx, ⟨K', P2, v2, gk2, q3, q4, q5, q6, q7, q8, q9⟩, hSx⟩ hA1 hn18 hl18
        simp only [List.length_map, List.take_length] at q5 q6
        have star := q5.row fun _ t => t
        have xlen : (nbB L B fr q.2).length ≤ 1024 := Nat.le_trans (List.length_filter_le _ _) bl
        obtain ⟨dl17, gd17, qd17, ln17⟩ := S17.gd
        have S18 : LkS h h18 p sp o1 o2 h.next b4 b8 b9 kid L fr ml B0 K' (AM.upd C q.2 k) (q.2 :: Cl) P2 v2 := by
          refine S17.step O q9 (fun id t => ?_) q3 q4 gk2 ⟨dl17, q9.get gd17 (fun t => ?_), qd17, ln17⟩ S17.cl (u17.frC q9 (fun id t => ?_) fun id t => ?_) fun id t => ?_
          · rcases t with t | t | t
            · exact .inr (.inr (.inl t))
            · exact .inr (.inr (.inr (.inl t)))
            · exact .inr (.inr (.inr (.inr t)))
          · rcases t with t | t | t
            · omega
            · omega
            · have := lv' _ t; omega
          · rcases t with t | t | t
            · exact .inr (.inr (.inr (.inr (.inr (.inl t)))))
            · exact .inr (.inr (.inr (.inr (.inl t))))
            · exact .inr (.inr (.inr (.inr (.inr (.inr (.inr t))))))
          · rcases t with t | t | t | t | t | t | t | t
            · exact .inl (.inl t)
            · exact .inl (.inr (.inl t))
            · exact .inl (.inr (.inr (.inl t)))
            · exact .inl (.inr (.inr (.inr (.inl t))))
            · exact .inl (.inr (.inr (.inr (.inr (.inl t)))))
            · exact .inl (.inr (.inr (.inr (.inr (.inr (.inl t))))))
            · exact .inl (.inr (.inr (.inr (.inr (.inr (.inr (.inl t)))))))
            · rcases q7 id t with t2 | t2
              · exact .inr ⟨q8 id t2, q3.o.lt t⟩
              · exact .inl (.inr (.inr (.inr (.inr (.inr (.inr (.inr t2)))))))
          · rcases q7 id t with t2 | t2
            · have := q8 id t2; exact ⟨by omega, by omega, by omega⟩
            · have := lv' id t2; exact ⟨this.1, this.2.2.1, this.2.2.2⟩
        (repeat' (first | (simp (maxSteps := 1000000) (disch := first | omega | (simp only [AM.DB, List.length_set, List.length_map]; first | done | omega)) only [AM.RB, Nat.reduceAdd, Nat.reduceMul, Nat.reduceEqDiff, reduceCtorEq, b83_RT11]) | refine AM.drawW_fine (id := 11) hp (by kernel_rfl) (by kernel_rfl) (by kernel_rfl) ?_ | refine AM.drawW_fine (id := 14) hp (by kernel_rfl) (by kernel_rfl) (by kernel_rfl) ?_ | refine AM.drawW_loose (id := 17) hp (by kernel_rfl) (by kernel_rfl) ?_ | refine AM.drawW_loose (id := 22) hp (by kernel_rfl) (by kernel_rfl) ?_ | refine AM.opW_tied (by kernel_rfl) ?_ | refine AM.opW_untied (by kernel_rfl) ?_ | refine AM.build_w ?_))
        refine ⟨(F, P2.length + 1025 * (L.flatten.length - (q.2 :: Cl).length)), by simp only [List.length_cons]; omega, ?_, K', _, _, P2, v2, S18, .inl ⟨ho, q.1, star, hsF⟩, rfl, by simp only [List.length_cons]; omega⟩
        simp (maxSteps := 1000000) (disch := first | omega | (simp only [AM.DB, List.length_set, List.length_map]; first | done | omega)) only [AM.RB, Nat.reduceAdd, Nat.reduceMul, Nat.reduceEqDiff, reduceCtorEq, b83_RT11]
        first | rfl | (rw [hF]) | skip
      · exact fun _ _ _ q => q.elim
  · exact fun _ _ _ q => q.elim
end Go.Proofs.YtgdcbjpookldoaaDoor

namespace Go.Proofs.YtgdcbjpookldoaaDoor
open Go.AM
set_option maxRecDepth 8000
/-! ### The document's Find -/
def hitP (dl : List Int) (n : Int) (c : Int) : Bool := decide (dl.getD c.toNat 0 = n)
def atL (p : Int → Bool) (X : List Int) : Int := match X.filter p with | [] => -1 | c :: _ => c
theorem atL_cons {p : Int → Bool} {X : List Int} (h : X.filter p ≠ []) : atL p X ∈ X ∧ p (atL p X) = true := by
  unfold atL
  cases hf : X.filter p with
  | nil => exact absurd hf h
  | cons c t =>
    have : c ∈ X.filter p := by rw [hf]; exact List.mem_cons_self ..
    exact List.mem_filter.1 this
def nextTo (L : List (List UInt8)) (dl : List Int) (c n : Int) : Int := atL (hitP dl n) (nextL L c)
def pathL (L : List (List UInt8)) (dl : List Int) : Int → Nat → List Int
  | c, 0 => [c]
  | c, n + 1 => c :: pathL L dl (nextTo L dl c n) n
theorem pathL_len (L : List (List UInt8)) (dl : List Int) : ∀ (n : Nat) (c : Int), (pathL L dl c n).length = n + 1
  | 0, _ => rfl
  | n + 1, c => by rw [pathL, List.length_cons, pathL_len L dl n]
def findR (L : List (List UInt8)) (B : List Int) (fr to budget : Int) : List Int × Int :=
  if ¬ (freeP L.flatten fr = true ∧ freeP L.flatten to = true) then ([], 2)
  else if budget < looksN L (dtoL L B fr to) fr L.flatten.length then ([], 41)
  else if (dtoL L B fr to).getD fr.toNat 0 < 0 then ([], 40)
  else (pathL L (dtoL L B fr to) fr ((dtoL L B fr to).getD fr.toNat 0).toNat, 0)
theorem nextL_srt {L : List (List UInt8)} (f : Fit L) (a : Int) : (nextL L a).Pairwise (fun x y => x < y) := by
  rw [nextL_eq f]
  split
  · refine List.pairwise_map.2 ?_
    exact (List.pairwise_lt_range.sublist List.filter_sublist).imp fun h => by omega
  · exact List.Pairwise.nil
end Go.Proofs.YtgdcbjpookldoaaDoor

namespace Go.AM
variable {P : Program}
theorem len_encR {h : AHeap} {t k e : TypeId} (hu : P.underlying t = some (.map k e)) {id : Nat} {l : List (Int × Value)} (hg : h.get id = some (.map (encM l))) : aLen P h t (.map (some id)) = some (.int .i64 l.length) := by
  unfold aLen; rw [hu]; simp [hg, encM]
end Go.AM
namespace Go.Proofs.YtgdcbjpookldoaaDoor
open Go.AM
set_option maxRecDepth 8000
theorem b65_RT12 : type_of% (And.intro (@AM.bin_neq) (And.intro (@AM.op_binOp) (And.intro (@AM.op_call) (@AM.resL_three)))) := And.intro (@AM.bin_neq) (And.intro (@AM.op_binOp) (And.intro (@AM.op_call) (@AM.resL_three)))
theorem b23_RT12 : type_of% (And.intro (@AM.bin_lss) (And.intro (@AM.bin_neq) (And.intro (@AM.ex_tuple) (And.intro (@AM.op_binOp) (And.intro (@AM.op_call) (And.intro (@AM.op_extract) (@AM.resL_two))))))) := And.intro (@AM.bin_lss) (And.intro (@AM.bin_neq) (And.intro (@AM.ex_tuple) (And.intro (@AM.op_binOp) (And.intro (@AM.op_call) (And.intro (@AM.op_extract) (@AM.resL_two))))))
/-! ### Dist, Looks, Find of the program -/
abbrev bothF (L : List (List UInt8)) (fr to : Int) : Prop := freeP L.flatten fr = true ∧ freeP L.flatten to = true
set_option maxHeartbeats 4000000 in
theorem begin_w {h : AHeap} {p n : Nat} {L : List (List UInt8)} {B0 : Nat → Prop} (m : Mk h p L B0) (f : Fit L) (hw : h.get GW = some (.cells waysC 123 false)) (hgl : GW < h.low) (hgp : ¬ GW = p) (hl : h.low ≤ h.next) (fr to : Int) {s : Value} {B : List Int} (hs : Rd h 3 1 s n (B.map (.int .i64))) (hn : n ≤ 4000000) {Q : VQ}
    (hno : ¬ bothF L fr to → Q (.tuple #[.pointer none, .int .i64 0, .int .i64 2]) h)
    (hok : bothF L fr to → ∀ h' sp o2 x1 dl, h'.get sp = some (.cells [pv p, x1, .map (some o2)] 100 false) → h'.get o2 = some (.map (encM dl)) → (∀ x, mgetL dl x = (CdL L B fr to x).map (.int .i64)) → dl.length = looksN L (dtoL L B fr to) fr L.flatten.length → Mk h' p L (fun id => B0 id ∨ id = sp ∨ id = o2) → Fr (fun id => id = p) h h' → h.next ≤ sp → h.next ≤ o2 → Q (.tuple #[pv sp, .int .i64 ((dtoL L B fr to).getD fr.toNat 0), .int .i64 0]) h') : W 65 [pv p, .int .i64 fr, .int .i64 to, s] h Q := by
  obtain ⟨sa, sc, rfl⟩ := hs.form
  have d20 : decide ((2 : Int) = 0) = false := rfl
  have d00 : decide ((0 : Int) = 0) = true := rfl
  have ltp := m.lt
  refine AM.enter hp (fn := Tryd.f65) (rs := [.tmp 8, .tmp 9, .tmp 10]) (nt := 29) (by kernel_rfl) Tryd.func65 rfl rfl rfl (by kernel_rfl) ?_
  (first | (simp (maxSteps := 1000000) (disch := first | omega | (simp only [AM.DB, List.length_set, List.length_map]; first | done | omega)) only [AM.RB, Nat.reduceAdd, Nat.reduceMul, Nat.reduceEqDiff, reduceCtorEq, b65_RT12]) | skip)
  refine may_w m f fr to ?_
  by_cases hb : bothF L fr to
  · rw [if_pos hb]
    have hfr := freeP_in hb.1
    have hto := freeP_in hb.2
    (first | (simp (maxSteps := 1000000) (disch := first | omega | (simp only [AM.DB, List.length_set, List.length_map]; first | done | omega)) only [AM.RB, Nat.reduceAdd, Nat.reduceMul, Nat.reduceEqDiff, reduceCtorEq, b65_RT12, d00]) | skip)
    refine without_w hs hn hl fr fun h1 ml gs1 gm1 om gd1 fr1 n1 => ?_
    have low1 := fr1.low
    have lw : GW < h.next := by omega
    (first | (simp (maxSteps := 1000000) (disch := first | omega | (simp only [AM.DB, List.length_set, List.length_map]; first | done | omega)) only [AM.RB, Nat.reduceAdd, Nat.reduceMul, Nat.reduceEqDiff, reduceCtorEq, b65_RT12]) | skip)
    have m1 : Mk h1 p L (fun id => B0 id ∨ (h.next ≤ id ∧ id < h1.next)) := m.more fr1 fun id e => e
    refine look_w gs1 gm1 om gd1 m1 f (hw.fr0 fr1) (by omega) hgp (by omega) (by omega) ⟨by omega, by omega, by omega, by omega, by omega, by omega⟩ ⟨.inr (by omega), .inr (by omega), .inr (by omega)⟩ hfr hto fun h2 dl gd2 q ln m2 fr2 => ?_
    (first | (simp (maxSteps := 1000000) (disch := first | omega | (simp only [AM.DB, List.length_set, List.length_map]; first | done | omega)) only [AM.RB, Nat.reduceAdd, Nat.reduceMul, Nat.reduceEqDiff, reduceCtorEq, b65_RT12]) | skip)
    refine hok hb h2 (h.next + 2) (h.next + 1) _ dl (fr2.get gs1 (fun e => by omega)) gd2 q ln ?_ (fr1.weak.then fr2 fun id hlt e => by omega) (by omega) (by omega)
    obtain ⟨⟨S, a, b⟩, c⟩ := m2
    refine ⟨⟨S, a, fun id e => b id ?_⟩, fun id e => c id ?_⟩
    · rcases e with e | e | e
      · exact .inl e
      · exact .inr (by omega)
      · exact .inr (by omega)
    · rcases e with e | e | e
      · exact .inl e
      · exact .inr (by omega)
      · exact .inr (by omega)
  · rw [if_neg hb]
    (first | (simp (maxSteps := 1000000) (disch := first | omega | (simp only [AM.DB, List.length_set, List.length_map]; first | done | omega)) only [AM.RB, Nat.reduceAdd, Nat.reduceMul, Nat.reduceEqDiff, reduceCtorEq, b65_RT12, d20]) | skip)
    exact hno hb
/-- What Dist and Looks tell. -/
noncomputable def distR (L : List (List UInt8)) (B : List Int) (fr to : Int) : Int × Int := if bothF L fr to then (if (dtoL L B fr to).getD fr.toNat 0 < 0 then (0, 40) else ((dtoL L B fr to).getD fr.toNat 0, 0)) else (0, 2)
theorem dist_w {h : AHeap} {p n : Nat} {L : List (List UInt8)} {B0 : Nat → Prop} (m : Mk h p L B0) (f : Fit L) (hw : h.get GW = some (.cells waysC 123 false)) (hgl : GW < h.low) (hgp : ¬ GW = p) (hl : h.low ≤ h.next) (fr to : Int) {s : Value} {B : List Int} (hs : Rd h 3 1 s n (B.map (.int .i64))) (hn : n ≤ 4000000) {Q : VQ}
    (hq : ∀ h', Mk h' p L B0 → Fr (fun id => id = p) h h' → Q (.tuple #[.int .i64 (distR L B fr to).1, .int .i64 (distR L B fr to).2]) h') : W 23 [pv p, .int .i64 fr, .int .i64 to, s] h Q := by
  have d20 : decide ((2 : Int) = 0) = false := rfl
  have d00 : decide ((0 : Int) = 0) = true := rfl
  unfold distR at hq
  refine AM.enter hp (fn := Tryd.f23) (rs := [.tmp 8, .tmp 9]) (nt := 30) (by kernel_rfl) Tryd.func23 rfl rfl rfl (by kernel_rfl) ?_
  (first | (simp (maxSteps := 1000000) (disch := first | omega | (simp only [AM.DB, List.length_set, List.length_map]; first | done | omega)) only [AM.RB, Nat.reduceAdd, Nat.reduceMul, Nat.reduceEqDiff, reduceCtorEq, b23_RT12]) | skip)
  refine begin_w m f hw hgl hgp hl fr to hs hn (fun hno => ?_) (fun hb h' sp o2 x1 dl gs gd q ln m' fr' ns no => ?_)
  · rw [if_neg hno] at hq
    (first | (simp (maxSteps := 1000000) (disch := first | omega | (simp only [AM.DB, List.length_set, List.length_map]; first | done | omega)) only [AM.RB, Nat.reduceAdd, Nat.reduceMul, Nat.reduceEqDiff, reduceCtorEq, b23_RT12, d20]) | skip)
    exact hq h m (Fr.refl _ _)
  · rw [if_pos hb] at hq
    by_cases c : (dtoL L B fr to).getD fr.toNat 0 < 0
    · rw [if_pos c] at hq
      (first | (simp (maxSteps := 1000000) (disch := first | omega | (simp only [AM.DB, List.length_set, List.length_map]; first | done | omega)) only [AM.RB, Nat.reduceAdd, Nat.reduceMul, Nat.reduceEqDiff, reduceCtorEq, b23_RT12, d00, decide_eq_true c]) | skip)
      exact hq h' (m'.less fun id e => .inl e) fr'
    · rw [if_neg c] at hq
      (first | (simp (maxSteps := 1000000) (disch := first | omega | (simp only [AM.DB, List.length_set, List.length_map]; first | done | omega)) only [AM.RB, Nat.reduceAdd, Nat.reduceMul, Nat.reduceEqDiff, reduceCtorEq, b23_RT12, d00, decide_eq_false c]) | skip)
      exact hq h' (m'.less fun id e => .inl e) fr'
theorem near_next {L : List (List UInt8)} (f : Fit L) {B : List Int} {fr to c : Int} (ht : 0 ≤ to ∧ to < L.flatten.length) (ho : outB B fr to = false) (hc : 0 ≤ c ∧ c < L.flatten.length) (h : 1 ≤ (dtoL L B fr to).getD c.toNat 0) : (nextL L c).filter (hitP (dtoL L B fr to) ((dtoL L B fr to).getD c.toNat 0 - 1)) ≠ [] := by
  obtain ⟨z, hz, he, hd⟩ := (dto_is f ht ho).near ht (nbB_in f B fr) hc h
  intro q
  have : z ∈ (nextL L c).filter (hitP (dtoL L B fr to) ((dtoL L B fr to).getD c.toNat 0 - 1)) := List.mem_filter.2 ⟨(nextL_iff f).2 ((backL_iff f).1 (List.mem_filter.1 he).1), decide_eq_true hd⟩
  rw [q] at this; cases this
theorem cd_some {L : List (List UInt8)} {B : List Int} {fr to x d : Int} (h : CdL L B fr to x = some d) : (0 ≤ x ∧ x < L.flatten.length) ∧ d = (dtoL L B fr to).getD x.toNat 0 ∧ 0 ≤ d ∧ ((dtoL L B fr to).getD fr.toNat 0 < 0 ∨ d + farL L fr x ≤ (dtoL L B fr to).getD fr.toNat 0) := by
  unfold CdL lookP at h
  split at h
  · rename_i c
    have e4 : ((x.toNat : Nat) : Int) = x := by omega
    cases h
    obtain ⟨c1, c2⟩ := c
    rw [Bool.and_eq_true, Bool.or_eq_true, decide_eq_true_iff, decide_eq_true_iff, decide_eq_true_iff, e4] at c2
    exact ⟨c1, rfl, c2.1, c2.2⟩
  · cases h
theorem cd_of {L : List (List UInt8)} {B : List Int} {fr to x : Int} (hx : 0 ≤ x ∧ x < L.flatten.length) (h0 : 0 ≤ (dtoL L B fr to).getD x.toNat 0) (h1 : (dtoL L B fr to).getD x.toNat 0 + farL L fr x ≤ (dtoL L B fr to).getD fr.toNat 0) : CdL L B fr to x = some ((dtoL L B fr to).getD x.toNat 0) := by
  unfold CdL lookP
  have e4 : ((x.toNat : Nat) : Int) = x := by omega
  rw [if_pos]
  refine ⟨hx, ?_⟩
  rw [Bool.and_eq_true, Bool.or_eq_true, decide_eq_true_iff, decide_eq_true_iff, decide_eq_true_iff, e4]
  exact ⟨h0, .inr h1⟩
/-- From a closed cell on: who is next by what is closed is next by the distances. -/
theorem hit_cd {L : List (List UInt8)} (f : Fit L) {B : List Int} {fr to c x n : Int} (hc : CdL L B fr to c = some n) (h0 : 0 ≤ (dtoL L B fr to).getD fr.toNat 0) (hx : x ∈ nextL L c) (hn : 1 ≤ n) : CdL L B fr to x = some (n - 1) ↔ hitP (dtoL L B fr to) (n - 1) x = true := by
  obtain ⟨c1, c2, c3, c4⟩ := cd_some hc
  have ed := (nextL_iff f).1 hx
  have hs := (far_step (fr := fr) ed).1
  unfold hitP
  rw [decide_eq_true_iff]
  constructor
  · intro h
    exact (cd_some h).2.1.symm
  · intro h
    have := cd_of (L := L) (B := B) (fr := fr) (to := to) (nextL_in f hx) (by omega) (by omega)
    rw [this, h]
end Go.Proofs.YtgdcbjpookldoaaDoor

namespace Go.Proofs.YtgdcbjpookldoaaDoor
open Go.AM
set_option maxRecDepth 8000
theorem b26_RT13 : type_of% (And.intro (@AM.bin_add) (And.intro (@AM.bin_eql) (And.intro (@AM.bin_gtr) (And.intro (@AM.bin_lss) (And.intro (@AM.bin_neq) (And.intro (@AM.bin_sub) (And.intro (AM.bsW_int bs_22) (And.intro (AM.bsW_nil bs_22) (And.intro (AM.bsW_slice bs_22) (And.intro (AM.bsW_string bs_22) (And.intro (@AM.ex_tuple) (And.intro (@AM.fa_ptr) (And.intro (@fd_100_2) (And.intro (@AM.iaO_ok) (And.intro (AM.ia_slice el_22) (And.intro (@AM.ldO_agg) (And.intro (@AM.ldO_one) (And.intro (@AM.ld_ptr) (And.intro (AM.len_slice ul_22) (And.intro (@lk_3) (And.intro (@lk_98) (And.intro (@AM.op_append) (And.intro (@AM.op_binOp) (And.intro (@AM.op_buildSlice) (And.intro (@AM.op_call) (And.intro (@AM.op_extract) (And.intro (@AM.op_fieldAddr) (And.intro (@AM.op_indexAddr) (And.intro (@AM.op_len) (And.intro (@AM.op_load) (And.intro (@AM.op_lookup) (And.intro (@AM.op_nilCheck) (@AM.resL_two))))))))))))))))))))))))))))))))) := And.intro (@AM.bin_add) (And.intro (@AM.bin_eql) (And.intro (@AM.bin_gtr) (And.intro (@AM.bin_lss) (And.intro (@AM.bin_neq) (And.intro (@AM.bin_sub) (And.intro (AM.bsW_int bs_22) (And.intro (AM.bsW_nil bs_22) (And.intro (AM.bsW_slice bs_22) (And.intro (AM.bsW_string bs_22) (And.intro (@AM.ex_tuple) (And.intro (@AM.fa_ptr) (And.intro (@fd_100_2) (And.intro (@AM.iaO_ok) (And.intro (AM.ia_slice el_22) (And.intro (@AM.ldO_agg) (And.intro (@AM.ldO_one) (And.intro (@AM.ld_ptr) (And.intro (AM.len_slice ul_22) (And.intro (@lk_3) (And.intro (@lk_98) (And.intro (@AM.op_append) (And.intro (@AM.op_binOp) (And.intro (@AM.op_buildSlice) (And.intro (@AM.op_call) (And.intro (@AM.op_extract) (And.intro (@AM.op_fieldAddr) (And.intro (@AM.op_indexAddr) (And.intro (@AM.op_len) (And.intro (@AM.op_load) (And.intro (@AM.op_lookup) (And.intro (@AM.op_nilCheck) (@AM.resL_two))))))))))))))))))))))))))))))))


theorem atL_hit {p : Int → Bool} {X : List Int} {i : Nat} (hi : i < X.length) (h0 : (X.take i).filter p = []) (h : p (X.getD i 0) = true) : atL p X = X.getD i 0 := by
  have e : X = X.take i ++ X.getD i 0 :: X.drop (i + 1) := by
    have e : X.getD i 0 = X[i] := by simp [List.getD, hi]
    rw [e, ← List.drop_eq_getElem_cons hi, List.take_append_drop]
  unfold atL
  rw [show X.filter p = X.getD i 0 :: (X.drop (i + 1)).filter p from by
    conv => lhs; rw [e]
    rw [List.filter_append, h0, List.nil_append, List.filter_cons_of_pos h]]
theorem filter_none {p : Int → Bool} {X : List Int} {i : Nat} (hi : i < X.length) (h0 : (X.take i).filter p = []) (h : ¬ p (X.getD i 0) = true) : (X.take (i + 1)).filter p = [] := by
  have e : X.getD i 0 = X[i] := by simp [List.getD, hi]
  rw [List.take_succ_eq_append_getElem hi, List.filter_append, h0, ← e]
  simp only [List.nil_append]
  exact List.filter_cons_of_neg h

set_option maxHeartbeats 8000000 in
theorem find_w {h : AHeap} {p n : Nat} {L : List (List UInt8)} {B0 : Nat → Prop} (m : Mk h p L B0) (f : Fit L) (hw : h.get GW = some (.cells waysC 123 false)) (hgl : GW < h.low) (hgp : ¬ GW = p) (hl : h.low ≤ h.next) (fr to budget : Int) {s : Value} {B : List Int} (hs : Rd h 3 1 s n (B.map (.int .i64))) (hn : n ≤ 4000000) {Q : VQ}
    (hq : ∀ v h', Ow h' 3 1 v (findR L B fr to budget).1.length ((findR L B fr to budget).1.map (.int .i64)) → Mk h' p L B0 → Fr (fun id => id = p) h h' → (∀ id, idOf v id → h.next ≤ id) → Q (.tuple #[v, .int .i64 (findR L B fr to budget).2]) h') : W 26 [pv p, .int .i64 fr, .int .i64 to, s, .int .i64 budget] h Q := by
  have d20 : decide ((2 : Int) = 0) = false := rfl
  have d00 : decide ((0 : Int) = 0) = true := rfl
  have hK := f.k1024
  have ltp := m.lt
  unfold findR at hq
  refine AM.enter hp (fn := Tryd.f26) (rs := [.tmp 10, .tmp 11]) (nt := 87) (by kernel_rfl) Tryd.func26 rfl rfl rfl (by kernel_rfl) ?_
  (first | (simp (maxSteps := 1000000) (disch := first | omega | (simp only [AM.DB, List.length_set, List.length_map]; first | done | omega)) only [AM.RB, Nat.reduceAdd, Nat.reduceMul, Nat.reduceEqDiff, reduceCtorEq, b26_RT13]) | skip)
  refine begin_w m f hw hgl hgp hl fr to hs hn (fun hno => ?_) (fun hb h2 sp o2 x1 dm gs gd qd ln m2 fr2 ns no => ?_)
  · rw [if_pos hno] at hq
    (first | (simp (maxSteps := 1000000) (disch := first | omega | (simp only [AM.DB, List.length_set, List.length_map]; first | done | omega)) only [AM.RB, Nat.reduceAdd, Nat.reduceMul, Nat.reduceEqDiff, reduceCtorEq, b26_RT13, d20]) | skip)
    exact hq _ h (Ow.nil _ _ _) m (Fr.refl _ _) fun _ e => e.elim
  rw [if_neg (fun e => e hb)] at hq
  have hfr := freeP_in hb.1
  have hto := freeP_in hb.2
  by_cases c1 : budget < looksN L (dtoL L B fr to) fr L.flatten.length
  · rw [if_pos c1] at hq
    (first | (simp (maxSteps := 1000000) (disch := first | omega | (simp only [AM.DB, List.length_set, List.length_map]; first | done | omega)) only [AM.RB, Nat.reduceAdd, Nat.reduceMul, Nat.reduceEqDiff, reduceCtorEq, b26_RT13, d00, gs, AM.len_encR ul_98 gd, ln, decide_eq_true c1]) | skip)
    exact hq _ _ (Ow.nil _ _ _) (m2.less fun id e => .inl e) fr2 fun _ e => e.elim
  rw [if_neg c1] at hq
  by_cases c2 : (dtoL L B fr to).getD fr.toNat 0 < 0
  · rw [if_pos c2] at hq
    (first | (simp (maxSteps := 1000000) (disch := first | omega | (simp only [AM.DB, List.length_set, List.length_map]; first | done | omega)) only [AM.RB, Nat.reduceAdd, Nat.reduceMul, Nat.reduceEqDiff, reduceCtorEq, b26_RT13, d00, gs, AM.len_encR ul_98 gd, ln, decide_eq_false c1, decide_eq_true c2]) | skip)
    exact hq _ _ (Ow.nil _ _ _) (m2.less fun id e => .inl e) fr2 fun _ e => e.elim
  rw [if_neg c2] at hq
  obtain ⟨D, hD⟩ := Int.eq_ofNat_of_zero_le (show 0 ≤ (dtoL L B fr to).getD fr.toNat 0 by omega)
  have hl2 := fr2.hl hl
  have low2 := fr2.low
  have nx2 := fr2.next
  have ho : outB B fr to = false := by
    cases ho : outB B fr to with
    | false => rfl
    | true => have := (out_dto hfr ho (L := L)).1; omega
  have Dd := dto_is f hto ho (fr := fr)
  have hD1024 : D < 1024 := by have := dto_bd f B (fr := fr) hto (i := fr.toNat) (by omega); omega
  rw [hD, Int.toNat_natCast] at hq
  (first | (simp (maxSteps := 1000000) (disch := first | omega | (simp only [AM.DB, List.length_set, List.length_map]; first | done | omega)) only [AM.RB, Nat.reduceAdd, Nat.reduceMul, Nat.reduceEqDiff, reduceCtorEq, b26_RT13, d00, gs, AM.len_encR ul_98 gd, ln, decide_eq_false c1, decide_eq_false c2]) | skip)
  generalize hE_ : AHeap.alloc h2 _ = h3; obtain ⟨g3, fr3, n3, l3⟩ := AM.new_get hE_; clear hE_
  have o3 : Ow h3 3 1 (.slice (some ⟨h2.next, 0, none⟩) 1 1) 1 ([fr].map (.int .i64)) := AM.Ow.whole (n := 1) g3 rfl (by omega)
  have ltsp := AM.get_some_lt gs
  have lto2 := AM.get_some_lt gd
  have hsp : ¬ sp = p := by omega
  have hop : ¬ o2 = p := by omega
  have cfr : CdL L B fr to fr = some (D : Int) := by
    rw [cd_of hfr (by omega) (by rw [far_self hfr]; omega), hD]
  refine AM.loop_w hp 87 (fun z : List Int × Int × Nat × Value => [(0, pv p), (2, .int .i64 to), (12, pv sp), (15, z.2.2.2), (16, .int .i64 z.2.1)])
    (fun z h' => z.1.length + z.2.2.1 = D ∧ z.1 ++ pathL L (dtoL L B fr to) z.2.1 z.2.2.1 = pathL L (dtoL L B fr to) fr D ∧ CdL L B fr to z.2.1 = some (z.2.2.1 : Int) ∧ Ow h' 3 1 z.2.2.2 (z.1 ++ [z.2.1]).length ((z.1 ++ [z.2.1]).map (.int .i64)) ∧ Mk h' p L (fun id => (B0 id ∨ id = sp ∨ id = o2) ∨ idOf z.2.2.2 id) ∧ Fr (fun id => id = p) h2 h' ∧ ∀ id, idOf z.2.2.2 id → h2.next ≤ id) (fun z => z.2.2.1) (by kernel_rfl) ([], fr, D, .slice (some ⟨h2.next, 0, none⟩) 1 1) ?_ ?_ ?_
  · simp (maxSteps := 1000000) (disch := first | omega | (simp only [AM.DB, List.length_set, List.length_map]; first | done | omega)) only [AM.RB, Nat.reduceAdd, Nat.reduceMul, Nat.reduceEqDiff, reduceCtorEq, b26_RT13]
    first | rfl | skip
  · exact ⟨by simp, rfl, cfr, o3, m2.more fr3 fun id e => e.imp (fun e => e) fun e => by have e : id = h2.next := e; omega, fr3.weak, fun id e => by have e : id = h2.next := e; omega⟩
  rintro ⟨pre, cell, n4, w⟩ h4 ρ4 ⟨hpl, hp4, hc4, o4, m4, fr4, hid4⟩
  simp only at hpl hp4 hc4 o4 m4 hid4
  obtain ⟨wa, wc, rfl⟩ := o4.form
  have hl4 := fr4.hl hl2
  have low4 := fr4.low
  have nx4 := fr4.next
  have gs4 := fr4.get gs hsp
  have gd4 := fr4.get gd hop
  have hw4 := (fr2.trans (fr4.mono fun id _ e => e)).get hw hgp
  obtain ⟨cc1, cc2, cc3, cc4⟩ := cd_some hc4
  by_cases ct : cell = to
  · have hz : n4 = 0 := by
      have := Dd.zero' hto.1 hto.2
      rw [ct] at cc2; omega
    subst hz
    rw [show pathL L (dtoL L B fr to) cell 0 = [cell] from rfl] at hp4
    (first | (simp (maxSteps := 1000000) (disch := first | omega | (simp only [AM.DB, List.length_set, List.length_map]; first | done | omega)) only [AM.RB, Nat.reduceAdd, Nat.reduceMul, Nat.reduceEqDiff, reduceCtorEq, b26_RT13, decide_eq_true ct]) | skip)
    refine hq _ _ ?_ (m4.less fun id e => .inl (.inl e)) (fr2.trans (fr4.mono fun id _ e => e)) fun id e => by have := hid4 id e; omega
    rw [← hp4]; exact o4
  have hn4 : 1 ≤ n4 := by
    by_cases hz : n4 = 0
    · exfalso
      apply ct
      exact Dd.self cc1 (by omega)
    · omega
  obtain ⟨k, rfl⟩ : ∃ k, n4 = k + 1 := ⟨n4 - 1, by omega⟩
  have ki : (k : Int) + 1 - 1 = k := by omega
  (first | (simp (maxSteps := 1000000) (disch := first | omega | (simp only [AM.DB, List.length_set, List.length_map]; first | done | omega)) only [AM.RB, Nat.reduceAdd, Nat.reduceMul, Nat.reduceEqDiff, reduceCtorEq, b26_RT13, decide_eq_false ct]) | skip)
  refine nextK_w m4 f hw4 (by omega) hl4 cell fun v5 h5 m5 o5 fr5 hid5 => ?_
  obtain ⟨xa, xc, rfl⟩ := o5.form
  have gs5 := fr5.get gs4 hsp
  have gd5 := fr5.get gd4 hop
  have hnl := nextL_len f cell
  have nn := near_next f hto ho cc1 (by omega)
  rw [show (dtoL L B fr to).getD cell.toNat 0 - 1 = (k : Int) by omega] at nn
  have hit := fun x (hx : x ∈ nextL L cell) => hit_cd f hc4 (by omega) hx (by omega)
  rw [show ((k + 1 : Nat) : Int) - 1 = (k : Int) by omega] at hit
  have eN : nextTo L (dtoL L B fr to) cell k = atL (hitP (dtoL L B fr to) k) (nextL L cell) := rfl
  have pst : pathL L (dtoL L B fr to) cell (k + 1) = cell :: pathL L (dtoL L B fr to) (nextTo L (dtoL L B fr to) cell k) k := rfl
  generalize nextL L cell = X at *
  have q4 : mgetL dm cell = some (.int .i64 (k + 1 : Nat)) := by rw [qd, hc4]; rfl
  have nx5 := fr5.next
  have low5 := fr5.low
  have o45 := o4.fr fr5 (fun id e t => by have := hid4 id e; omega)
  (first | (simp (maxSteps := 1000000) (disch := first | omega | (simp only [AM.DB, List.length_set, List.length_map]; first | done | omega)) only [AM.RB, Nat.reduceAdd, Nat.reduceMul, Nat.reduceEqDiff, reduceCtorEq, b26_RT13]) | skip)
  refine AM.loop_w hp 87 (fun i : Nat => [(0, pv p), (2, .int .i64 to), (12, pv sp), (15, .slice wa (pre ++ [cell]).length wc), (16, .int .i64 cell), (53, .slice xa X.length xc), (54, .int .i64 X.length), (55, .int .i64 i)])
    (fun i h' => h' = h5 ∧ i ≤ X.length ∧ (X.take i).filter (hitP (dtoL L B fr to) k) = []) (fun i => X.length - i) (by kernel_rfl) 0 ?_ ?_ ?_
  · simp (maxSteps := 1000000) (disch := first | omega | (simp only [AM.DB, List.length_set, List.length_map]; first | done | omega)) only [AM.RB, Nat.reduceAdd, Nat.reduceMul, Nat.reduceEqDiff, reduceCtorEq, b26_RT13]
    first | rfl | skip
  · exact ⟨rfl, Nat.zero_le _, by simp⟩
  rintro i h6 ρ6 ⟨rfl, hi, hf⟩
  have rx := o5.rd
  (first | (simp (maxSteps := 1000000) (disch := first | omega | (simp only [AM.DB, List.length_set, List.length_map]; first | done | omega)) only [AM.RB, Nat.reduceAdd, Nat.reduceMul, Nat.reduceEqDiff, reduceCtorEq, b26_RT13]) | skip)
  refine AM.condV_split (fun hit' => ?_) (fun hit' => ?_)
  case' refine_2 =>
    obtain rfl : i = X.length := by omega
    rw [List.take_length] at hf
    exact absurd hf nn
  have hiX : i < X.length := by omega
  have mem : X.getD i 0 ∈ X := by
    have e : X.getD i 0 = X[i] := by simp [List.getD, hiX]
    rw [e]; exact List.getElem_mem hiX
  have ah := atL_hit (p := hitP (dtoL L B fr to) k) hiX hf
  have fn := filter_none (p := hitP (dtoL L B fr to) k) hiX hf
  have ht := hit _ mem
  obtain ⟨c, hc⟩ : ∃ c, X.getD i 0 = c := ⟨_, rfl⟩
  rw [hc] at ah fn ht mem
  have qc := qd c
  cases hC : CdL L B fr to c with
  | none =>
    rw [hC] at qc ht
    have nh : ¬ hitP (dtoL L B fr to) k c = true := fun e => by have := ht.2 e; cases this
    simp only [Option.map_none] at qc
    (first | (simp (maxSteps := 1000000) (disch := first | omega | (simp only [AM.DB, List.length_set, List.length_map]; first | done | omega)) only [AM.RB, Nat.reduceAdd, Nat.reduceMul, Nat.reduceEqDiff, reduceCtorEq, b26_RT13, rx.ia el_22, Rd.ldi rx lk_3, Int.toNat_natCast, hc, gs5, AM.lookup_enc2 mp_98 gd5, qc, AM.wrap_i64, Option.isSome_none]) | skip)
    refine ⟨i + 1, by omega, ?_, by omega, fn nh⟩
    simp (maxSteps := 1000000) (disch := first | omega | (simp only [AM.DB, List.length_set, List.length_map]; first | done | omega)) only [AM.RB, Nat.reduceAdd, Nat.reduceMul, Nat.reduceEqDiff, reduceCtorEq, b26_RT13]
    first | rfl | skip
  | some d =>
    rw [hC] at qc ht
    simp only [Option.map_some] at qc
    by_cases e : d = k
    · have hh := ht.1 (by rw [e])
      have ah' := ah hh
      rw [← eN] at ah'
      have cn : CdL L B fr to c = some (k : Int) := by rw [hC, e]
      (first | (simp (maxSteps := 1000000) (disch := first | omega | (simp only [AM.DB, List.length_set, List.length_map]; first | done | omega)) only [AM.RB, Nat.reduceAdd, Nat.reduceMul, Nat.reduceEqDiff, reduceCtorEq, b26_RT13, rx.ia el_22, Rd.ldi rx lk_3, Int.toNat_natCast, hc, gs5, AM.lookup_enc2 mp_98 gd5, AM.lookup_enc mp_98 gd5, qc, q4, AM.wrap_i64, Option.isSome_some, ki, decide_eq_true e]) | skip)
      generalize hE_ : AHeap.alloc h6 _ = h7; obtain ⟨g7, fr7, n7, l7⟩ := AM.new_get hE_; clear hE_
      have hl6 : h6.low ≤ h6.next := fr5.hl hl4
      have lpc : (pre ++ [cell]).length ≤ 1025 := by rw [List.length_append, List.length_singleton]; omega
      refine AM.appends_w ap_22 ap_22 (o45.fr0 fr7) (AM.Rd.whole (n := 1) (c := [.int .i64 c]) g7 rfl) rfl (by omega) (AM.fits (by omega) (by omega)) (AM.fits' (by omega)) fun v8 h8 o8 fr8 hid8 => ?_
      have nx8 := fr8.next
      (first | (simp (maxSteps := 1000000) (disch := first | omega | (simp only [AM.DB, List.length_set, List.length_map]; first | done | omega)) only [AM.RB, Nat.reduceAdd, Nat.reduceMul, Nat.reduceEqDiff, reduceCtorEq, b26_RT13]) | skip)
      refine ⟨(pre ++ [cell], c, k, v8), by simp only; omega, ?_, by simp only; rw [List.length_append, List.length_singleton]; omega, by simp only; rw [← hp4, pst, ah']; simp, cn, by simpa using o8, ?_, ?_, fun id q => (hid8 id q).elim (hid4 id) (fun q => by omega)⟩
      · simp (maxSteps := 1000000) (disch := first | omega | (simp only [AM.DB, List.length_set, List.length_map]; first | done | omega)) only [AM.RB, Nat.reduceAdd, Nat.reduceMul, Nat.reduceEqDiff, reduceCtorEq, b26_RT13]
        first | rfl | skip
      · refine (m5.fr0 fr7).frC fr8 (fun id q => .inr q) fun id q => ?_
        rcases q with q | q
        · exact .inl (.inl q)
        · rcases hid8 id q with t | t
          · exact .inl (.inr t)
          · exact .inr ⟨by omega, o8.lt q⟩
      · refine (fr4.trans fr5).then (fr7.weak.then fr8 fun id hlt q => by exact q) fun id hlt q => ?_
        have := hid4 id q; omega
    · have nh : ¬ hitP (dtoL L B fr to) k c = true := fun e' => by have := ht.2 e'; cases this; exact e rfl
      (first | (simp (maxSteps := 1000000) (disch := first | omega | (simp only [AM.DB, List.length_set, List.length_map]; first | done | omega)) only [AM.RB, Nat.reduceAdd, Nat.reduceMul, Nat.reduceEqDiff, reduceCtorEq, b26_RT13, rx.ia el_22, Rd.ldi rx lk_3, Int.toNat_natCast, hc, gs5, AM.lookup_enc2 mp_98 gd5, AM.lookup_enc mp_98 gd5, qc, q4, AM.wrap_i64, Option.isSome_some, ki, decide_eq_false e]) | skip)
      refine ⟨i + 1, by omega, ?_, by omega, fn nh⟩
      simp (maxSteps := 1000000) (disch := first | omega | (simp only [AM.DB, List.length_set, List.length_map]; first | done | omega)) only [AM.RB, Nat.reduceAdd, Nat.reduceMul, Nat.reduceEqDiff, reduceCtorEq, b26_RT13]
      first | rfl | skip
end Go.Proofs.YtgdcbjpookldoaaDoor

namespace Go.Proofs.YtgdcbjpookldoaaDoor
open Go.AM
set_option maxRecDepth 8000
theorem findR_len {L : List (List UInt8)} (f : Fit L) (B : List Int) (fr to b : Int) : (findR L B fr to b).1.length ≤ 1024 := by
  have hK := f.k1024
  unfold findR
  by_cases hb : bothF L fr to
  · rw [if_neg (fun e => e hb)]
    split
    · simp
    · split
      · simp
      · have bd := dto_bd f B (fr := fr) (freeP_in hb.2) (i := fr.toNat) (by have := freeP_in hb.1; omega)
        simp only [pathL_len]; omega
  · rw [if_pos hb]; simp

end Go.Proofs.YtgdcbjpookldoaaDoor

namespace Go.Proofs.YtgdcbjpookldoaaDoor
open Go.AM
set_option maxRecDepth 8000
theorem b36_RT15 : type_of% (And.intro (@AM.ex_tuple) (And.intro (@AM.op_call) (@AM.op_extract))) := And.intro (@AM.ex_tuple) (And.intro (@AM.op_call) (@AM.op_extract))
theorem b22_RT15 : type_of% (And.intro (@AM.bin_eql) (And.intro (AM.bsW_int bs_22) (And.intro (AM.bsW_int5 bs_22) (And.intro (AM.bsW_nil bs_22) (And.intro (AM.bsW_slice bs_22) (And.intro (AM.bsW_string bs_22) (And.intro (@AM.ex_tuple) (And.intro (@AM.op_binOp) (And.intro (@AM.op_buildSlice) (And.intro (@AM.op_call) (@AM.op_extract))))))))))) := And.intro (@AM.bin_eql) (And.intro (AM.bsW_int bs_22) (And.intro (AM.bsW_int5 bs_22) (And.intro (AM.bsW_nil bs_22) (And.intro (AM.bsW_slice bs_22) (And.intro (AM.bsW_string bs_22) (And.intro (@AM.ex_tuple) (And.intro (@AM.op_binOp) (And.intro (@AM.op_buildSlice) (And.intro (@AM.op_call) (@AM.op_extract))))))))))


/-! ### The chapter's first examples -/
def rgT : List UInt8 := [46, 46, 46, 10, 46, 35, 46, 10, 46, 46, 46, 10]
def rgL : List (List UInt8) := [[46, 46, 46], [46, 35, 46], [46, 46, 46]]
theorem rg_verd : verd rgT = .ok rgL := by kernel_rfl
theorem rg_find1 : findR rgL [] 0 8 99 = ([0, 1, 2, 5, 8], 0) := by kernel_rfl
theorem rg_find2 : findR rgL [1] 0 8 99 = ([0, 3, 6, 7, 8], 0) := by kernel_rfl
theorem ring_w {h : AHeap} (hl : h.low ≤ h.next) {Q : VQ} (hq : ∀ p h', (∀ B : Nat → Prop, (∀ id, B id → id < h.next) → Mk h' p rgL B) → Fr none' h h' → h.next ≤ p → Q (pv p) h') : W 36 [] h Q := by
  refine AM.enter hp (fn := Tryd.f36) (rs := [.tmp 0]) (nt := 12) (by kernel_rfl) Tryd.func36 rfl rfl rfl (by kernel_rfl) ?_
  (first | (simp (maxSteps := 1000000) (disch := first | omega | (simp only [AM.DB, List.length_set, List.length_map]; first | done | omega)) only [AM.RB, Nat.reduceAdd, Nat.reduceMul, Nat.reduceEqDiff, reduceCtorEq, b36_RT15]) | skip)
  refine parseV_w rgT (by decide) hl (fun a b hv => by rw [rg_verd] at hv; cases hv) (fun L hv p kv h1 m0 fr1 hp1 hid1 => ?_)
  rw [rg_verd] at hv
  cases hv
  (first | (simp (maxSteps := 1000000) (disch := first | omega | (simp only [AM.DB, List.length_set, List.length_map]; first | done | omega)) only [AM.RB, Nat.reduceAdd, Nat.reduceMul, Nat.reduceEqDiff, reduceCtorEq, b36_RT15]) | skip)
  exact hq p h1 (fun B hB => Mk.start m0 hp1 hid1 fr1.next hB) fr1 hp1
set_option maxHeartbeats 4000000 in
theorem alive4_w {h : AHeap} (hw : h.get GW = some (.cells waysC 123 false)) (hgl : GW < h.low) (hl : h.low ≤ h.next) {Q : VQ} (hq : ∀ h', Fr none' h h' → Q (.bool true) h') : W 22 [] h Q := by
  have f := (verd_good rg_verd).fit
  have d00 : decide ((0 : Int) = 0) = true := rfl
  refine AM.enter hp (fn := Tryd.f22) (rs := [.tmp 0]) (nt := 32) (by kernel_rfl) Tryd.func22 rfl rfl rfl (by kernel_rfl) ?_
  (first | (simp (maxSteps := 1000000) (disch := first | omega | (simp only [AM.DB, List.length_set, List.length_map]; first | done | omega)) only [AM.RB, Nat.reduceAdd, Nat.reduceMul, Nat.reduceEqDiff, reduceCtorEq, b22_RT15]) | skip)
  refine ring_w hl fun p h1 m1 fr1 hp1 => ?_
  have k1 : Mk h1 p rgL none' := m1 _ fun _ e => e.elim
  have lw1 := fr1.low
  have nx1 := fr1.next
  have lp1 := k1.lt
  (first | (simp (maxSteps := 1000000) (disch := first | omega | (simp only [AM.DB, List.length_set, List.length_map]; first | done | omega)) only [AM.RB, Nat.reduceAdd, Nat.reduceMul, Nat.reduceEqDiff, reduceCtorEq, b22_RT15]) | skip)
  refine find_w k1 f (hw.fr0 fr1) (by omega) (by omega) (by omega) 0 8 99 (B := []) (AM.Rd.nil _ _ _) (by omega) fun v2 h2 o2 k2 fr2 hid2 => ?_
  rw [rg_find1] at o2 ⊢
  obtain ⟨a2, b2, rfl⟩ := o2.form
  have fr02 : Fr none' h h2 := fr1.fresh fr2 (fun id e => by omega)
  have lw2 := fr02.low
  have nx2 := fr02.next
  (first | (simp (maxSteps := 1000000) (disch := first | omega | (simp only [AM.DB, List.length_set, List.length_map]; first | done | omega)) only [AM.RB, Nat.reduceAdd, Nat.reduceMul, Nat.reduceEqDiff, reduceCtorEq, b22_RT15]) | skip)
  refine ring_w (by omega) fun q h3 m3 fr3 hp3 => ?_
  have k3 : Mk h3 q rgL none' := m3 _ fun _ e => e.elim
  have fr03 := fr02.trans fr3
  have lw3 := fr03.low
  have nx3 := fr03.next
  have n23 := fr3.next
  have n12 := fr2.next
  have lp3 := k3.lt
  (first | (simp (maxSteps := 1000000) (disch := first | omega | (simp only [AM.DB, List.length_set, List.length_map]; first | done | omega)) only [AM.RB, Nat.reduceAdd, Nat.reduceMul, Nat.reduceEqDiff, reduceCtorEq, b22_RT15]) | skip)
  generalize hE_ : AHeap.alloc h3 _ = h4; obtain ⟨g4, fr4, n4, l4⟩ := AM.new_get hE_; clear hE_
  have fr04 := fr03.trans fr4
  refine find_w (k3.fr0 fr4) f (hw.fr0 fr04) (by omega) (by omega) (by omega) 0 8 99 (B := [1]) (AM.Rd.whole (n := 1) g4 rfl) (by omega) fun v5 h5 o5 k5 fr5 hid5 => ?_
  rw [rg_find2] at o5 ⊢
  obtain ⟨a5, b5, rfl⟩ := o5.form
  have fr05 : Fr none' h h5 := fr04.fresh fr5 (fun id e => by omega)
  have o25 := ((o2.fr0 fr3).fr0 fr4).fr fr5 (fun id e t => by have := o2.lt e; omega)
  (first | (simp (maxSteps := 1000000) (disch := first | omega | (simp only [AM.DB, List.length_set, List.length_map]; first | done | omega)) only [AM.RB, Nat.reduceAdd, Nat.reduceMul, Nat.reduceEqDiff, reduceCtorEq, b22_RT15, d00]) | skip)
  generalize hE_ : AHeap.alloc h5 _ = h6; obtain ⟨g6, fr6, n6, l6⟩ := AM.new_get hE_; clear hE_
  have r6 : Rd h6 3 1 (.slice (some ⟨h5.next, 0, none⟩) 5 5) 5 (([0, 1, 2, 5, 8] : List Int).map (.int .i64)) := AM.Rd.whole (n := 5) g6 rfl
  refine same_w (o25.fr0 fr6).rd r6 (by simp) ?_
  rw [decide_eq_true rfl]
  (first | (simp (maxSteps := 1000000) (disch := first | omega | (simp only [AM.DB, List.length_set, List.length_map]; first | done | omega)) only [AM.RB, Nat.reduceAdd, Nat.reduceMul, Nat.reduceEqDiff, reduceCtorEq, b22_RT15, d00]) | skip)
  generalize hE_ : AHeap.alloc h6 _ = h7; obtain ⟨g7, fr7, n7, l7⟩ := AM.new_get hE_; clear hE_
  have r7 : Rd h7 3 1 (.slice (some ⟨h6.next, 0, none⟩) 5 5) 5 (([0, 3, 6, 7, 8] : List Int).map (.int .i64)) := AM.Rd.whole (n := 5) g7 rfl
  refine same_w ((o5.fr0 fr6).fr0 fr7).rd r7 (by simp) ?_
  rw [decide_eq_true rfl]
  (first | (simp (maxSteps := 1000000) (disch := first | omega | (simp only [AM.DB, List.length_set, List.length_map]; first | done | omega)) only [AM.RB, Nat.reduceAdd, Nat.reduceMul, Nat.reduceEqDiff, reduceCtorEq, b22_RT15]) | skip)
  exact hq _ ((fr05.trans fr6).trans fr7)
end Go.Proofs.YtgdcbjpookldoaaDoor

namespace Go.Proofs.YtgdcbjpookldoaaDoor
open Go.AM
set_option maxRecDepth 8000
/-! ### By way of a third cell -/
/-- A distance that is told. -/
theorem dist_ok {L : List (List UInt8)} (f : Fit L) {B : List Int} {a b : Int} (h : (distR L B a b).2 = 0) : bothF L a b ∧ outB B a b = false ∧ 0 ≤ (distR L B a b).1 ∧ isD (nbB L B a) b a (distR L B a b).1.toNat := by
  unfold distR at h ⊢
  by_cases hb : bothF L a b
  · rw [if_pos hb] at h ⊢
    by_cases c : (dtoL L B a b).getD a.toNat 0 < 0
    · rw [if_pos c] at h; cases h
    · rw [if_neg c]
      have ha := freeP_in hb.1
      have hbb := freeP_in hb.2
      have ho : outB B a b = false := by
        cases ho : outB B a b with
        | false => rfl
        | true => have := (out_dto ha ho (L := L)).1; omega
      exact ⟨hb, ho, by simp only; omega, (dto_is f hbb ho).yes a ha.1 ha.2 (by omega)⟩
  · rw [if_neg hb] at h; cases h
theorem dist_of {L : List (List UInt8)} (f : Fit L) {B : List Int} {a b : Int} (hb : bothF L a b) (ho : outB B a b = false) {k : Nat} (w : Wk (nbB L B a) b k a) : (distR L B a b).2 = 0 ∧ (distR L B a b).1 ≤ k := by
  have ha := freeP_in hb.1
  have hbb := freeP_in hb.2
  have D := dto_is f hbb ho (fr := a)
  have q : 0 ≤ (dtoL L B a b).getD a.toNat 0 := by
    by_cases q : 0 ≤ (dtoL L B a b).getD a.toNat 0
    · exact q
    · exact absurd w ((D.no a ha.1 ha.2 (by omega)).2 _)
  have := (D.yes a ha.1 ha.2 q).le w
  unfold distR
  rw [if_pos hb, if_neg (by omega)]
  exact ⟨rfl, by simp only; omega⟩
end Go.Proofs.YtgdcbjpookldoaaDoor

namespace Go.Proofs.YtgdcbjpookldoaaDoor
open Go.AM
set_option maxRecDepth 8000
/-! ### Forth and back -/
theorem out_self (B : List Int) (f : Int) : outB B f f = false := by unfold outB; simp
theorem nbB_iff {L : List (List UInt8)} (f : Fit L) {B : List Int} {fr a b : Int} : b ∈ nbB L B fr a ↔ edgeL L b a = true ∧ outB B fr b = false := by
  show b ∈ keptL B fr (backL L a) ↔ _
  unfold keptL
  rw [List.mem_filter, backL_iff f]
  simp
/-! ### The path that Find tells -/
theorem kept_of_dist {L : List (List UInt8)} {B : List Int} {fr to x : Int} (ho : outB B fr to = false) {k : Nat} (w : Wk (nbB L B fr) to k x) : outB B fr x = false := by
  cases w with
  | zero => exact ho
  | step w hc => have := (List.mem_filter.1 hc).2; simpa using this
/-- What Find says, when its budget suffices. -/
theorem find_cases {L : List (List UInt8)} (f : Fit L) {B : List Int} {fr to b : Int} (hb : bothF L fr to) (hbig : (L.flatten.length : Int) ≤ b) : (findR L B fr to b = ([], 40) ∧ ∀ k, ¬ (outB B fr to = false ∧ Wk (nbB L B fr) to k fr)) ∨ ∃ D : Nat, findR L B fr to b = (pathL L (dtoL L B fr to) fr D, 0) ∧ outB B fr to = false ∧ (dtoL L B fr to).getD fr.toNat 0 = D ∧ isD (nbB L B fr) to fr D := by
  have hK := f.k1024
  have ha := freeP_in hb.1
  have hbb := freeP_in hb.2
  have ln := looksN_le L (dtoL L B fr to) fr L.flatten.length
  unfold findR
  rw [if_neg (fun e => e hb), if_neg (by omega)]
  by_cases c : (dtoL L B fr to).getD fr.toNat 0 < 0
  · rw [if_pos c]
    refine .inl ⟨rfl, fun k w => ?_⟩
    exact ((dto_is f hbb w.1).no fr ha.1 ha.2 c).2 k w.2
  · rw [if_neg c]
    have ho : outB B fr to = false := by
      cases ho : outB B fr to with
      | false => rfl
      | true => have := (out_dto ha ho (L := L)).1; omega
    obtain ⟨D, hD⟩ := Int.eq_ofNat_of_zero_le (show 0 ≤ (dtoL L B fr to).getD fr.toNat 0 by omega)
    have d := (dto_is f hbb ho).yes fr ha.1 ha.2 (by omega)
    rw [hD, Int.toNat_natCast] at d
    exact .inr ⟨D, by rw [hD, Int.toNat_natCast], ho, hD, d⟩
end Go.Proofs.YtgdcbjpookldoaaDoor

namespace Go.Proofs.YtgdcbjpookldoaaDoor
open Go.AM
set_option maxRecDepth 8000
/-! ### RouteShort -/
end Go.Proofs.YtgdcbjpookldoaaDoor

namespace Go.Proofs.YtgdcbjpookldoaaDoor
open Go.AM

/-! ### What is left of a route, and banned cells that make no difference (plain) -/
/-- A distance is what the list says. -/
theorem dto_iff {L : List (List UInt8)} (f : Fit L) {B : List Int} {fr to x : Int} (ht : 0 ≤ to ∧ to < L.flatten.length) (ho : outB B fr to = false) (hx : 0 ≤ x ∧ x < L.flatten.length) (n : Nat) : (dtoL L B fr to).getD x.toNat 0 = n ↔ isD (nbB L B fr) to x n := by
  have D := dto_is f ht ho (fr := fr)
  constructor
  · intro h
    have := D.yes x hx.1 hx.2 (by omega)
    rw [h, Int.toNat_natCast] at this
    exact this
  · intro h
    by_cases q : 0 ≤ (dtoL L B fr to).getD x.toNat 0
    · have := (D.yes x hx.1 hx.2 q).uniq h; omega
    · exact absurd h.1 ((D.no x hx.1 hx.2 (by omega)).2 _)
theorem hit_iff {L : List (List UInt8)} (f : Fit L) {B : List Int} {fr to x : Int} (ht : 0 ≤ to ∧ to < L.flatten.length) (ho : outB B fr to = false) (hx : 0 ≤ x ∧ x < L.flatten.length) (n : Nat) : hitP (dtoL L B fr to) n x = true ↔ isD (nbB L B fr) to x n := by
  unfold hitP
  rw [decide_eq_true_iff]
  exact dto_iff f ht ho hx n
end Go.Proofs.YtgdcbjpookldoaaDoor

namespace Go.Proofs.YtgdcbjpookldoaaDoor
open Go.AM

/-! ### A map that is walled at some cells (plain) -/
theorem flat_setrow {α : Type} (v : α) : ∀ (M : List (List α)) (W r c : Nat), (∀ T ∈ M, T.length = W) → r < M.length → c < W → (M.set r ((M.getD r []).set c v)).flatten = M.flatten.set (r * W + c) v
  | [], W, r, c, _, hr, _ => by simp at hr
  | T :: M, W, 0, c, h, _, hc => by
    have hT := h T (List.mem_cons_self ..)
    rw [List.set_cons_zero, List.flatten_cons, List.flatten_cons, Nat.zero_mul, Nat.zero_add, List.getD_cons_zero, List.set_append_left _ _ (by omega)]
  | T :: M, W, r + 1, c, h, hr, hc => by
    have hT := h T (List.mem_cons_self ..)
    rw [List.set_cons_succ, List.flatten_cons, List.flatten_cons, List.getD_cons_succ, flat_setrow v M W r c (fun T hT => h T (List.mem_cons_of_mem _ hT)) (by simpa using hr) hc]
    rw [List.set_append_right _ _ (by rw [hT, Nat.add_mul, Nat.one_mul]; omega)]
    congr 2
    rw [hT, Nat.add_mul, Nat.one_mul]; omega
/-- One cell becomes a wall. -/
def setC (L : List (List UInt8)) (C n : Nat) : List (List UInt8) := L.set (n / C) ((L.getD (n / C) []).set (n % C) 35)
/-- Which cells become walls. -/
def isW (K : List UInt8) (fr x : Int) : Bool := freeP K x && !decide (x = fr)
def wallS (K : List UInt8) (C : Nat) (fr : Int) (L : List (List UInt8)) (x : Int) : List (List UInt8) := if isW K fr x = true then setC L C x.toNat else L
def wallL (L : List (List UInt8)) (fr : Int) (A : List Int) : List (List UInt8) := A.foldl (wallS L.flatten (L.getD 0 []).length fr) L
theorem wallL_succ (L : List (List UInt8)) (fr : Int) {A : List Int} {i : Nat} (hi : i < A.length) : wallL L fr (A.take (i + 1)) = wallS L.flatten (L.getD 0 []).length fr (wallL L fr (A.take i)) (A.getD i 0) := by
  unfold wallL
  have e : A.getD i 0 = A[i] := by simp [List.getD, hi]
  rw [List.take_succ_eq_append_getElem hi, List.foldl_append, e]; rfl
/-- What the walled map keeps. -/
structure WalI (L L' : List (List UInt8)) (fr : Int) (A : List Int) : Prop where
  len : L'.length = L.length
  all : ∀ T ∈ L', T.length = (L.getD 0 []).length
  at' : ∀ n, n < L.flatten.length → L'.flatten.getD n 0 = if isW L.flatten fr n = true ∧ (n : Int) ∈ A then 35 else L.flatten.getD n 0
theorem setC_all {L : List (List UInt8)} {C n : Nat} (h : ∀ T ∈ L, T.length = C) (hn : n / C < L.length) : ∀ T ∈ setC L C n, T.length = C := by
  intro T hT
  unfold setC at hT
  rcases List.mem_or_eq_of_mem_set hT with hT | hT
  · exact h T hT
  · rw [hT, List.length_set]
    have e : L.getD (n / C) [] = L[n / C] := by simp [List.getD, hn]
    rw [e]; exact h _ (List.getElem_mem hn)
theorem WalI.init {l : List UInt8} {L : List (List UInt8)} (G : Good l L) (fr : Int) : WalI L L fr [] := ⟨rfl, G.all, fun n _ => by rw [if_neg (by simp)]⟩
theorem div_lt {R C n : Nat} (hC : 0 < C) (h : n < R * C) : n / C < R := Nat.div_lt_of_lt_mul (by rw [Nat.mul_comm]; exact h)
theorem WalI.step {l : List UInt8} {L L' : List (List UInt8)} (G : Good l L) {fr : Int} {A : List Int} (w : WalI L L' fr A) (x : Int) : WalI L (wallS L.flatten (L.getD 0 []).length fr L' x) fr (A ++ [x]) := by
  unfold wallS
  by_cases c : isW L.flatten fr x = true
  · rw [if_pos c]
    have hx := freeP_in (show freeP L.flatten x = true by unfold isW at c; rw [Bool.and_eq_true] at c; exact c.1)
    obtain ⟨m, rfl⟩ := Int.eq_ofNat_of_zero_le hx.1
    rw [Int.toNat_natCast]
    have hm : m < L.flatten.length := by omega
    have hr : m / (L.getD 0 []).length < L'.length := by rw [w.len]; exact div_lt G.cols (by rw [← G.len]; exact hm)
    have hc := Nat.mod_lt m G.cols
    have fl := flat_len L' w.all
    refine ⟨by unfold setC; rw [List.length_set]; exact w.len, setC_all w.all hr, fun n hn => ?_⟩
    unfold setC
    rw [flat_setrow 35 L' _ _ _ w.all hr hc, Nat.mul_comm, Nat.div_add_mod]
    have ln : L'.flatten.length = L.flatten.length := by rw [fl, w.len, G.len]
    have wa := w.at' n hn
    have gs : (L'.flatten.set m 35).getD n 0 = if m = n then 35 else L'.flatten.getD n 0 := by
      simp only [List.getD, List.getElem?_set]
      by_cases e : m = n
      · subst e; rw [if_pos rfl, if_pos (by omega), if_pos rfl]; rfl
      · simp [e]
    rw [gs]
    by_cases e : m = n
    · subst e; rw [if_pos rfl, if_pos ⟨c, by simp⟩]
    · rw [if_neg e, wa]
      have : ((n : Int) ∈ A ++ [(m : Int)]) ↔ (n : Int) ∈ A := by
        simp only [List.mem_append, List.mem_singleton]
        exact ⟨fun h => h.elim (fun h => h) fun h => by omega, .inl⟩
      simp only [this]
  · rw [if_neg c]
    refine ⟨w.len, w.all, fun n hn => ?_⟩
    rw [w.at' n hn]
    by_cases e : (n : Int) = x
    · subst e
      rw [if_neg (fun h => c h.1), if_neg (fun h => c h.1)]
    · have : ((n : Int) ∈ A ++ [x]) ↔ (n : Int) ∈ A := by
        simp only [List.mem_append, List.mem_singleton]
        exact ⟨fun h => h.elim (fun h => h) fun h => absurd h e, .inl⟩
      simp only [this]
theorem wallL_ok {l : List UInt8} {L : List (List UInt8)} (G : Good l L) (fr : Int) (A : List Int) : ∀ i, i ≤ A.length → WalI L (wallL L fr (A.take i)) fr (A.take i)
  | 0, _ => by rw [List.take_zero]; exact WalI.init G fr
  | i + 1, h => by
    have ih := wallL_ok G fr A i (by omega)
    have e : A.getD i 0 = A[i]'(by omega) := by simp [List.getD, show i < A.length by omega]
    rw [wallL_succ L fr (by omega), List.take_succ_eq_append_getElem (by omega), ← e]
    exact ih.step G _
/-- In the text. -/
theorem text_setC {L : List (List UInt8)} {C n : Nat} (h : ∀ T ∈ L, T.length = C) (hC : 0 < C) (hn : n / C < L.length) : textL (setC L C n) = (textL L).set (n / C * (C + 1) + n % C) 35 := by
  have hc := Nat.mod_lt n hC
  have e : L.getD (n / C) [] = L[n / C] := by simp [List.getD, hn]
  have hl := h _ (List.getElem_mem hn)
  unfold textL setC
  rw [List.map_set]
  have e2 : ((L.getD (n / C) []).set (n % C) 35) ++ [10] = ((L.map (· ++ [10])).getD (n / C) []).set (n % C) 35 := by
    have : (L.map (· ++ [10])).getD (n / C) [] = L[n / C] ++ [10] := by simp [List.getD, hn]
    rw [this, e, List.set_append_left _ _ (by omega)]
  rw [e2]
  refine flat_setrow (35 : UInt8) (L.map (· ++ [10])) (C + 1) (n / C) (n % C) (fun T hT => ?_) (by rw [List.length_map]; exact hn) (by omega)
  obtain ⟨T', hT', rfl⟩ := List.mem_map.1 hT
  rw [List.length_append, h T' hT']; rfl
/-! ### What the walled map is -/
theorem wal_cols {l : List UInt8} {L L' : List (List UInt8)} (G : Good l L) {fr : Int} {A : List Int} (w : WalI L L' fr A) : (L'.getD 0 []).length = (L.getD 0 []).length := by
  have h0 : 0 < L'.length := by rw [w.len]; exact G.rows
  have e : L'.getD 0 [] = L'[0] := by simp [List.getD, h0]
  rw [e]; exact w.all _ (List.getElem_mem h0)
theorem wal_len {l : List UInt8} {L L' : List (List UInt8)} (G : Good l L) {fr : Int} {A : List Int} (w : WalI L L' fr A) : L'.flatten.length = L.flatten.length := by
  rw [flat_len L' w.all, w.len, G.len]
theorem wal_kind {l : List UInt8} {L L' : List (List UInt8)} (G : Good l L) {fr : Int} {A : List Int} (w : WalI L L' fr A) {x : Int} (hx : freeP L.flatten x = true) : L'.flatten.getD x.toNat 0 = if outB A fr x = true then 35 else L.flatten.getD x.toNat 0 := by
  have hr := freeP_in hx
  have h := w.at' x.toNat (by omega)
  rw [show ((x.toNat : Nat) : Int) = x by omega] at h
  rw [h]
  unfold isW outB
  rw [hx]
  by_cases h1 : x ∈ A
  · by_cases h2 : x = fr <;> simp [h1, h2]
  · simp [h1]
theorem kind35 {K : List UInt8} {x : Int} (hx : freeP K x = true) : ¬ K.getD x.toNat 0 = 35 := by
  have hr := freeP_in hx
  unfold freeP kindP at hx
  rw [Bool.and_eq_true, if_pos hr.1] at hx
  simpa using hx.2
theorem wal_free {l : List UInt8} {L L' : List (List UInt8)} (G : Good l L) {fr : Int} {A : List Int} (w : WalI L L' fr A) (x : Int) : freeP L'.flatten x = (freeP L.flatten x && !outB A fr x) := by
  have ln := wal_len G w
  cases hx : freeP L.flatten x with
  | true =>
    have hr := freeP_in hx
    have k := wal_kind G w hx
    unfold freeP kindP
    rw [if_pos hr.1, ln, decide_eq_true hr, k]
    cases ho : outB A fr x with
    | true => simp
    | false => simpa using kind35 hx
  | false =>
    rw [Bool.false_and]
    by_cases hr : 0 ≤ x ∧ x < L.flatten.length
    · have k0 : L.flatten.getD x.toNat 0 = 35 := by
        unfold freeP kindP at hx
        rw [if_pos hr.1, decide_eq_true hr, Bool.true_and] at hx
        simpa using hx
      have h := w.at' x.toNat (by omega)
      rw [k0] at h
      unfold freeP kindP
      rw [if_pos hr.1, h]
      simp
    · unfold freeP
      rw [ln, decide_eq_false hr]; rfl
theorem edge_free {L : List (List UInt8)} {a b : Int} (h : freeP L.flatten a = false ∨ freeP L.flatten b = false) : edgeL L a b = false := by
  cases he : edgeL L a b with
  | false => rfl
  | true =>
    obtain ⟨_, _, h1, h2⟩ := edgeL_facts he
    rcases h with h | h
    · rw [h1] at h; cases h
    · rw [h2] at h; cases h
theorem wal_edge {l : List UInt8} {L L' : List (List UInt8)} (G : Good l L) {fr : Int} {A : List Int} (w : WalI L L' fr A) (a b : Int) : edgeL L' a b = (edgeL L a b && (!outB A fr a && !outB A fr b)) := by
  by_cases hfa : freeP L.flatten a = true
  case neg =>
    rw [edge_free (L := L) (.inl (by simpa using hfa)), edge_free (L := L') (.inl (by rw [wal_free G w]; simp [hfa]))]; rfl
  by_cases hfb : freeP L.flatten b = true
  case neg =>
    rw [edge_free (L := L) (.inr (by simpa using hfb)), edge_free (L := L') (.inr (by rw [wal_free G w]; simp [hfb]))]; rfl
  cases hoa : outB A fr a with
  | true => rw [edge_free (L := L') (.inl (by rw [wal_free G w, hoa]; simp))]; simp
  | false =>
  cases hob : outB A fr b with
  | true => rw [edge_free (L := L') (.inr (by rw [wal_free G w, hob]; simp))]; simp
  | false =>
    have ka := wal_kind G w hfa
    have kb := wal_kind G w hfb
    rw [hoa] at ka
    rw [hob] at kb
    simp only [Bool.false_eq_true, if_false] at ka kb
    unfold edgeL edgeN
    rw [wal_cols G w, wal_len G w, ka, kb]
    simp
theorem wal_verd {l : List UInt8} {L L' : List (List UInt8)} (G : Good l L) {fr : Int} {A : List Int} (w : WalI L L' fr A) (hf : freeP L.flatten fr = true) : verd (textL L') = .ok L' := by
  have ln := wal_len G w
  have hcell : ∀ c ∈ L'.flatten, cellB c = true := fun c hc => by
    obtain ⟨n, hn, e⟩ := List.getElem_of_mem hc
    have h := w.at' n (by omega)
    have g : L'.flatten.getD n 0 = c := by rw [← e]; simp only [List.getD, List.getElem?_eq_getElem hn, Option.getD_some]
    rw [g] at h
    rw [h]
    split
    · rfl
    · have hn' : n < L.flatten.length := by omega
      have g2 : L.flatten.getD n 0 = L.flatten[n] := by simp only [List.getD, List.getElem?_eq_getElem hn', Option.getD_some]
      rw [g2]; exact G.cell _ (List.getElem_mem hn')
  refine verd_text (C := (L.getD 0 []).length) ⟨G.cols, G.c32, w.all, fun T hT c hc => hcell c (List.mem_flatten.2 ⟨T, hT, hc⟩)⟩ (fun e => ?_) (by rw [w.len]; exact G.r32) ?_
  · have := w.len; rw [e] at this; have := G.rows; simp at *; omega
  · rw [← any_flat, ← allP_any]
    have hfr : freeP L'.flatten fr = true := by rw [wal_free G w, hf, out_self]; rfl
    intro e
    have hr := freeP_in hfr
    have : fr ∈ allP L'.flatten L'.flatten.length := allP_in.2 ⟨hr, hfr⟩
    rw [e] at this; cases this
/-! ### Routes on it -/
theorem wal_find {l l' : List UInt8} {L L' : List (List UInt8)} (G : Good l L) (G' : Good l' L') {fr to : Int} {A : List Int} (w : WalI L L' fr A) (hb : bothF L fr to) (ho : outB A fr to = false) {b b' : Int} (hbig : (L.flatten.length : Int) ≤ b) (hbig' : (L'.flatten.length : Int) ≤ b') : bothF L' fr to ∧ findR L' [] fr to b' = findR L A fr to b := by
  have f := G.fit
  have f' := G'.fit
  have ln := wal_len G w
  have hb' : bothF L' fr to := ⟨by rw [wal_free G w, hb.1, out_self]; rfl, by rw [wal_free G w, hb.2, ho]; rfl⟩
  refine ⟨hb', ?_⟩
  have hto := freeP_in hb.2
  have hfr := freeP_in hb.1
  have nbi : ∀ x y, y ∈ nbB L' [] fr x ↔ edgeL L y x = true ∧ outB A fr y = false ∧ outB A fr x = false := fun x y => by
    rw [nbB_iff f', wal_edge G w, outB_nil]
    cases edgeL L y x <;> cases outB A fr y <;> cases outB A fr x <;> simp
  have wk : ∀ k x, Wk (nbB L' [] fr) to k x ↔ Wk (nbB L A fr) to k x := fun k x => by
    constructor
    · intro h
      induction h with
      | zero => exact .zero
      | step h hc ih =>
        obtain ⟨e1, e2, _⟩ := (nbi _ _).1 hc
        exact .step ih ((nbB_iff f).2 ⟨e1, e2⟩)
    · intro h
      induction h with
      | zero => exact .zero
      | step h hc ih =>
        obtain ⟨e1, e2⟩ := (nbB_iff f).1 hc
        exact .step ih ((nbi _ _).2 ⟨e1, e2, kept_of_dist ho h⟩)
  have D := dto_is f hto ho (fr := fr)
  have D' := dto_is f' (freeP_in hb'.2) (outB_nil fr to)
  have dE : dtoL L' [] fr to = dtoL L A fr to := by
    have D2 := D'.congr wk
    rw [ln] at D2
    exact D2.uniq D
  have pE : ∀ (n : Nat) (c : Int), (0 ≤ c ∧ c < L.flatten.length) → outB A fr c = false → (dtoL L A fr to).getD c.toNat 0 = n → pathL L' (dtoL L A fr to) c n = pathL L (dtoL L A fr to) c n := by
    intro n
    induction n with
    | zero => intro c _ _ _; rfl
    | succ n ih =>
      intro c hcr hc hd
      have hx : ∀ x, x ∈ nextL L c → hitP (dtoL L A fr to) n x = true → outB A fr x = false := fun x hx h =>
        kept_of_dist ho ((hit_iff f hto ho (nextL_in f hx) n).1 h).1
      have fe : (nextL L' c).filter (hitP (dtoL L A fr to) n) = (nextL L c).filter (hitP (dtoL L A fr to) n) := by
        refine AM.ltL_eq ((nextL_srt f' c).sublist List.filter_sublist) ((nextL_srt f c).sublist List.filter_sublist) fun x => ?_
        rw [List.mem_filter, List.mem_filter, nextL_iff f', nextL_iff f, wal_edge G w, hc]
        constructor
        · rintro ⟨h1, h2⟩
          rw [Bool.and_eq_true] at h1
          exact ⟨h1.1, h2⟩
        · rintro ⟨h1, h2⟩
          have := hx x ((nextL_iff f).2 h1) h2
          rw [h1, this]; exact ⟨rfl, h2⟩
      have ne : nextTo L' (dtoL L A fr to) c n = nextTo L (dtoL L A fr to) c n := by unfold nextTo atL; rw [fe]
      rw [pathL, pathL, ne]
      have nn := near_next f hto ho hcr (by omega)
      rw [hd, show ((n + 1 : Nat) : Int) - 1 = n by omega] at nn
      have a := atL_cons nn
      exact congrArg (c :: ·) (ih (nextTo L (dtoL L A fr to) c n) (nextL_in f a.1) (hx _ a.1 a.2) (of_decide_eq_true a.2))
  rcases find_cases (B := A) f hb hbig with ⟨e1, n1⟩ | ⟨D1, e1, _, hD1, dD1⟩
  · rcases find_cases (B := []) f' hb' hbig' with ⟨e2, n2⟩ | ⟨D2, e2, _, hD2, dD2⟩
    · rw [e1, e2]
    · exact absurd ⟨ho, (wk _ _).1 dD2.1⟩ (n1 _)
  · rcases find_cases (B := []) f' hb' hbig' with ⟨e2, n2⟩ | ⟨D2, e2, _, hD2, dD2⟩
    · exact absurd ⟨outB_nil fr to, (wk _ _).2 dD1.1⟩ (n2 _)
    · rw [dE] at hD2 e2
      have : D2 = D1 := by omega
      rw [e1, e2, this, pE D1 fr hfr (out_self A fr) hD1]
theorem wal_out {l l' : List UInt8} {L L' : List (List UInt8)} (G : Good l L) (G' : Good l' L') {fr to : Int} {A : List Int} (w : WalI L L' fr A) (hb : bothF L fr to) (ho : outB A fr to = true) {b b' : Int} (hbig : (L.flatten.length : Int) ≤ b) : (findR L' [] fr to b').2 = 2 ∧ (findR L A fr to b).2 = 40 := by
  constructor
  · unfold findR
    rw [if_pos]
    rintro ⟨_, h⟩
    rw [wal_free G w, ho] at h; simp at h
  · rcases find_cases (B := A) G.fit hb hbig with ⟨e1, _⟩ | ⟨_, _, h, _⟩
    · rw [e1]
    · rw [ho] at h; cases h
/-- More banned cells. -/
theorem bans_mono {L : List (List UInt8)} (f : Fit L) {B M : List Int} {fr to : Int} (h : (distR L (B ++ M) fr to).2 = 0) : (distR L B fr to).2 = 0 ∧ (distR L B fr to).1 ≤ (distR L (B ++ M) fr to).1 := by
  obtain ⟨b, o, p, d⟩ := dist_ok f h
  have om : ∀ x, outB (B ++ M) fr x = false → outB B fr x = false := fun x hx => by
    unfold outB at hx ⊢
    simp only [List.mem_append] at hx
    by_cases t : x ∈ B
    · simp [t] at hx; simp [t, hx]
    · simp [t]
  have up : ∀ k x, Wk (nbB L (B ++ M) fr) to k x → Wk (nbB L B fr) to k x := fun k x w => by
    induction w with
    | zero => exact .zero
    | step w hc ih =>
      obtain ⟨e1, e2⟩ := (nbB_iff f).1 hc
      exact .step ih ((nbB_iff f).2 ⟨e1, om _ e2⟩)
  have w := up _ _ d.1
  obtain ⟨e, le⟩ := dist_of f b (om _ o) w
  exact ⟨e, by omega⟩
theorem distR_arg {L : List (List UInt8)} {B : List Int} {fr to : Int} : (distR L B fr to).2 = 2 ↔ ¬ bothF L fr to := by
  unfold distR
  by_cases hb : bothF L fr to
  · rw [if_pos hb]
    split <;> simp [hb]
  · rw [if_neg hb]; simp [hb]
end Go.Proofs.YtgdcbjpookldoaaDoor
