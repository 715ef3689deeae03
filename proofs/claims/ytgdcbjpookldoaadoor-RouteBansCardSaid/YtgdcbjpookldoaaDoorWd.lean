/- Walks of this claim's functions, and plain laws. -/
import Derived.Test.YtgdcbjpookldoaaDoorWc
import Derived.Test.YtgdcbjpookldoaaDoorAMBfs
set_option linter.unusedSimpArgs false
set_option linter.unusedVariables false
namespace Go.Proofs.YtgdcbjpookldoaaDoor
open Go.AM
set_option maxRecDepth 8000
theorem b61_RT2 : type_of% (And.intro (@List.map_toArray.{0,0}) (And.intro (@AM.boxK_agg) (And.intro (@AM.boxK_bool) (And.intro (@AM.boxK_func) (And.intro (@AM.boxK_int) (And.intro (@AM.boxK_map) (And.intro (@AM.boxK_pointer) (And.intro (@AM.boxK_slice) (And.intro (@AM.boxK_string) (And.intro (@AM.op_box) (@AM.op_makeFunc))))))))))) := And.intro (@List.map_toArray.{0,0}) (And.intro (@AM.boxK_agg) (And.intro (@AM.boxK_bool) (And.intro (@AM.boxK_func) (And.intro (@AM.boxK_int) (And.intro (@AM.boxK_map) (And.intro (@AM.boxK_pointer) (And.intro (@AM.boxK_slice) (And.intro (@AM.boxK_string) (And.intro (@AM.op_box) (@AM.op_makeFunc))))))))))
theorem b82_RT2 : type_of% (And.intro (@AM.bin_add) (And.intro (@AM.bin_gtr) (And.intro (@AM.bin_lss) (And.intro (@AM.fa_ptr) (And.intro (@fd_100_1) (And.intro (@AM.iaO_ok) (And.intro (AM.ia_slice el_22) (And.intro (@AM.ldO_agg) (And.intro (@AM.ldO_one) (And.intro (@AM.ld_ptr) (And.intro (AM.len_slice ul_22) (And.intro (@lk_22) (And.intro (@lk_3) (And.intro (@lk_96) (And.intro (@lk_98) (And.intro (@AM.op_binOp) (And.intro (@AM.op_call) (And.intro (@AM.op_fieldAddr) (And.intro (@AM.op_indexAddr) (And.intro (@AM.op_len) (And.intro (@AM.op_load) (And.intro (@AM.op_lookup) (And.intro (@AM.op_nilCheck) (And.intro (@AM.op_unOp) (And.intro (@AM.un_neg) (@AM.un_not)))))))))))))))))))))))))) := And.intro (@AM.bin_add) (And.intro (@AM.bin_gtr) (And.intro (@AM.bin_lss) (And.intro (@AM.fa_ptr) (And.intro (@fd_100_1) (And.intro (@AM.iaO_ok) (And.intro (AM.ia_slice el_22) (And.intro (@AM.ldO_agg) (And.intro (@AM.ldO_one) (And.intro (@AM.ld_ptr) (And.intro (AM.len_slice ul_22) (And.intro (@lk_22) (And.intro (@lk_3) (And.intro (@lk_96) (And.intro (@lk_98) (And.intro (@AM.op_binOp) (And.intro (@AM.op_call) (And.intro (@AM.op_fieldAddr) (And.intro (@AM.op_indexAddr) (And.intro (@AM.op_len) (And.intro (@AM.op_load) (And.intro (@AM.op_lookup) (And.intro (@AM.op_nilCheck) (And.intro (@AM.op_unOp) (And.intro (@AM.un_neg) (@AM.un_not)))))))))))))))))))))))))
theorem b55_RT2 : type_of% (And.intro (@Option.isNone_none.{0}) (And.intro (@Option.isNone_some.{0}) (And.intro (AM.bin_pnil ul_23) (And.intro (@AM.op_binOp) (And.intro (@AM.op_call) (And.intro (@AM.op_unOp) (And.intro (@AM.un_neg) (@AM.un_not)))))))) := And.intro (@Option.isNone_none.{0}) (And.intro (@Option.isNone_some.{0}) (And.intro (AM.bin_pnil ul_23) (And.intro (@AM.op_binOp) (And.intro (@AM.op_call) (And.intro (@AM.op_unOp) (And.intro (@AM.un_neg) (@AM.un_not)))))))


/-- Those that are not left out. -/
def keptL (B : List Int) (f : Int) (l : List Int) : List Int := l.filter fun c => !outB B f c
theorem keptL_succ (B : List Int) (f : Int) {l : List Int} {i : Nat} (hi : i < l.length) : keptL B f (l.take (i + 1)) = keptL B f (l.take i) ++ if outB B f (l.getD i 0) = true then [] else [l.getD i 0] := by
  unfold keptL
  have e : l.getD i 0 = l[i] := by simp [List.getD, hi]
  rw [List.take_succ_eq_append_getElem hi, List.filter_append, e]
  cases h : outB B f l[i] <;> simp [h]
theorem keptL_at {B : List Int} {f : Int} {l : List Int} {i : Nat} (hi : i < l.length) (h : outB B f (l.getD i 0) = false) : (keptL B f l)[(keptL B f (l.take i)).length]? = some (l.getD i 0) := by
  have e : keptL B f l = keptL B f (l.take i) ++ keptL B f (l.drop i) := by unfold keptL; rw [← List.filter_append, List.take_append_drop]
  rw [e, List.getElem?_append_right (Nat.le_refl _), Nat.sub_self]
  have d : l.drop i = l.getD i 0 :: l.drop (i + 1) := by
    rw [List.drop_eq_getElem_cons hi]
    simp [List.getD, hi]
  rw [d]
  unfold keptL
  rw [List.filter_cons_of_pos (by rw [h]; rfl)]
  rfl
theorem sfree_w {h : AHeap} {sp n c : Nat} {a : Option Addr} {Q : VQ} (hq : ∀ h', h'.get h.next = some (.cells [pv sp] 96 false) → h'.get (h.next + 1) = some (.cells [.slice a n c] 22 false) → Fr none' h h' → h'.next = h.next + 2 → h'.low = h.low → Q (.func (.func 82) #[] #[pv (h.next + 1), pv h.next]) h') : W 61 [pv sp, .slice a n c] h Q := by
  refine AM.enter hp (fn := Tryd.f61) (rs := [.tmp 4]) (nt := 6) (by kernel_rfl) Tryd.func61 rfl rfl rfl (by kernel_rfl) ?_
  (first | (simp (maxSteps := 1000000) (disch := first | omega | (simp only [AM.DB, List.length_set, List.length_map]; first | done | omega)) only [AM.RB, Nat.reduceAdd, Nat.reduceMul, Nat.reduceEqDiff, reduceCtorEq, b61_RT2]) | skip)
  generalize hE_ : AHeap.alloc (AHeap.alloc h _) _ = h2
  refine hq h2 ?_ ?_ ?_ (by rw [← hE_]; rfl) (by rw [← hE_]; rfl)
  · rw [← hE_, AM.get_alloc_ne (by simp), AM.get_alloc_self rfl]
  · rw [← hE_, AM.get_alloc_self (by simp)]
  · rw [← hE_]; exact ((Fr.refl _ _).alloc _).alloc _
set_option maxHeartbeats 4000000 in
theorem free1_w {h : AHeap} {w1 w2 sp o1 n : Nat} {pm dv : Value} {la : Option Addr} {lc : Nat} {l B : List Int} {f : Int} {ml : List (Int × Value)} {e1 e2 e3 : TypeId} {b1 b2 b3 : Bool} (g1 : h.get w1 = some (.cells [.slice la n lc] e1 b1)) (g2 : h.get w2 = some (.cells [pv sp] e2 b2))
    (gs : h.get sp = some (.cells [pm, .map (some o1), dv] e3 b3)) (gm : h.get o1 = some (.map (encM ml))) (om : outMap B f ml) (hr : Rd h 3 1 (.slice la n lc) n (l.map (.int .i64))) (hn : n ≤ 4000000) :
    IterOk Tryd.prog prims (.func (.func 82) #[] #[pv w1, pv w2]) (fun id => id = w1 ∨ id = w2 ∨ id = sp ∨ id = o1 ∨ idOf (.slice la n lc) id) ((keptL B f l).map fun c => [.int .i64 c]) h := by
  intro y J E h0 hnx hR hlow hJ hE hy hJ0
  have hll : l.length = n := by simpa using hr.length
  have gw1 : h0.get w1 = some (.cells [.slice la n lc] e1 b1) := by rw [hR w1 (AM.get_some_lt g1) (.inl rfl)]; exact g1
  have gw2 : h0.get w2 = some (.cells [pv sp] e2 b2) := by rw [hR w2 (AM.get_some_lt g2) (.inr (.inl rfl))]; exact g2
  have gs0 : h0.get sp = some (.cells [pm, .map (some o1), dv] e3 b3) := by rw [hR sp (AM.get_some_lt gs) (.inr (.inr (.inl rfl)))]; exact gs
  have gm0 : h0.get o1 = some (.map (encM ml)) := by rw [hR o1 (AM.get_some_lt gm) (.inr (.inr (.inr (.inl rfl))))]; exact gm
  have hr0 : Rd h0 3 1 (.slice la n lc) n (l.map (.int .i64)) := hr.same fun id hi => hR id (hr.lt hi) (.inr (.inr (.inr (.inr hi))))
  have hRlt : ∀ id, (id = w1 ∨ id = w2 ∨ id = sp ∨ id = o1 ∨ idOf (.slice la n lc) id) → id < h0.next := by
    rintro id (rfl | rfl | rfl | rfl | hi)
    · exact AM.get_some_lt gw1
    · exact AM.get_some_lt gw2
    · exact AM.get_some_lt gs0
    · exact AM.get_some_lt gm0
    · exact hr0.lt hi
  refine AM.enter hp (fn := Tryd.f82) (rs := []) (nt := 24) (by kernel_rfl) Tryd.func82 rfl rfl rfl (by kernel_rfl) ?_
  (first | (simp (maxSteps := 1000000) (disch := first | omega | (simp only [AM.DB, List.length_set, List.length_map]; first | done | omega)) only [AM.RB, Nat.reduceAdd, Nat.reduceMul, Nat.reduceEqDiff, reduceCtorEq, b82_RT2, gw1]) | skip)
  refine AM.loop_w hp 24 (fun i : Nat => [(0, y), (1, pv w1), (2, pv w2), (6, .slice la n lc), (7, .int .i64 n), (8, .int .i64 i)])
    (fun i h' => i ≤ n ∧ (∀ id, (id = w1 ∨ id = w2 ∨ id = sp ∨ id = o1 ∨ idOf (.slice la n lc) id) → h'.get id = h0.get id) ∧ h0.next ≤ h'.next ∧ h'.low = h0.low ∧ ∃ A, (∀ id, A id → h0.next ≤ id ∧ id < h'.next) ∧ J (keptL B f (l.take i)).length A h') (fun i => n - i) (by kernel_rfl) 0 ?_ ?_ ?_
  · simp (maxSteps := 1000000) (disch := first | omega | (simp only [AM.DB, List.length_set, List.length_map]; first | done | omega)) only [AM.RB, Nat.reduceAdd, Nat.reduceMul, Nat.reduceEqDiff, reduceCtorEq, b82_RT2]
    first | rfl | skip
  · exact ⟨Nat.zero_le _, fun _ _ => rfl, Nat.le_refl _, rfl, none', fun id q => q.elim, hJ0⟩
  rintro i h1 ρ ⟨hi, hk, nx1, lw1, A, hA, hJ1⟩
  have r1 := hr0.same fun id q => hk id (.inr (.inr (.inr (.inr q))))
  have gw21 : h1.get w2 = some (.cells [pv sp] e2 b2) := by rw [hk w2 (.inr (.inl rfl))]; exact gw2
  have gs1 : h1.get sp = some (.cells [pm, .map (some o1), dv] e3 b3) := by rw [hk sp (.inr (.inr (.inl rfl)))]; exact gs0
  have gm1 : h1.get o1 = some (.map (encM ml)) := by rw [hk o1 (.inr (.inr (.inr (.inl rfl))))]; exact gm0
  simp (maxSteps := 1000000) (disch := first | omega | (simp only [AM.DB, List.length_set, List.length_map]; first | done | omega)) only [AM.RB, Nat.reduceAdd, Nat.reduceMul, Nat.reduceEqDiff, reduceCtorEq, b82_RT2]
  refine AM.condV_split (fun hlt => ?_) (fun hlt => ?_)
  · have hil : i < l.length := by omega
    have fs := keptL_succ B f hil
    have fa := keptL_at (B := B) (f := f) hil
    obtain ⟨x, hx⟩ : ∃ x, l.getD i 0 = x := ⟨_, rfl⟩
    rw [hx] at fs fa
    have ox := om x
    cases ho : outB B f x with
    | true =>
      rw [ho, if_pos rfl] at ox
      rw [ho, if_pos rfl, List.append_nil] at fs
      have d1 : decide ((0 : Int) < 1) = true := rfl
      (first | (simp (maxSteps := 1000000) (disch := first | omega | (simp only [AM.DB, List.length_set, List.length_map]; first | done | omega)) only [AM.RB, Nat.reduceAdd, Nat.reduceMul, Nat.reduceEqDiff, reduceCtorEq, b82_RT2, r1.ia el_22, Rd.ldi r1 lk_3, Int.toNat_natCast, hx, gw21, gs1, AM.lookup_enc mp_98 gm1, ox, d1, AM.wrap_i64]) | skip)
      refine ⟨i + 1, by omega, ?_, by omega, hk, nx1, lw1, A, hA, by rw [fs]; exact hJ1⟩
      simp (maxSteps := 1000000) (disch := first | omega | (simp only [AM.DB, List.length_set, List.length_map]; first | done | omega)) only [AM.RB, Nat.reduceAdd, Nat.reduceMul, Nat.reduceEqDiff, reduceCtorEq, b82_RT2]
      first | rfl | skip
    | false =>
      rw [ho] at ox
      simp only [ho, Bool.false_eq_true, if_false] at ox fs
      have d1 : decide ((0 : Int) < 0) = false := rfl
      have at' : ((keptL B f l).map fun c => [Value.int .i64 c])[(keptL B f (l.take i)).length]? = some [.int .i64 x] := by rw [List.getElem?_map, fa ho]; rfl
      (first | (simp (maxSteps := 1000000) (disch := first | omega | (simp only [AM.DB, List.length_set, List.length_map]; first | done | omega)) only [AM.RB, Nat.reduceAdd, Nat.reduceMul, Nat.reduceEqDiff, reduceCtorEq, b82_RT2, r1.ia el_22, Rd.ldi r1 lk_3, Int.toNat_natCast, hx, gw21, gs1, AM.lookup_enc mp_98 gm1, ox, d1]) | skip)
      refine AM.CallW.mono (hy _ _ A h1 at' hJ1 hA nx1 lw1 hk) ?_
      rintro v h2 ⟨b, rfl, n2, l2, s2, q2⟩
      cases b with
      | true =>
        (first | (simp (maxSteps := 1000000) (disch := first | omega | (simp only [AM.DB, List.length_set, List.length_map]; first | done | omega)) only [AM.RB, Nat.reduceAdd, Nat.reduceMul, Nat.reduceEqDiff, reduceCtorEq, b82_RT2, AM.wrap_i64]) | skip)
        refine ⟨i + 1, by omega, ?_, by omega, fun id q => (s2 id (by have := hRlt id q; omega) (.inr q)).trans (hk id q), by omega, by omega, A, fun id q => ⟨(hA id q).1, by have := (hA id q).2; omega⟩, ?_⟩
        · simp (maxSteps := 1000000) (disch := first | omega | (simp only [AM.DB, List.length_set, List.length_map]; first | done | omega)) only [AM.RB, Nat.reduceAdd, Nat.reduceMul, Nat.reduceEqDiff, reduceCtorEq, b82_RT2]
          first | rfl | skip
        · rw [fs, List.length_append]; exact q2
      | false =>
        (first | (simp (maxSteps := 1000000) (disch := first | omega | (simp only [AM.DB, List.length_set, List.length_map]; first | done | omega)) only [AM.RB, Nat.reduceAdd, Nat.reduceMul, Nat.reduceEqDiff, reduceCtorEq, b82_RT2]) | skip)
        exact ⟨A, fun id q => ⟨(hA id q).1, by have := (hA id q).2; omega⟩, by omega, by omega, .inr q2⟩
  · obtain rfl : i = n := by omega
    rw [← hll, List.take_length] at hJ1
    (first | (simp (maxSteps := 1000000) (disch := first | omega | (simp only [AM.DB, List.length_set, List.length_map]; first | done | omega)) only [AM.RB, Nat.reduceAdd, Nat.reduceMul, Nat.reduceEqDiff, reduceCtorEq, b82_RT2]) | skip)
    exact ⟨A, hA, nx1, lw1, .inl (by rw [List.length_map]; exact hJ1)⟩
theorem may_w {h : AHeap} {p : Nat} {L : List (List UInt8)} {B : Nat → Prop} (m : Mk h p L B) (f : Fit L) (a b : Int) {Q : VQ} (hq : Q (.int .i64 (if freeP L.flatten a = true ∧ freeP L.flatten b = true then 0 else 2)) h) : W 55 [pv p, .int .i64 a, .int .i64 b] h Q := by
  obtain ⟨kv, tl, mm⟩ := m.mp
  refine AM.enter hp (fn := Tryd.f55) (rs := [.tmp 6]) (nt := 21) (by kernel_rfl) Tryd.func55 rfl rfl rfl (by kernel_rfl) ?_
  (first | (simp (maxSteps := 1000000) (disch := first | omega | (simp only [AM.DB, List.length_set, List.length_map]; first | done | omega)) only [AM.RB, Nat.reduceAdd, Nat.reduceMul, Nat.reduceEqDiff, reduceCtorEq, b55_RT2]) | skip)
  refine free_w mm f.rows a _ ?_
  cases ha : freeP L.flatten a with
  | false =>
    (first | (simp (maxSteps := 1000000) (disch := first | omega | (simp only [AM.DB, List.length_set, List.length_map]; first | done | omega)) only [AM.RB, Nat.reduceAdd, Nat.reduceMul, Nat.reduceEqDiff, reduceCtorEq, b55_RT2]) | skip)
    rw [ha] at hq
    simpa using hq
  | true =>
    (first | (simp (maxSteps := 1000000) (disch := first | omega | (simp only [AM.DB, List.length_set, List.length_map]; first | done | omega)) only [AM.RB, Nat.reduceAdd, Nat.reduceMul, Nat.reduceEqDiff, reduceCtorEq, b55_RT2]) | skip)
    refine free_w mm f.rows b _ ?_
    cases hb : freeP L.flatten b with
    | false =>
      (first | (simp (maxSteps := 1000000) (disch := first | omega | (simp only [AM.DB, List.length_set, List.length_map]; first | done | omega)) only [AM.RB, Nat.reduceAdd, Nat.reduceMul, Nat.reduceEqDiff, reduceCtorEq, b55_RT2]) | skip)
      rw [ha, hb] at hq
      simpa using hq
    | true =>
      (first | (simp (maxSteps := 1000000) (disch := first | omega | (simp only [AM.DB, List.length_set, List.length_map]; first | done | omega)) only [AM.RB, Nat.reduceAdd, Nat.reduceMul, Nat.reduceEqDiff, reduceCtorEq, b55_RT2]) | skip)
      rw [ha, hb] at hq
      simpa using hq
end Go.Proofs.YtgdcbjpookldoaaDoor

namespace Go.Proofs.YtgdcbjpookldoaaDoor
open Go.AM

/-! ### What is around, as the program looks for it -/
end Go.Proofs.YtgdcbjpookldoaaDoor

namespace Go.Proofs.YtgdcbjpookldoaaDoor
open Go.AM
set_option maxRecDepth 8000
/-! ### The document's: who is left out, what is around -/
abbrev nbB (L : List (List UInt8)) (B : List Int) (f : Int) (a : Int) : List Int := keptL B f (backL L a)
theorem nextL_in {L : List (List UInt8)} (f : Fit L) {b c : Int} (h : c ∈ nextL L b) : 0 ≤ c ∧ c < L.flatten.length := by
  have hc1 : decide (c ∈ nextL L b) = true := decide_eq_true h
  rw [edge_mem f] at hc1
  exact freeP_in (edgeL_facts hc1).2.2.2
end Go.Proofs.YtgdcbjpookldoaaDoor

namespace Go.Proofs.YtgdcbjpookldoaaDoor
open Go.AM
set_option maxRecDepth 8000
end Go.Proofs.YtgdcbjpookldoaaDoor

namespace Go.Proofs.YtgdcbjpookldoaaDoor
open Go.AM
set_option maxRecDepth 8000
def fillL (n i : Nat) : List Int := (List.range n).map fun j => if j < i then -1 else 0
theorem backL_iff {L : List (List UInt8)} (f : Fit L) {a b : Int} : a ∈ backL L b ↔ edgeL L a b = true := by
  constructor
  · intro h
    rw [← bck_eq f] at h
    unfold bck at h
    obtain ⟨n, hn, rfl⟩ := List.mem_map.1 h
    exact (List.mem_filter.1 hn).2
  · exact backL_mem f
theorem nextL_iff {L : List (List UInt8)} (f : Fit L) {a b : Int} : b ∈ nextL L a ↔ edgeL L a b = true := by
  rw [← edge_mem f, decide_eq_true_iff]
theorem backL_in {L : List (List UInt8)} (f : Fit L) {b c : Int} (h : c ∈ backL L b) : 0 ≤ c ∧ c < L.flatten.length :=
  (edgeL_facts ((backL_iff f).1 h)).1.1
theorem nbB_in {L : List (List UInt8)} (f : Fit L) (B : List Int) (fr : Int) : ∀ b : Int, 0 ≤ b ∧ b < L.flatten.length → ∀ c ∈ nbB L B fr b, 0 ≤ c ∧ c < L.flatten.length :=
  fun _ _ _ hc => backL_in f (List.mem_filter.1 hc).1

/-- The distances to an end of all cells; -1: none. -/
def dtoL (L : List (List UInt8)) (B : List Int) (fr to : Int) : List Int := if outB B fr to = true then List.replicate L.flatten.length (-1) else distL L.flatten.length (bfs (nbB L B fr) L.flatten.length to)
theorem dto_is {L : List (List UInt8)} (f : Fit L) {B : List Int} {fr to : Int} (ht : 0 ≤ to ∧ to < L.flatten.length) (ho : outB B fr to = false) : IsDist (nbB L B fr) L.flatten.length to (dtoL L B fr to) := by
  unfold dtoL
  rw [if_neg (by rw [ho]; simp)]
  exact (bfs_spec (nbB_in f B fr) ht.1 ht.2).1
theorem dto_out {L : List (List UInt8)} {B : List Int} {fr to : Int} (ho : outB B fr to = true) : dtoL L B fr to = List.replicate L.flatten.length (-1) := if_pos ho
end Go.Proofs.YtgdcbjpookldoaaDoor

namespace Go.Proofs.YtgdcbjpookldoaaDoor
open Go.AM
set_option maxRecDepth 8000
/-! ### The document's Looks -/
def lookP (L : List (List UInt8)) (dl : List Int) (fr : Int) (i : Nat) : Bool := decide (0 ≤ dl.getD i 0) && (decide (dl.getD fr.toNat 0 < 0) || decide (dl.getD i 0 + farL L fr i ≤ dl.getD fr.toNat 0))
def looksN (L : List (List UInt8)) (dl : List Int) (fr : Int) (k : Nat) : Nat := ((List.range k).filter (lookP L dl fr)).length
theorem looksN_le (L : List (List UInt8)) (dl : List Int) (fr : Int) (k : Nat) : looksN L dl fr k ≤ k := by
  unfold looksN
  exact Nat.le_trans (List.length_filter_le _ _) (by simp)
theorem far_bd {L : List (List UInt8)} (f : Fit L) (a b : Int) : -1 ≤ farL L a b ∧ farL L a b ≤ 4000 := by
  unfold farL
  split
  · rename_i h
    have hK := f.k1024
    have h1 := Nat.div_le_self a.toNat (L.getD 0 []).length
    have h2 := Nat.div_le_self b.toNat (L.getD 0 []).length
    have h3 := Nat.mod_le a.toNat (L.getD 0 []).length
    have h4 := Nat.mod_le b.toNat (L.getD 0 []).length
    unfold farN
    generalize a.toNat / (L.getD 0 []).length = x1 at *
    generalize b.toNat / (L.getD 0 []).length = x2 at *
    generalize a.toNat % (L.getD 0 []).length = x3 at *
    generalize b.toNat % (L.getD 0 []).length = x4 at *
    omega
  · omega
theorem dto_bd {L : List (List UInt8)} (f : Fit L) (B : List Int) {fr to : Int} (ht : 0 ≤ to ∧ to < L.flatten.length) {i : Nat} (hi : i < L.flatten.length) : -1 ≤ (dtoL L B fr to).getD i 0 ∧ (dtoL L B fr to).getD i 0 < 1024 := by
  have hK := f.k1024
  cases ho : outB B fr to with
  | true =>
    rw [dto_out ho]
    generalize L.flatten.length = N at *
    have : (List.replicate N (-1 : Int)).getD i 0 = -1 := by simp [List.getD, hi]
    omega
  | false =>
    have := (dto_is f ht ho).bound ht (nbB_in f B fr) (b := (i : Int)) ⟨by omega, by omega⟩
    rw [Int.toNat_natCast] at this
    omega

end Go.Proofs.YtgdcbjpookldoaaDoor

namespace Go.Proofs.YtgdcbjpookldoaaDoor
open Go.AM

/-! ### What a search finds, plain -/
theorem farN_tri (C a b c : Nat) : farN C a c ≤ farN C a b + farN C b c := by
  unfold farN
  generalize a / C = x1
  generalize b / C = x2
  generalize c / C = x3
  generalize a % C = y1
  generalize b % C = y2
  generalize c % C = y3
  omega
theorem farN_sym (C a b : Nat) : farN C a b = farN C b a := by
  unfold farN
  generalize a / C = x1
  generalize b / C = x2
  generalize a % C = y1
  generalize b % C = y2
  omega
theorem farN_self (C a : Nat) : farN C a a = 0 := by unfold farN; omega
theorem far_step {L : List (List UInt8)} {fr x y : Int} (e : edgeL L y x = true) : farL L fr x ≤ farL L fr y + 1 ∧ farL L fr y ≤ farL L fr x + 1 := by
  obtain ⟨⟨hy, hx⟩, h1, _⟩ := edgeL_facts e
  unfold farL at h1 ⊢
  rw [if_pos ⟨hy, hx⟩] at h1
  by_cases h : 0 ≤ fr ∧ fr < L.flatten.length
  · rw [if_pos ⟨h, hx⟩, if_pos ⟨h, hy⟩]
    have t1 := farN_tri (L.getD 0 []).length fr.toNat y.toNat x.toNat
    have t2 := farN_tri (L.getD 0 []).length fr.toNat x.toNat y.toNat
    have t3 := farN_sym (L.getD 0 []).length x.toNat y.toNat
    omega
  · rw [if_neg (fun q => h q.1), if_neg (fun q => h q.1)]; omega
theorem far_self {L : List (List UInt8)} {a : Int} (h : 0 ≤ a ∧ a < L.flatten.length) : farL L a a = 0 := by
  unfold farL
  rw [if_pos ⟨h, h⟩, farN_self]
theorem far_nb {L : List (List UInt8)} (f : Fit L) {B : List Int} {fr x y : Int} (h : y ∈ nbB L B fr x) : farL L fr x ≤ farL L fr y + 1 ∧ farL L fr y ≤ farL L fr x + 1 :=
  far_step ((backL_iff f).1 (List.mem_filter.1 h).1)
/-- Who is closed, with which distance, when a search has ended. -/
def CdL (L : List (List UInt8)) (B : List Int) (fr to : Int) (x : Int) : Option Int := if (0 ≤ x ∧ x < L.flatten.length) ∧ lookP L (dtoL L B fr to) fr x.toNat = true then some ((dtoL L B fr to).getD x.toNat 0) else none
theorem looked_dto {L : List (List UInt8)} (f : Fit L) {B : List Int} {fr to : Int} (hf : 0 ≤ fr ∧ fr < L.flatten.length) (ht : 0 ≤ to ∧ to < L.flatten.length) (ho : outB B fr to = false) {C : Int → Option Int} {far : Int} (x : Looked (nbB L B fr) to fr (farL L fr) C far) :
    far = (dtoL L B fr to).getD fr.toNat 0 ∧ C = CdL L B fr to := by
  have D := dto_is f ht ho (fr := fr)
  have e1 : far = (dtoL L B fr to).getD fr.toNat 0 := by
    by_cases hn : far < 0
    · obtain ⟨a, b⟩ := x.neg hn
      by_cases q : 0 ≤ (dtoL L B fr to).getD fr.toNat 0
      · exact absurd (D.yes fr hf.1 hf.2 q).1 (b _)
      · rw [(D.no fr hf.1 hf.2 (by omega)).1]; exact a
    · have d := x.pos (by omega)
      by_cases q : 0 ≤ (dtoL L B fr to).getD fr.toNat 0
      · have := d.uniq (D.yes fr hf.1 hf.2 q); omega
      · exact absurd d.1 ((D.no fr hf.1 hf.2 (by omega)).2 _)
  refine ⟨e1, funext fun y => ?_⟩
  unfold CdL lookP
  cases hC : C y with
  | some d =>
    obtain ⟨d0, dd, dl⟩ := x.mem y d hC
    have hy : 0 ≤ y ∧ y < (L.flatten.length : Int) := Wk.ok (ok := fun z => 0 ≤ z ∧ z < (L.flatten.length : Int)) ht (nbB_in f B fr) dd.1
    have q : 0 ≤ (dtoL L B fr to).getD y.toNat 0 := by
      by_cases q : 0 ≤ (dtoL L B fr to).getD y.toNat 0
      · exact q
      · exact absurd dd.1 ((D.no y hy.1 hy.2 (by omega)).2 _)
    have e2 := dd.uniq (D.yes y hy.1 hy.2 q)
    have e3 : d = (dtoL L B fr to).getD y.toNat 0 := by omega
    have e4 : ((y.toNat : Nat) : Int) = y := by omega
    rw [if_pos, e3]
    refine ⟨hy, ?_⟩
    rw [Bool.and_eq_true, Bool.or_eq_true, decide_eq_true_iff, decide_eq_true_iff, decide_eq_true_iff, e4, ← e1, ← e3]
    refine ⟨d0, ?_⟩
    by_cases t : far < 0
    · exact .inl t
    · exact .inr (dl (by omega))
  | none =>
    rw [if_neg]
    rintro ⟨hy, q⟩
    have e4 : ((y.toNat : Nat) : Int) = y := by omega
    rw [Bool.and_eq_true, Bool.or_eq_true, decide_eq_true_iff, decide_eq_true_iff, decide_eq_true_iff, e4, ← e1] at q
    have dd := D.yes y hy.1 hy.2 q.1
    have := x.all y _ dd (fun h => by omega)
    rw [hC] at this; cases this
theorem out_dto {L : List (List UInt8)} {B : List Int} {fr to : Int} (hf : 0 ≤ fr ∧ fr < L.flatten.length) (ho : outB B fr to = true) : (dtoL L B fr to).getD fr.toNat 0 = -1 ∧ CdL L B fr to = fun _ => none := by
  have e := dto_out (L := L) ho
  have g : ∀ i, i < L.flatten.length → (dtoL L B fr to).getD i 0 = -1 := fun i hi => by
    rw [e]
    generalize L.flatten.length = N at *
    simp [List.getD, hi]
  refine ⟨g _ (by omega), funext fun y => ?_⟩
  unfold CdL lookP
  rw [if_neg]
  rintro ⟨hy, q⟩
  rw [g _ (by omega)] at q
  simp at q
theorem cl_len {L : List (List UInt8)} {B : List Int} {fr to : Int} {Cl : List Int} (hn : Cl.Nodup) (h : ∀ x, x ∈ Cl ↔ CdL L B fr to x ≠ none) : Cl.length = looksN L (dtoL L B fr to) fr L.flatten.length := by
  have p : Cl.Perm (((List.range L.flatten.length).filter (lookP L (dtoL L B fr to) fr)).map Int.ofNat) := by
    refine (List.perm_ext_iff_of_nodup hn ?_).2 fun x => ?_
    · refine List.Pairwise.map _ (fun a b (hab : a ≠ b) => ?_) (List.filter_sublist.nodup List.nodup_range)
      intro q
      exact hab (Int.ofNat.inj q)
    · rw [h x]
      unfold CdL
      constructor
      · intro q
        split at q
        · rename_i c
          exact List.mem_map.2 ⟨x.toNat, List.mem_filter.2 ⟨List.mem_range.2 (by omega), c.2⟩, by show ((x.toNat : Nat) : Int) = x; omega⟩
        · exact absurd rfl q
      · intro q
        obtain ⟨n, hn, rfl⟩ := List.mem_map.1 q
        obtain ⟨h1, h2⟩ := List.mem_filter.1 hn
        have := List.mem_range.1 h1
        rw [if_pos ⟨⟨Int.natCast_nonneg n, by show (n : Int) < _; omega⟩, by simpa using h2⟩]
        simp
  rw [p.length_eq, List.length_map]; rfl
theorem mset_len {l : List (Int × Value)} {x : Int} {v : Value} (h : mgetL l x = none) : (msetL l x v).length = l.length + 1 := by
  induction l with
  | nil => rfl
  | cons p l ih =>
    obtain ⟨k, w⟩ := p
    unfold mgetL at h
    unfold msetL
    by_cases e : x = k
    · rw [if_pos e] at h; cases h
    · rw [if_neg e] at h ⊢
      rw [List.length_cons, List.length_cons, ih h]
theorem map_upd {kl : List (Int × Value)} {K : Int → Option Int} (h : ∀ x, mgetL kl x = (K x).map (.int .i64)) (y v : Int) : ∀ x, mgetL (msetL kl y (.int .i64 v)) x = (AM.upd K y v x).map (.int .i64) := by
  intro x
  rw [AM.mget_set, h x]
  unfold AM.upd
  split <;> rfl
end Go.Proofs.YtgdcbjpookldoaaDoor

namespace Go.Proofs.YtgdcbjpookldoaaDoor
open Go.AM
set_option maxRecDepth 8000
/-- A map of numbers that has these keys. -/
def keysM (dl : List (Int × Value)) (K : List Int) : Prop := ∀ x, (mgetL dl x).isSome = decide (x ∈ K)
theorem keysM.set {dl : List (Int × Value)} {K : List Int} (h : keysM dl K) (b : Int) (v : Value) (hb : b ∉ K) : keysM (msetL dl b v) (K ++ [b]) := by
  intro x
  rw [AM.mget_set]
  by_cases e : x = b
  · subst e; simp
  · rw [if_neg e, h x]; simp [e]

theorem allP_in {K : List UInt8} {x : Int} : ∀ {n : Nat}, x ∈ allP K n ↔ (0 ≤ x ∧ x < n) ∧ freeP K x = true
  | 0 => ⟨fun h => (by cases h), fun ⟨h, _⟩ => by omega⟩
  | n + 1 => by
    rw [allP, List.mem_append, allP_in (n := n)]
    by_cases h : freeP K n = true
    · rw [if_pos h, List.mem_singleton]
      constructor
      · rintro (⟨h1, h2⟩ | rfl)
        · exact ⟨by omega, h2⟩
        · exact ⟨by omega, h⟩
      · rintro ⟨h1, h2⟩
        by_cases e : x = n
        · exact .inr e
        · exact .inl ⟨by omega, h2⟩
    · rw [if_neg h]
      constructor
      · rintro (⟨h1, h2⟩ | h)
        · exact ⟨by omega, h2⟩
        · cases h
      · rintro ⟨h1, h2⟩
        by_cases e : x = n
        · subst e; exact absurd h2 h
        · exact .inl ⟨by omega, h2⟩
/-- What the loop over rounds keeps: the search's objects (its box c9, the struct sp, the maps o1, o2), the round's box c11, who came last. -/
structure ArI (h h' : AHeap) (p sp c9 o1 o2 c11 : Nat) (L : List (List UInt8)) (B0 : Nat → Prop) (ml : List (Int × Value)) (K : List Int) (atv : Value) (at' : List Int) (r : Int) (C : Nat → Prop) : Prop where
  g9 : h'.get c9 = some (.cells [pv sp] 96 false)
  gs : h'.get sp = some (.cells [pv p, .map (some o1), .map (some o2)] 100 false)
  gm : h'.get o1 = some (.map (encM ml))
  gd : ∃ dl, h'.get o2 = some (.map (encM dl)) ∧ keysM dl K
  g11 : h'.get c11 = some (.cells [.int .i64 r] 3 false)
  o : Ow h' 3 1 atv at'.length (at'.map (.int .i64))
  new : ∀ id, idOf atv id → h.next + 4 ≤ id
  c : h.next + 4 ≤ c11
  m : Mk h' p L C
  cB : ∀ id, B0 id → C id
  cO : C c9 ∧ C sp ∧ C o1 ∧ C o2 ∧ C c11
  cA : ∀ id, idOf atv id → C id
  fr : Fr (fun id => id = p) h h'

theorem ArI.step {h h1 h2 : AHeap} {p sp c9 o1 o2 c11 : Nat} {L : List (List UInt8)} {B0 T : Nat → Prop} {ml : List (Int × Value)} {K K' : List Int} {atv : Value} {at' : List Int} {r : Int} {C C' : Nat → Prop} (x : ArI h h1 p sp c9 o1 o2 c11 L B0 ml K atv at' r C) (fr : Fr T h1 h2)
    (h9 : ¬ T c9) (hs : ¬ T sp) (ho : ¬ T o1) (h11 : ¬ T c11) (ha : ∀ id, idOf atv id → ¬ T id) (gd : ∃ dl, h2.get o2 = some (.map (encM dl)) ∧ keysM dl K') (m : Mk h2 p L C') (hC : ∀ id, C id → C' id) (frp : Fr (fun id => id = p) h h2) : ArI h h2 p sp c9 o1 o2 c11 L B0 ml K' atv at' r C' :=
  ⟨fr.get x.g9 h9, fr.get x.gs hs, fr.get x.gm ho, gd, fr.get x.g11 h11, x.o.fr fr ha, x.new, x.c, m, fun id q => hC id (x.cB id q), ⟨hC _ x.cO.1, hC _ x.cO.2.1, hC _ x.cO.2.2.1, hC _ x.cO.2.2.2.1, hC _ x.cO.2.2.2.2⟩, fun id q => hC id (x.cA id q), frp⟩

theorem Fr.ext2 {T : Nat → Prop} {h h1 h2 : AHeap} (fr : Fr T h h1) (hB : ∀ id, id < h.next → h2.get id = h1.get id) (hn : h1.next ≤ h2.next) (hl : h2.low = h1.low) : Fr T h h2 :=
  ⟨Nat.le_trans fr.next hn, by rw [hl]; exact fr.low, fun id h3 h4 => by rw [hB id h3]; exact fr.old id h3 h4⟩

theorem Mk.frC {h h' : AHeap} {p : Nat} {L : List (List UInt8)} {B C T : Nat → Prop} (m : Mk h p L B) (fr : Fr T h h') (hT : ∀ id, T id → B id) (hC : ∀ id, C id → B id ∨ (h.next ≤ id ∧ id < h'.next)) : Mk h' p L C := by
  obtain ⟨⟨S, m, hB⟩, hb⟩ := m
  have hn := fr.next
  refine ⟨⟨S, m.fr fr fun id q1 q2 => hB id (hT id q2) q1, fun id q1 q2 => ?_⟩, fun id q => ?_⟩
  · rcases hC id q1 with q | q
    · exact hB id q q2
    · have := m.lt q2; omega
  · rcases hC id q with q | q
    · exact Nat.lt_of_lt_of_le (hb id q) hn
    · exact q.2
end Go.Proofs.YtgdcbjpookldoaaDoor

namespace Go.Proofs.YtgdcbjpookldoaaDoor
open Go.AM
set_option maxRecDepth 8000
/-! ### Whether cells are a route -/
end Go.Proofs.YtgdcbjpookldoaaDoor

namespace Go.Proofs.YtgdcbjpookldoaaDoor
open Go.AM
set_option maxRecDepth 8000
theorem b122_RT9 : type_of% (And.intro (@AM.bin_neq) (@AM.op_binOp)) := And.intro (@AM.bin_neq) (@AM.op_binOp)
theorem b112_RT9 : type_of% (And.intro (@AM.bin_gtr) (And.intro (@AM.bin_lss) (And.intro (@AM.op_binOp) (@AM.op_call)))) := And.intro (@AM.bin_gtr) (And.intro (@AM.bin_lss) (And.intro (@AM.op_binOp) (@AM.op_call)))
theorem b111_RT9 : type_of% (And.intro (@AM.bin_add) (And.intro (@AM.bin_lss) (And.intro (@AM.bin_neq) (And.intro (@AM.iaO_ok) (And.intro (AM.ia_slice el_22) (And.intro (@AM.ldO_agg) (And.intro (@AM.ldO_one) (And.intro (@AM.ld_ptr) (And.intro (AM.len_slice ul_22) (And.intro (@lk_3) (And.intro (@AM.op_binOp) (And.intro (@AM.op_indexAddr) (And.intro (@AM.op_len) (@AM.op_load)))))))))))))) := And.intro (@AM.bin_add) (And.intro (@AM.bin_lss) (And.intro (@AM.bin_neq) (And.intro (@AM.iaO_ok) (And.intro (AM.ia_slice el_22) (And.intro (@AM.ldO_agg) (And.intro (@AM.ldO_one) (And.intro (@AM.ld_ptr) (And.intro (AM.len_slice ul_22) (And.intro (@lk_3) (And.intro (@AM.op_binOp) (And.intro (@AM.op_indexAddr) (And.intro (@AM.op_len) (@AM.op_load)))))))))))))
theorem b104_RT9 : type_of% (And.intro (@AM.boxK_agg) (And.intro (@AM.boxK_bool) (And.intro (@AM.boxK_func) (And.intro (@AM.boxK_int) (And.intro (@AM.boxK_map) (And.intro (@AM.boxK_pointer) (And.intro (@AM.boxK_slice) (And.intro (@AM.boxK_string) (And.intro (AM.bsW_int bs_22) (And.intro (AM.bsW_int3 bs_22) (And.intro (AM.bsW_nil bs_22) (And.intro (AM.bsW_slice bs_22) (And.intro (AM.bsW_string bs_22) (And.intro (@AM.fa_ptr) (And.intro (@fd_133_0) (And.intro (@fd_133_1) (And.intro (@fd_133_2) (And.intro (@AM.ldO_agg) (And.intro (@AM.ldO_one) (And.intro (@AM.ld_ptr) (And.intro (@lk_3) (And.intro (@AM.op_box) (And.intro (@AM.op_buildSlice) (And.intro (@AM.op_call) (And.intro (@AM.op_fieldAddr) (@AM.op_load)))))))))))))))))))))))))) := And.intro (@AM.boxK_agg) (And.intro (@AM.boxK_bool) (And.intro (@AM.boxK_func) (And.intro (@AM.boxK_int) (And.intro (@AM.boxK_map) (And.intro (@AM.boxK_pointer) (And.intro (@AM.boxK_slice) (And.intro (@AM.boxK_string) (And.intro (AM.bsW_int bs_22) (And.intro (AM.bsW_int3 bs_22) (And.intro (AM.bsW_nil bs_22) (And.intro (AM.bsW_slice bs_22) (And.intro (AM.bsW_string bs_22) (And.intro (@AM.fa_ptr) (And.intro (@fd_133_0) (And.intro (@fd_133_1) (And.intro (@fd_133_2) (And.intro (@AM.ldO_agg) (And.intro (@AM.ldO_one) (And.intro (@AM.ld_ptr) (And.intro (@lk_3) (And.intro (@AM.op_box) (And.intro (@AM.op_buildSlice) (And.intro (@AM.op_call) (And.intro (@AM.op_fieldAddr) (@AM.op_load)))))))))))))))))))))))))
theorem b94_RT9 : type_of% (And.intro (@Option.isNone_none.{0}) (And.intro (@Option.isNone_some.{0}) (And.intro (@AM.bin_gtr) (And.intro (@AM.bin_leq) (And.intro (AM.bin_pnil ul_142) (And.intro (@AM.bin_quo) (And.intro (@AM.bin_sub) (And.intro (@AM.boxK_agg) (And.intro (@AM.boxK_bool) (And.intro (@AM.boxK_func) (And.intro (@AM.boxK_int) (And.intro (@AM.boxK_map) (And.intro (@AM.boxK_pointer) (And.intro (@AM.boxK_slice) (And.intro (@AM.boxK_string) (And.intro (AM.bsW_agg bs_128) (And.intro (AM.bsW_nil bs_128) (And.intro (@AM.fa_ptr) (And.intro (@fd_130_0) (And.intro (@AM.iaO_ok) (And.intro (AM.ia_slice el_128) (And.intro (@AM.ldO_agg) (And.intro (@AM.ldO_one) (And.intro (@AM.ld_ptr) (And.intro (AM.len_slice ul_128) (And.intro (@lk_128) (And.intro (@lk_133) (And.intro (@AM.op_append) (And.intro (@AM.op_binOp) (And.intro (@AM.op_box) (And.intro (@AM.op_buildSlice) (And.intro (@AM.op_call) (And.intro (@AM.op_fieldAddr) (And.intro (@AM.op_indexAddr) (And.intro (@AM.op_len) (And.intro (@AM.op_load) (And.intro (@AM.op_nilCheck) (And.intro (@AM.op_store) (And.intro (@AM.stO_agg) (And.intro (@AM.stO_bool) (And.intro (@AM.stO_int) (And.intro (@AM.stO_map) (And.intro (@AM.stO_pointer) (And.intro (@AM.stO_slice) (And.intro (@AM.stO_string) (And.intro (@AM.st_ptr) (And.intro (@sz_128) (@sz_133)))))))))))))))))))))))))))))))))))))))))))))))) := And.intro (@Option.isNone_none.{0}) (And.intro (@Option.isNone_some.{0}) (And.intro (@AM.bin_gtr) (And.intro (@AM.bin_leq) (And.intro (AM.bin_pnil ul_142) (And.intro (@AM.bin_quo) (And.intro (@AM.bin_sub) (And.intro (@AM.boxK_agg) (And.intro (@AM.boxK_bool) (And.intro (@AM.boxK_func) (And.intro (@AM.boxK_int) (And.intro (@AM.boxK_map) (And.intro (@AM.boxK_pointer) (And.intro (@AM.boxK_slice) (And.intro (@AM.boxK_string) (And.intro (AM.bsW_agg bs_128) (And.intro (AM.bsW_nil bs_128) (And.intro (@AM.fa_ptr) (And.intro (@fd_130_0) (And.intro (@AM.iaO_ok) (And.intro (AM.ia_slice el_128) (And.intro (@AM.ldO_agg) (And.intro (@AM.ldO_one) (And.intro (@AM.ld_ptr) (And.intro (AM.len_slice ul_128) (And.intro (@lk_128) (And.intro (@lk_133) (And.intro (@AM.op_append) (And.intro (@AM.op_binOp) (And.intro (@AM.op_box) (And.intro (@AM.op_buildSlice) (And.intro (@AM.op_call) (And.intro (@AM.op_fieldAddr) (And.intro (@AM.op_indexAddr) (And.intro (@AM.op_len) (And.intro (@AM.op_load) (And.intro (@AM.op_nilCheck) (And.intro (@AM.op_store) (And.intro (@AM.stO_agg) (And.intro (@AM.stO_bool) (And.intro (@AM.stO_int) (And.intro (@AM.stO_map) (And.intro (@AM.stO_pointer) (And.intro (@AM.stO_slice) (And.intro (@AM.stO_string) (And.intro (@AM.st_ptr) (And.intro (@sz_128) (@sz_133)))))))))))))))))))))))))))))))))))))))))))))))


/-! ### The pile -/
theorem isNaN_w (a : Int) (h : AHeap) (Q : VQ) (hq : Q (.bool false) h) : W 122 [.int .i64 a] h Q := by
  refine AM.enter hp (fn := Tryd.f122) (rs := [.tmp 2]) (nt := 6) (by kernel_rfl) Tryd.func122 rfl rfl rfl (by kernel_rfl) ?_
  (first | (simp (maxSteps := 1000000) (disch := first | omega | (simp only [AM.DB, List.length_set, List.length_map]; first | done | omega)) only [AM.RB, Nat.reduceAdd, Nat.reduceMul, Nat.reduceEqDiff, reduceCtorEq, b122_RT9, decide_eq_true (rfl : a = a)]) | skip)
  exact hq
theorem compare_w (a b : Int) (h : AHeap) (Q : VQ) (hq : Q (.int .i64 (AM.cmpN a b)) h) : W 112 [.int .i64 a, .int .i64 b] h Q := by
  refine AM.enter hp (fn := Tryd.f112) (rs := [.tmp 4]) (nt := 20) (by kernel_rfl) Tryd.func112 rfl rfl rfl (by kernel_rfl) ?_
  (first | (simp (maxSteps := 1000000) (disch := first | omega | (simp only [AM.DB, List.length_set, List.length_map]; first | done | omega)) only [AM.RB, Nat.reduceAdd, Nat.reduceMul, Nat.reduceEqDiff, reduceCtorEq, b112_RT9]) | skip)
  refine isNaN_w a _ _ ?_
  (first | (simp (maxSteps := 1000000) (disch := first | omega | (simp only [AM.DB, List.length_set, List.length_map]; first | done | omega)) only [AM.RB, Nat.reduceAdd, Nat.reduceMul, Nat.reduceEqDiff, reduceCtorEq, b112_RT9]) | skip)
  refine isNaN_w b _ _ ?_
  unfold AM.cmpN at hq
  by_cases c1 : a < b
  · rw [if_pos c1] at hq
    (first | (simp (maxSteps := 1000000) (disch := first | omega | (simp only [AM.DB, List.length_set, List.length_map]; first | done | omega)) only [AM.RB, Nat.reduceAdd, Nat.reduceMul, Nat.reduceEqDiff, reduceCtorEq, b112_RT9, decide_eq_true c1]) | skip)
    exact hq
  · rw [if_neg c1] at hq
    by_cases c2 : b < a
    · rw [if_pos c2] at hq
      (first | (simp (maxSteps := 1000000) (disch := first | omega | (simp only [AM.DB, List.length_set, List.length_map]; first | done | omega)) only [AM.RB, Nat.reduceAdd, Nat.reduceMul, Nat.reduceEqDiff, reduceCtorEq, b112_RT9, decide_eq_false c1, decide_eq_true c2]) | skip)
      exact hq
    · rw [if_neg c2] at hq
      (first | (simp (maxSteps := 1000000) (disch := first | omega | (simp only [AM.DB, List.length_set, List.length_map]; first | done | omega)) only [AM.RB, Nat.reduceAdd, Nat.reduceMul, Nat.reduceEqDiff, reduceCtorEq, b112_RT9, decide_eq_false c1, decide_eq_false c2]) | skip)
      exact hq
theorem or_w {s : Value} {l : List Int} {h : AHeap} (hs : Rd h 3 1 s l.length (l.map (.int .i64))) (hn : l.length ≤ 4000000) {Q : VQ} (hq : Q (.int .i64 (AM.orN l)) h) : W 111 [s] h Q := by
  obtain ⟨sa, sc, rfl⟩ := hs.form
  refine AM.enter hp (fn := Tryd.f111) (rs := [.tmp 2]) (nt := 18) (by kernel_rfl) Tryd.func111 rfl rfl rfl (by kernel_rfl) ?_
  (first | (simp (maxSteps := 1000000) (disch := first | omega | (simp only [AM.DB, List.length_set, List.length_map]; first | done | omega)) only [AM.RB, Nat.reduceAdd, Nat.reduceMul, Nat.reduceEqDiff, reduceCtorEq, b111_RT9]) | skip)
  refine AM.loop_w hp 18 (fun i : Nat => [(3, .int .i64 0), (6, .slice sa l.length sc), (7, .int .i64 l.length), (8, .int .i64 i)])
    (fun i h' => h' = h ∧ i ≤ l.length ∧ AM.orN (l.drop i) = AM.orN l) (fun i => l.length - i) (by kernel_rfl) 0 ?_ ?_ ?_
  · simp (maxSteps := 1000000) (disch := first | omega | (simp only [AM.DB, List.length_set, List.length_map]; first | done | omega)) only [AM.RB, Nat.reduceAdd, Nat.reduceMul, Nat.reduceEqDiff, reduceCtorEq, b111_RT9]
    first | rfl | skip
  · exact ⟨rfl, Nat.zero_le _, rfl⟩
  rintro i h1 ρ ⟨rfl, hi, ho⟩
  (first | (simp (maxSteps := 1000000) (disch := first | omega | (simp only [AM.DB, List.length_set, List.length_map]; first | done | omega)) only [AM.RB, Nat.reduceAdd, Nat.reduceMul, Nat.reduceEqDiff, reduceCtorEq, b111_RT9]) | skip)
  refine AM.condV_split (fun hlt => ?_) (fun hlt => ?_)
  · have hin : i < l.length := by omega
    by_cases c : l.getD i 0 = 0
    · (first | (simp (maxSteps := 1000000) (disch := first | omega | (simp only [AM.DB, List.length_set, List.length_map]; first | done | omega)) only [AM.RB, Nat.reduceAdd, Nat.reduceMul, Nat.reduceEqDiff, reduceCtorEq, b111_RT9, hs.ia el_22, Rd.ldi hs lk_3, Int.toNat_natCast, decide_eq_true c, AM.wrap_i64]) | skip)
      refine ⟨i + 1, by omega, ?_, by omega, by rw [AM.orN_step hin c]; exact ho⟩
      simp (maxSteps := 1000000) (disch := first | omega | (simp only [AM.DB, List.length_set, List.length_map]; first | done | omega)) only [AM.RB, Nat.reduceAdd, Nat.reduceMul, Nat.reduceEqDiff, reduceCtorEq, b111_RT9]
      first | rfl | skip
    · rw [← ho, AM.orN_hit hin c] at hq
      (first | (simp (maxSteps := 1000000) (disch := first | omega | (simp only [AM.DB, List.length_set, List.length_map]; first | done | omega)) only [AM.RB, Nat.reduceAdd, Nat.reduceMul, Nat.reduceEqDiff, reduceCtorEq, b111_RT9, hs.ia el_22, Rd.ldi hs lk_3, Int.toNat_natCast, decide_eq_false c]) | skip)
      exact hq
  · obtain rfl : i = l.length := by omega
    rw [List.drop_length] at ho
    rw [← ho] at hq
    (first | (simp (maxSteps := 1000000) (disch := first | omega | (simp only [AM.DB, List.length_set, List.length_map]; first | done | omega)) only [AM.RB, Nat.reduceAdd, Nat.reduceMul, Nat.reduceEqDiff, reduceCtorEq, b111_RT9]) | skip)
    exact hq
theorem pcmp_w (a b : AM.It) {h : AHeap} (hl : h.low ≤ h.next) {Q : VQ} (hq : ∀ h', Fr none' h h' → Q (.int .i64 (AM.cmpI a b)) h') : W 104 [.agg (AM.encI a).toArray, .agg (AM.encI b).toArray] h Q := by
  unfold AM.encI
  refine AM.enter hp (fn := Tryd.f104) (rs := [.tmp 4]) (nt := 22) (by kernel_rfl) Tryd.func104 rfl rfl rfl (by kernel_rfl) ?_
  (repeat' (first | (simp (maxSteps := 1000000) (disch := first | omega | (simp only [AM.DB, List.length_set, List.length_map]; first | done | omega)) only [AM.RB, Nat.reduceAdd, Nat.reduceMul, Nat.reduceEqDiff, reduceCtorEq, b104_RT9]) | refine AM.drawW_loose (id := 1) hp (by kernel_rfl) (by kernel_rfl) ?_ | refine AM.opW_tied (by kernel_rfl) ?_ | refine AM.opW_untied (by kernel_rfl) ?_))
  generalize hE_ : AHeap.alloc h _ = h1; obtain ⟨g1, fr1, n1, l1⟩ := AM.new_get hE_; clear hE_
  generalize hE_ : AHeap.alloc h1 _ = h2; obtain ⟨g2, fr2, n2, l2⟩ := AM.new_get hE_; clear hE_
  have g12 := g1.fr0 fr2
  rw [n1] at g2
  refine compare_w a.1 b.1 _ _ ?_
  (repeat' (first | (simp (maxSteps := 1000000) (disch := first | omega | (simp only [AM.DB, List.length_set, List.length_map]; first | done | omega)) only [AM.RB, Nat.reduceAdd, Nat.reduceMul, Nat.reduceEqDiff, reduceCtorEq, b104_RT9, g12, g2]) | refine AM.drawW_loose (id := 1) hp (by kernel_rfl) (by kernel_rfl) ?_ | refine AM.opW_tied (by kernel_rfl) ?_ | refine AM.opW_untied (by kernel_rfl) ?_))
  refine compare_w 0 0 _ _ ?_
  (repeat' (first | (simp (maxSteps := 1000000) (disch := first | omega | (simp only [AM.DB, List.length_set, List.length_map]; first | done | omega)) only [AM.RB, Nat.reduceAdd, Nat.reduceMul, Nat.reduceEqDiff, reduceCtorEq, b104_RT9, g12, g2]) | refine AM.drawW_loose (id := 1) hp (by kernel_rfl) (by kernel_rfl) ?_ | refine AM.opW_tied (by kernel_rfl) ?_ | refine AM.opW_untied (by kernel_rfl) ?_))
  refine compare_w a.2 b.2 _ _ ?_
  (repeat' (first | (simp (maxSteps := 1000000) (disch := first | omega | (simp only [AM.DB, List.length_set, List.length_map]; first | done | omega)) only [AM.RB, Nat.reduceAdd, Nat.reduceMul, Nat.reduceEqDiff, reduceCtorEq, b104_RT9, g12, g2]) | refine AM.drawW_loose (id := 1) hp (by kernel_rfl) (by kernel_rfl) ?_ | refine AM.opW_tied (by kernel_rfl) ?_ | refine AM.opW_untied (by kernel_rfl) ?_))
  generalize hE_ : AHeap.alloc h2 _ = h3; obtain ⟨g3, fr3, n3, l3⟩ := AM.new_get hE_; clear hE_
  have fr03 := (fr1.trans fr2).trans fr3
  refine or_w (l := [AM.cmpN a.1 b.1, AM.cmpN 0 0, AM.cmpN a.2 b.2]) (AM.Rd.whole (n := 3) g3 rfl) (by simp) ?_
  rw [show AM.cmpN 0 0 = 0 from rfl, AM.orN_cmp]
  (repeat' (first | (simp (maxSteps := 1000000) (disch := first | omega | (simp only [AM.DB, List.length_set, List.length_map]; first | done | omega)) only [AM.RB, Nat.reduceAdd, Nat.reduceMul, Nat.reduceEqDiff, reduceCtorEq, b104_RT9]) | refine AM.drawW_loose (id := 1) hp (by kernel_rfl) (by kernel_rfl) ?_ | refine AM.opW_tied (by kernel_rfl) ?_ | refine AM.opW_untied (by kernel_rfl) ?_))
  have g123 := g12.fr0 fr3
  have g23 := g2.fr0 fr3
  refine ⟨AM.looseOk_by [(6, [0, 5]), (8, [0, 5]), (11, [0, 5, 10]), (13, [0, 5, 10])] (by kernel_rfl) ?_, ?_⟩
  · simp (maxSteps := 1000000) (disch := first | omega | (simp only [AM.DB, List.length_set, List.length_map]; first | done | omega)) only [AM.RB, Nat.reduceAdd, Nat.reduceMul, Nat.reduceEqDiff, reduceCtorEq, b104_RT9]
    (repeat' apply And.intro) <;> (first | (refine AM.stable_len _ _ _ _ _ _ (fun _ => ?_); (simp (maxSteps := 1000000) (disch := first | omega | (simp only [AM.DB, List.length_set, List.length_map]; first | done | omega)) only [AM.RB, Nat.reduceAdd, Nat.reduceMul, Nat.reduceEqDiff, reduceCtorEq, b104_RT9, g12, g2, g123, g23])) | (refine AM.stable_load _ _ _ _ _ _ ?_; (first | (simp (maxSteps := 1000000) (disch := first | omega | (simp only [AM.DB, List.length_set, List.length_map]; first | done | omega)) only [AM.RB, Nat.reduceAdd, Nat.reduceMul, Nat.reduceEqDiff, reduceCtorEq, b104_RT9, g12, g2, g123, g23]) | skip); (first | (refine AM.stabL_int (by omega) ?_; (simp (maxSteps := 1000000) (disch := first | omega | (simp only [AM.DB, List.length_set, List.length_map]; first | done | omega)) only [AM.RB, Nat.reduceAdd, Nat.reduceMul, Nat.reduceEqDiff, reduceCtorEq, b104_RT9, g12, g2, g123, g23])) | (refine AM.stabL_ptr (by omega) (by omega) ?_; (simp (maxSteps := 1000000) (disch := first | omega | (simp only [AM.DB, List.length_set, List.length_map]; first | done | omega)) only [AM.RB, Nat.reduceAdd, Nat.reduceMul, Nat.reduceEqDiff, reduceCtorEq, b104_RT9, g12, g2, g123, g23])) | (refine AM.stabL_string (by omega) ?_; (simp (maxSteps := 1000000) (disch := first | omega | (simp only [AM.DB, List.length_set, List.length_map]; first | done | omega)) only [AM.RB, Nat.reduceAdd, Nat.reduceMul, Nat.reduceEqDiff, reduceCtorEq, b104_RT9, g12, g2, g123, g23])) | (refine AM.stabL_bool (by omega) ?_; (simp (maxSteps := 1000000) (disch := first | omega | (simp only [AM.DB, List.length_set, List.length_map]; first | done | omega)) only [AM.RB, Nat.reduceAdd, Nat.reduceMul, Nat.reduceEqDiff, reduceCtorEq, b104_RT9, g12, g2, g123, g23])))))
  exact hq _ fr03

/-- A pile in memory: what it holds, in order. -/
structure Pl (h : AHeap) (pid : Nat) (P : List AM.It) (v : Value) : Prop where
  g : h.get pid = some (.cells [v] 130 false)
  o : Ow h 133 3 v P.length (P.flatMap AM.encI)
  lo : h.low ≤ pid
  na : ∀ id, idOf v id → pid < id
theorem Pl.fr {h h' : AHeap} {pid : Nat} {P : List AM.It} {v : Value} {T : Nat → Prop} (x : Pl h pid P v) (fr : Fr T h h') (h1 : ¬ T pid) (h2 : ∀ id, idOf v id → ¬ T id) : Pl h' pid P v :=
  ⟨fr.get x.g h1, x.o.fr fr h2, by rw [fr.low]; exact x.lo, x.na⟩
theorem Pl.fr0 {h h' : AHeap} {pid : Nat} {P : List AM.It} {v : Value} (x : Pl h pid P v) (fr : Fr none' h h') : Pl h' pid P v := x.fr fr (fun q => q) fun _ _ q => q

theorem quo2 (i : Nat) (h : 0 < i) : Int.tdiv ((i : Int) - 1) 2 = ((i - 1) / 2 : Nat) := by
  rw [show (i : Int) - 1 = ((i - 1 : Nat) : Int) by omega]; exact tdiv_nat (i - 1) 2

set_option maxHeartbeats 8000000 in
theorem push_w {h : AHeap} {pid : Nat} {P : List AM.It} {v : Value} (x : Pl h pid P v) (hP : AM.HeapP P) (hl : h.low ≤ h.next) (hn : P.length ≤ 4000000) (q : AM.It) {Q : VQ}
    (hq : ∀ u P' v' h', Pl h' pid P' v' → AM.HeapP P' → P'.Perm (q :: P) → Fr (fun id => id = pid ∨ idOf v id) h h' → (∀ id, idOf v' id → idOf v id ∨ h.next ≤ id) → Q u h') : W 94 [pv pid, .agg #[.int .i64 q.1, .int .i64 0, .int .i64 q.2]] h Q := by
  have lt0 := AM.get_some_lt x.g
  have lo0 := x.lo
  obtain ⟨va, vc, rfl⟩ := x.o.form
  refine AM.enter hp (fn := Tryd.f94) (rs := []) (nt := 60) (by kernel_rfl) Tryd.func94 rfl rfl rfl (by kernel_rfl) ?_
  (repeat' (first | (simp (maxSteps := 1000000) (disch := first | omega | (simp only [AM.DB, List.length_set, List.length_map]; first | done | omega)) only [AM.RB, Nat.reduceAdd, Nat.reduceMul, Nat.reduceEqDiff, reduceCtorEq, b94_RT9]) | refine AM.drawW_fine hp (by kernel_rfl) (by kernel_rfl) (by kernel_rfl) ?_ | refine AM.opW_tied (by kernel_rfl) ?_ | refine AM.opW_untied (by kernel_rfl) ?_))
  generalize hE_ : AHeap.alloc h _ = h1; obtain ⟨g1, fr1, n1, l1⟩ := AM.new_get hE_; clear hE_
  have x1 := x.fr0 fr1
  have xg := x1.g
  have xg0 := x.g
  (repeat' (first | (simp (maxSteps := 1000000) (disch := first | omega | (simp only [AM.DB, List.length_set, List.length_map]; first | done | omega)) only [AM.RB, Nat.reduceAdd, Nat.reduceMul, Nat.reduceEqDiff, reduceCtorEq, b94_RT9, xg, xg0, g1]) | refine AM.drawW_fine hp (by kernel_rfl) (by kernel_rfl) (by kernel_rfl) ?_ | refine AM.opW_tied (by kernel_rfl) ?_ | refine AM.opW_untied (by kernel_rfl) ?_))
  generalize hE_ : AHeap.alloc h1 _ = h2; obtain ⟨g2, fr2, n2, l2⟩ := AM.new_get hE_; clear hE_
  have x2 := x1.fr0 fr2
  refine AM.appends_w ap_128 ap_128 x2.o (AM.Rd.whole (n := 1) (c := AM.encI q) g2 rfl) rfl (by omega) (AM.fits (by omega) (by omega)) (AM.fits' (by omega)) fun v3 h3 o3 fr3 hid3 => ?_
  obtain ⟨ba, bc, rfl⟩ := o3.form
  have xg3 := fr3.get x2.g (fun e => by have := x.na _ e; omega)
  have lo3 : h3.low ≤ pid := by have := fr3.low; omega
  have g13 := fr3.get (g1.fr0 fr2) (fun e => by have := x.o.lt e; omega)
  have lt3 := AM.get_some_lt xg3
  (repeat' (first | (simp (maxSteps := 1000000) (disch := first | omega | (simp only [AM.DB, List.length_set, List.length_map]; first | done | omega)) only [AM.RB, Nat.reduceAdd, Nat.reduceMul, Nat.reduceEqDiff, reduceCtorEq, b94_RT9, xg3]) | refine AM.drawW_fine hp (by kernel_rfl) (by kernel_rfl) (by kernel_rfl) ?_ | refine AM.opW_tied (by kernel_rfl) ?_ | refine AM.opW_untied (by kernel_rfl) ?_))
  generalize hE_ : AHeap.put h3 _ _ = h4; obtain ⟨g4, fr4, n4, l4⟩ := AM.put_get hE_ (by omega); clear hE_
  have na3 : ∀ id, idOf (.slice ba (P.length + 1) bc) id → pid < id ∧ ¬ id = h.next := fun id e => by
    rcases hid3 id e with e | e
    · have := x.na id e; have := x.o.lt e; exact ⟨by omega, by omega⟩
    · exact ⟨by omega, by omega⟩
  have g14 := fr4.get g13 (fun e => by omega)
  have o4 := o3.fr fr4 (fun id e t => by have := (na3 id e).1; omega)
  have n34 := fr3.next
  have e1 : P.flatMap AM.encI ++ AM.encI q = (P ++ [q]).flatMap AM.encI := by simp
  rw [e1] at o4
  (repeat' (first | (simp (maxSteps := 1000000) (disch := first | omega | (simp only [AM.DB, List.length_set, List.length_map]; first | done | omega)) only [AM.RB, Nat.reduceAdd, Nat.reduceMul, Nat.reduceEqDiff, reduceCtorEq, b94_RT9, g4, AM.wrap_i64]) | refine AM.drawW_fine hp (by kernel_rfl) (by kernel_rfl) (by kernel_rfl) ?_ | refine AM.opW_tied (by kernel_rfl) ?_ | refine AM.opW_untied (by kernel_rfl) ?_))
  refine AM.loop_w hp 60 (fun z : Nat × List AM.It => [(0, pv pid), (3, pv h.next), (4, .int .i64 z.1)])
    (fun z h' => AM.Up z.2 z.1 q ∧ z.2.length = P.length + 1 ∧ (z.2.set z.1 q).Perm (q :: P) ∧ Ow h' 133 3 (.slice ba (P.length + 1) bc) (P.length + 1) (z.2.flatMap AM.encI) ∧ Fr (idOf (.slice ba (P.length + 1) bc)) h4 h') (fun z => z.1) (by kernel_rfl) (P.length, P ++ [q]) ?_ ?_ ?_
  · simp (maxSteps := 1000000) (disch := first | omega | (simp only [AM.DB, List.length_set, List.length_map]; first | done | omega)) only [AM.RB, Nat.reduceAdd, Nat.reduceMul, Nat.reduceEqDiff, reduceCtorEq, b94_RT9]
    rw [show (P.length : Int) + 1 - 1 = P.length by omega]
  · refine ⟨AM.Up.start hP q, by simp, ?_, o4, Fr.refl _ _⟩
    simp only
    rw [List.set_append_right _ _ (Nat.le_refl _), Nat.sub_self]
    exact List.perm_append_comm (l₂ := [q])
  rintro ⟨i, l⟩ h5 ρ ⟨up, hll, pm, o5, fr5⟩
  simp only at up hll pm o5 ⊢
  have hi := up.lt
  have g15 := fr5.get g14 (fun e => (na3 _ e).2 rfl)
  have g45 := fr5.get g4 (fun e => by have := (na3 _ e).1; omega)
  have lo5 := fr5.low
  have nx5 := fr5.next
  have r5 := o5.rd
  have fin : ∀ h8 (o8 : Ow h8 133 3 (.slice ba (P.length + 1) bc) (P.length + 1) ((l.set i q).flatMap AM.encI)) (fr8 : Fr (idOf (.slice ba (P.length + 1) bc)) h4 h8) (hh : AM.HeapP (l.set i q)) (u : Value), Q u h8 := fun h8 o8 fr8 hh u => by
    have g48 := fr8.get g4 (fun e => by have := (na3 _ e).1; omega)
    have lo8 := fr8.low
    have ln : (l.set i q).length = P.length + 1 := by rw [List.length_set]; exact hll
    have n02 : h.next ≤ h2.next := by omega
    refine hq u (l.set i q) _ h8 ⟨g48, by rw [ln]; exact o8, by omega, fun id e => (na3 id e).1⟩ hh pm ?_ (fun id e => (hid3 id e).imp (fun e => e) fun e => by omega)
    have f3 : Fr (fun id => id = pid ∨ idOf (.slice va P.length vc) id) h h3 := ((fr1.trans fr2).weak).then fr3 fun id _ e => .inr e
    have f4 := f3.then fr4 fun id _ e => .inl e
    exact f4.then fr8 fun id hlt e => (hid3 id e).elim .inr fun e => by omega
  (repeat' (first | (simp (maxSteps := 1000000) (disch := first | omega | (simp only [AM.DB, List.length_set, List.length_map]; first | done | omega)) only [AM.RB, Nat.reduceAdd, Nat.reduceMul, Nat.reduceEqDiff, reduceCtorEq, b94_RT9]) | refine AM.drawW_fine hp (by kernel_rfl) (by kernel_rfl) (by kernel_rfl) ?_ | refine AM.opW_tied (by kernel_rfl) ?_ | refine AM.opW_untied (by kernel_rfl) ?_))
  refine AM.condV_split (fun hlt => ?_) (fun hlt => ?_)
  case' refine_2 =>
    have hz : i = 0 := by omega
    have ee : ((0 : Nat) : Int) = 0 := rfl
    (repeat' (first | (simp (maxSteps := 1000000) (disch := first | omega | (simp only [AM.DB, List.length_set, List.length_map]; first | done | omega)) only [AM.RB, Nat.reduceAdd, Nat.reduceMul, Nat.reduceEqDiff, reduceCtorEq, b94_RT9, g45, g15, r5.ia el_128, Int.toNat_natCast]) | refine AM.drawW_fine hp (by kernel_rfl) (by kernel_rfl) (by kernel_rfl) ?_ | refine AM.opW_tied (by kernel_rfl) ?_ | refine AM.opW_untied (by kernel_rfl) ?_))
    refine o5.stg (l := AM.encI q) sz_133 (j := i) (by omega) rfl rfl fun h6 o6 fr6 n6 => ?_
    rw [AM.flat_set AM.encI_len (by omega) l i q hi] at o6
    (repeat' (first | (simp (maxSteps := 1000000) (disch := first | omega | (simp only [AM.DB, List.length_set, List.length_map]; first | done | omega)) only [AM.RB, Nat.reduceAdd, Nat.reduceMul, Nat.reduceEqDiff, reduceCtorEq, b94_RT9]) | refine AM.drawW_fine hp (by kernel_rfl) (by kernel_rfl) (by kernel_rfl) ?_ | refine AM.opW_tied (by kernel_rfl) ?_ | refine AM.opW_untied (by kernel_rfl) ?_))
    exact fin _ o6 (fr5.trans fr6) (up.done (.inl hz)) _
  have h0 : 0 < i := by omega
  have e2 := quo2 i h0
  have ai : (i - 1) / 2 < l.length := by omega
  (repeat' (first | (simp (maxSteps := 1000000) (disch := first | omega | (simp only [AM.DB, List.length_set, List.length_map]; first | done | omega)) only [AM.RB, Nat.reduceAdd, Nat.reduceMul, Nat.reduceEqDiff, reduceCtorEq, b94_RT9, AM.wrap_i64, e2, g45, g15, r5.ia el_128, r5.lds AM.encI_len lk_133 hll AM.z0, Int.toNat_natCast]) | refine AM.drawW_fine hp (by kernel_rfl) (by kernel_rfl) (by kernel_rfl) ?_ | refine AM.opW_tied (by kernel_rfl) ?_ | refine AM.opW_untied (by kernel_rfl) ?_))
  refine pcmp_w (AM.at' l ((i - 1) / 2)) q (by omega) fun h6 fr6 => ?_
  have o6 := o5.fr0 fr6
  have r6 := o6.rd
  have g46 := g45.fr0 fr6
  have g16 := g15.fr0 fr6
  have lo6 := fr6.low
  have nx6 := fr6.next
  by_cases c : AM.leI (AM.at' l ((i - 1) / 2)) q
  · have d1 : decide (AM.cmpI (AM.at' l ((i - 1) / 2)) q ≤ 0) = true := decide_eq_true ((AM.cmpI_le _ _).2 c)
    (repeat' (first | (simp (maxSteps := 1000000) (disch := first | omega | (simp only [AM.DB, List.length_set, List.length_map]; first | done | omega)) only [AM.RB, Nat.reduceAdd, Nat.reduceMul, Nat.reduceEqDiff, reduceCtorEq, b94_RT9, d1, g46, g16, r6.ia el_128, Int.toNat_natCast]) | refine AM.drawW_fine hp (by kernel_rfl) (by kernel_rfl) (by kernel_rfl) ?_ | refine AM.opW_tied (by kernel_rfl) ?_ | refine AM.opW_untied (by kernel_rfl) ?_))
    refine o6.stg (l := AM.encI q) sz_133 (j := i) (by omega) rfl rfl fun h7 o7 fr7 n7 => ?_
    rw [AM.flat_set AM.encI_len (by omega) l i q hi] at o7
    (repeat' (first | (simp (maxSteps := 1000000) (disch := first | omega | (simp only [AM.DB, List.length_set, List.length_map]; first | done | omega)) only [AM.RB, Nat.reduceAdd, Nat.reduceMul, Nat.reduceEqDiff, reduceCtorEq, b94_RT9]) | refine AM.drawW_fine hp (by kernel_rfl) (by kernel_rfl) (by kernel_rfl) ?_ | refine AM.opW_tied (by kernel_rfl) ?_ | refine AM.opW_untied (by kernel_rfl) ?_))
    exact fin _ o7 ((fr5.trans fr6.weak).trans fr7) (up.done (.inr c)) _
  · have d1 : decide (AM.cmpI (AM.at' l ((i - 1) / 2)) q ≤ 0) = false := decide_eq_false fun t => c ((AM.cmpI_le _ _).1 t)
    (repeat' (first | (simp (maxSteps := 1000000) (disch := first | omega | (simp only [AM.DB, List.length_set, List.length_map]; first | done | omega)) only [AM.RB, Nat.reduceAdd, Nat.reduceMul, Nat.reduceEqDiff, reduceCtorEq, b94_RT9, d1, g46, g16, r6.ia el_128, r6.lds AM.encI_len lk_133 hll AM.z0, Int.toNat_natCast]) | refine AM.drawW_fine hp (by kernel_rfl) (by kernel_rfl) (by kernel_rfl) ?_ | refine AM.opW_tied (by kernel_rfl) ?_ | refine AM.opW_untied (by kernel_rfl) ?_))
    refine o6.stg (l := AM.encI (AM.at' l ((i - 1) / 2))) sz_133 (j := i) (by omega) rfl rfl fun h7 o7 fr7 n7 => ?_
    rw [AM.flat_set AM.encI_len (by omega) l i _ hi] at o7
    (repeat' (first | (simp (maxSteps := 1000000) (disch := first | omega | (simp only [AM.DB, List.length_set, List.length_map]; first | done | omega)) only [AM.RB, Nat.reduceAdd, Nat.reduceMul, Nat.reduceEqDiff, reduceCtorEq, b94_RT9]) | refine AM.drawW_fine hp (by kernel_rfl) (by kernel_rfl) (by kernel_rfl) ?_ | refine AM.opW_tied (by kernel_rfl) ?_ | refine AM.opW_untied (by kernel_rfl) ?_))
    refine ⟨((i - 1) / 2, l.set i (AM.at' l ((i - 1) / 2))), by simp only; omega, ?_, up.move h0 c, by simp only; rw [List.length_set]; exact hll, (AM.swap_perm hi ai q).trans pm, o7, (fr5.trans fr6.weak).trans fr7⟩
    simp (maxSteps := 1000000) (disch := first | omega | (simp only [AM.DB, List.length_set, List.length_map]; first | done | omega)) only [AM.RB, Nat.reduceAdd, Nat.reduceMul, Nat.reduceEqDiff, reduceCtorEq, b94_RT9]
    first | rfl | skip
end Go.Proofs.YtgdcbjpookldoaaDoor

namespace Go.Proofs.YtgdcbjpookldoaaDoor
open Go.AM
set_option maxRecDepth 8000
theorem b106_RTP : type_of% (And.intro (@AM.bin_add) (And.intro (@AM.bin_leq) (And.intro (@AM.bin_lss) (And.intro (@AM.bin_mul) (And.intro (@AM.boxK_agg) (And.intro (@AM.boxK_bool) (And.intro (@AM.boxK_func) (And.intro (@AM.boxK_int) (And.intro (@AM.boxK_map) (And.intro (@AM.boxK_pointer) (And.intro (@AM.boxK_slice) (And.intro (@AM.boxK_string) (And.intro (@AM.fa_ptr) (And.intro (@fd_130_0) (And.intro (@AM.iaO_ok) (And.intro (AM.ia_slice el_128) (And.intro (@AM.ldO_agg) (And.intro (@AM.ldO_one) (And.intro (@AM.ld_ptr) (And.intro (AM.len_slice ul_128) (And.intro (@lk_128) (And.intro (@lk_133) (And.intro (@AM.op_binOp) (And.intro (@AM.op_box) (And.intro (@AM.op_call) (And.intro (@AM.op_fieldAddr) (And.intro (@AM.op_indexAddr) (And.intro (@AM.op_len) (And.intro (@AM.op_load) (And.intro (@AM.op_nilCheck) (And.intro (@AM.op_store) (And.intro (@AM.stO_agg) (And.intro (@AM.stO_bool) (And.intro (@AM.stO_int) (And.intro (@AM.stO_map) (And.intro (@AM.stO_pointer) (And.intro (@AM.stO_slice) (And.intro (@AM.stO_string) (And.intro (@AM.st_ptr) (@sz_133)))))))))))))))))))))))))))))))))))))))) := And.intro (@AM.bin_add) (And.intro (@AM.bin_leq) (And.intro (@AM.bin_lss) (And.intro (@AM.bin_mul) (And.intro (@AM.boxK_agg) (And.intro (@AM.boxK_bool) (And.intro (@AM.boxK_func) (And.intro (@AM.boxK_int) (And.intro (@AM.boxK_map) (And.intro (@AM.boxK_pointer) (And.intro (@AM.boxK_slice) (And.intro (@AM.boxK_string) (And.intro (@AM.fa_ptr) (And.intro (@fd_130_0) (And.intro (@AM.iaO_ok) (And.intro (AM.ia_slice el_128) (And.intro (@AM.ldO_agg) (And.intro (@AM.ldO_one) (And.intro (@AM.ld_ptr) (And.intro (AM.len_slice ul_128) (And.intro (@lk_128) (And.intro (@lk_133) (And.intro (@AM.op_binOp) (And.intro (@AM.op_box) (And.intro (@AM.op_call) (And.intro (@AM.op_fieldAddr) (And.intro (@AM.op_indexAddr) (And.intro (@AM.op_len) (And.intro (@AM.op_load) (And.intro (@AM.op_nilCheck) (And.intro (@AM.op_store) (And.intro (@AM.stO_agg) (And.intro (@AM.stO_bool) (And.intro (@AM.stO_int) (And.intro (@AM.stO_map) (And.intro (@AM.stO_pointer) (And.intro (@AM.stO_slice) (And.intro (@AM.stO_string) (And.intro (@AM.st_ptr) (@sz_133)))))))))))))))))))))))))))))))))))))))
theorem b113_RTP : type_of% (And.intro (@Option.isNone_none.{0}) (And.intro (@Option.isNone_some.{0}) (And.intro (AM.bin_pnil ul_142) (And.intro (@AM.fa_ptr) (And.intro (@fd_130_0) (And.intro (@AM.ldO_agg) (And.intro (@AM.ldO_one) (And.intro (@AM.ld_ptr) (And.intro (AM.len_slice ul_128) (And.intro (@lk_128) (And.intro (@AM.op_binOp) (And.intro (@AM.op_fieldAddr) (And.intro (@AM.op_len) (And.intro (@AM.op_load) (@AM.op_nilCheck))))))))))))))) := And.intro (@Option.isNone_none.{0}) (And.intro (@Option.isNone_some.{0}) (And.intro (AM.bin_pnil ul_142) (And.intro (@AM.fa_ptr) (And.intro (@fd_130_0) (And.intro (@AM.ldO_agg) (And.intro (@AM.ldO_one) (And.intro (@AM.ld_ptr) (And.intro (AM.len_slice ul_128) (And.intro (@lk_128) (And.intro (@AM.op_binOp) (And.intro (@AM.op_fieldAddr) (And.intro (@AM.op_len) (And.intro (@AM.op_load) (@AM.op_nilCheck))))))))))))))
theorem b105_RTP : type_of% (And.intro (@AM.alK_some) (And.intro (@al_133) (And.intro (@AM.bdV_some) (And.intro (@bd_133) (And.intro (@AM.bin_eql) (And.intro (@AM.fa_ptr) (And.intro (@fd_130_0) (And.intro (@AM.fillL_cons) (And.intro (@AM.fillL_nil) (And.intro (@AM.fillS_agg) (And.intro (@AM.fillS_bool) (And.intro (@AM.fillS_func) (And.intro (@AM.fillS_int) (And.intro (@AM.fillS_map) (And.intro (@AM.fillS_pointer) (And.intro (@AM.fillS_slice) (And.intro (@AM.fillS_string) (And.intro (@AM.iaO_ok) (And.intro (AM.ia_slice el_128) (And.intro (@AM.ldO_agg) (And.intro (@AM.ldO_one) (And.intro (@AM.ld_ptr) (And.intro (@lk_128) (And.intro (@lk_133) (And.intro (@AM.op_alloc) (And.intro (@AM.op_binOp) (And.intro (@AM.op_build) (And.intro (@AM.op_call) (And.intro (@AM.op_fieldAddr) (And.intro (@AM.op_indexAddr) (And.intro (@AM.op_load) (And.intro (@AM.op_nilCheck) (And.intro (@AM.op_store) (And.intro (@AM.resL_two) (And.intro (@AM.res_cell) (And.intro (@AM.stO_agg) (And.intro (@AM.stO_bool) (And.intro (@AM.stO_int) (And.intro (@AM.stO_map) (And.intro (@AM.stO_pointer) (And.intro (@AM.stO_slice) (And.intro (@AM.stO_string) (And.intro (@AM.st_ptr) (@sz_133)))))))))))))))))))))))))))))))))))))))))))) := And.intro (@AM.alK_some) (And.intro (@al_133) (And.intro (@AM.bdV_some) (And.intro (@bd_133) (And.intro (@AM.bin_eql) (And.intro (@AM.fa_ptr) (And.intro (@fd_130_0) (And.intro (@AM.fillL_cons) (And.intro (@AM.fillL_nil) (And.intro (@AM.fillS_agg) (And.intro (@AM.fillS_bool) (And.intro (@AM.fillS_func) (And.intro (@AM.fillS_int) (And.intro (@AM.fillS_map) (And.intro (@AM.fillS_pointer) (And.intro (@AM.fillS_slice) (And.intro (@AM.fillS_string) (And.intro (@AM.iaO_ok) (And.intro (AM.ia_slice el_128) (And.intro (@AM.ldO_agg) (And.intro (@AM.ldO_one) (And.intro (@AM.ld_ptr) (And.intro (@lk_128) (And.intro (@lk_133) (And.intro (@AM.op_alloc) (And.intro (@AM.op_binOp) (And.intro (@AM.op_build) (And.intro (@AM.op_call) (And.intro (@AM.op_fieldAddr) (And.intro (@AM.op_indexAddr) (And.intro (@AM.op_load) (And.intro (@AM.op_nilCheck) (And.intro (@AM.op_store) (And.intro (@AM.resL_two) (And.intro (@AM.res_cell) (And.intro (@AM.stO_agg) (And.intro (@AM.stO_bool) (And.intro (@AM.stO_int) (And.intro (@AM.stO_map) (And.intro (@AM.stO_pointer) (And.intro (@AM.stO_slice) (And.intro (@AM.stO_string) (And.intro (@AM.st_ptr) (@sz_133)))))))))))))))))))))))))))))))))))))))))))
theorem b95_RTP : type_of% (And.intro (@AM.alK_some) (And.intro (@al_133) (And.intro (@AM.bin_gtr) (And.intro (@AM.bin_sub) (And.intro (@AM.ex_tuple) (And.intro (@AM.fa_ptr) (And.intro (@fd_130_0) (And.intro (@AM.iaO_ok) (And.intro (AM.ia_slice el_128) (And.intro (@AM.ldO_agg) (And.intro (@AM.ldO_one) (And.intro (@AM.ld_ptr) (And.intro (AM.len_slice ul_128) (And.intro (@lk_128) (And.intro (@lk_133) (And.intro (@AM.op_alloc) (And.intro (@AM.op_binOp) (And.intro (@AM.op_call) (And.intro (@AM.op_extract) (And.intro (@AM.op_fieldAddr) (And.intro (@AM.op_indexAddr) (And.intro (@AM.op_len) (And.intro (@AM.op_load) (And.intro (@AM.op_nilCheck) (And.intro (@AM.op_slice) (And.intro (@AM.op_store) (And.intro (@AM.resL_two) (And.intro (@AM.res_cell) (And.intro (@AM.stO_agg) (And.intro (@AM.stO_bool) (And.intro (@AM.stO_int) (And.intro (@AM.stO_map) (And.intro (@AM.stO_pointer) (And.intro (@AM.stO_slice) (And.intro (@AM.stO_string) (And.intro (@AM.st_ptr) (And.intro (@sz_128) (@sz_133)))))))))))))))))))))))))))))))))))))) := And.intro (@AM.alK_some) (And.intro (@al_133) (And.intro (@AM.bin_gtr) (And.intro (@AM.bin_sub) (And.intro (@AM.ex_tuple) (And.intro (@AM.fa_ptr) (And.intro (@fd_130_0) (And.intro (@AM.iaO_ok) (And.intro (AM.ia_slice el_128) (And.intro (@AM.ldO_agg) (And.intro (@AM.ldO_one) (And.intro (@AM.ld_ptr) (And.intro (AM.len_slice ul_128) (And.intro (@lk_128) (And.intro (@lk_133) (And.intro (@AM.op_alloc) (And.intro (@AM.op_binOp) (And.intro (@AM.op_call) (And.intro (@AM.op_extract) (And.intro (@AM.op_fieldAddr) (And.intro (@AM.op_indexAddr) (And.intro (@AM.op_len) (And.intro (@AM.op_load) (And.intro (@AM.op_nilCheck) (And.intro (@AM.op_slice) (And.intro (@AM.op_store) (And.intro (@AM.resL_two) (And.intro (@AM.res_cell) (And.intro (@AM.stO_agg) (And.intro (@AM.stO_bool) (And.intro (@AM.stO_int) (And.intro (@AM.stO_map) (And.intro (@AM.stO_pointer) (And.intro (@AM.stO_slice) (And.intro (@AM.stO_string) (And.intro (@AM.st_ptr) (And.intro (@sz_128) (@sz_133)))))))))))))))))))))))))))))))))))))


/-! ### Taking the first one out -/
set_option maxHeartbeats 8000000 in
theorem down_w {h : AHeap} {pid n : Nat} {l0 : List AM.It} {va : Option Addr} {vc : Nat} (g : h.get pid = some (.cells [.slice va n vc] 130 false)) (o : Ow h 133 3 (.slice va n vc) n (l0.flatMap AM.encI)) (hln : l0.length = n) (lo : h.low ≤ pid) (na : ∀ id, idOf (.slice va n vc) id → pid < id) (hl : h.low ≤ h.next) (hn : n ≤ 4000000) (q : AM.It) (dn : AM.Dn l0 0 q) {Q : VQ}
    (hq : ∀ u (l' : List AM.It) h', h'.get pid = some (.cells [.slice va n vc] 130 false) → Ow h' 133 3 (.slice va n vc) n (l'.flatMap AM.encI) → AM.HeapP l' → l'.Perm (l0.set 0 q) → Fr (idOf (.slice va n vc)) h h' → Q u h') : W 106 [pv pid, .agg #[.int .i64 q.1, .int .i64 0, .int .i64 q.2]] h Q := by
  have lt0 := AM.get_some_lt g
  refine AM.enter hp (fn := Tryd.f106) (rs := []) (nt := 78) (by kernel_rfl) Tryd.func106 rfl rfl rfl (by kernel_rfl) ?_
  (repeat' (first | (simp (maxSteps := 1000000) (disch := first | omega | (simp only [AM.DB, List.length_set, List.length_map]; first | done | omega)) only [AM.RB, Nat.reduceAdd, Nat.reduceMul, Nat.reduceEqDiff, reduceCtorEq, b106_RTP]) | refine AM.drawW_fine hp (by kernel_rfl) (by kernel_rfl) (by kernel_rfl) ?_ | refine AM.opW_tied (by kernel_rfl) ?_ | refine AM.opW_untied (by kernel_rfl) ?_))
  generalize hE_ : AHeap.alloc h _ = h1; obtain ⟨g1, fr1, n1, l1⟩ := AM.new_get hE_; clear hE_
  have o1 := o.fr0 fr1
  have gp1 := g.fr0 fr1
  have na1 : ∀ id, idOf (.slice va n vc) id → pid < id ∧ ¬ id = h.next := fun id e => by have := na id e; have := o.lt e; exact ⟨by omega, by omega⟩
  (repeat' (first | (simp (maxSteps := 1000000) (disch := first | omega | (simp only [AM.DB, List.length_set, List.length_map]; first | done | omega)) only [AM.RB, Nat.reduceAdd, Nat.reduceMul, Nat.reduceEqDiff, reduceCtorEq, b106_RTP]) | refine AM.drawW_fine hp (by kernel_rfl) (by kernel_rfl) (by kernel_rfl) ?_ | refine AM.opW_tied (by kernel_rfl) ?_ | refine AM.opW_untied (by kernel_rfl) ?_))
  refine AM.loop_w hp 78 (fun z : Nat × List AM.It => [(0, pv pid), (3, pv h.next), (4, .int .i64 z.1)])
    (fun z h' => AM.Dn z.2 z.1 q ∧ z.2.length = n ∧ (z.2.set z.1 q).Perm (l0.set 0 q) ∧ Ow h' 133 3 (.slice va n vc) n (z.2.flatMap AM.encI) ∧ Fr (idOf (.slice va n vc)) h1 h') (fun z => n - z.1) (by kernel_rfl) (0, l0) ?_ ?_ ?_
  · simp (maxSteps := 1000000) (disch := first | omega | (simp only [AM.DB, List.length_set, List.length_map]; first | done | omega)) only [AM.RB, Nat.reduceAdd, Nat.reduceMul, Nat.reduceEqDiff, reduceCtorEq, b106_RTP]
    first | rfl | skip
  · exact ⟨dn, hln, List.Perm.refl _, o1, Fr.refl _ _⟩
  rintro ⟨i, l⟩ h5 ρ ⟨up, hll, pm, o5, fr5⟩
  simp only at up hll pm o5 ⊢
  have hi := up.lt
  have g15 := fr5.get g1 (fun e => (na1 _ e).2 rfl)
  have g45 := fr5.get gp1 (fun e => by have := (na1 _ e).1; omega)
  have lo5 := fr5.low
  have nx5 := fr5.next
  have r5 := o5.rd
  have fin : ∀ h8 (o8 : Ow h8 133 3 (.slice va n vc) n ((l.set i q).flatMap AM.encI)) (fr8 : Fr (idOf (.slice va n vc)) h1 h8) (hh : AM.HeapP (l.set i q)) (u : Value), Q u h8 := fun h8 o8 fr8 hh u =>
    hq u (l.set i q) h8 (fr8.get gp1 (fun e => by have := (na1 _ e).1; omega)) o8 hh pm (fr1.weak.trans fr8)
  have t1 : (2 * (i : Int) + 1).toNat = 2 * i + 1 := by omega
  have t2 : (2 * (i : Int) + 1 + 1).toNat = 2 * i + 2 := by omega
  (repeat' (first | (simp (maxSteps := 1000000) (disch := first | omega | (simp only [AM.DB, List.length_set, List.length_map]; first | done | omega)) only [AM.RB, Nat.reduceAdd, Nat.reduceMul, Nat.reduceEqDiff, reduceCtorEq, b106_RTP, g45, AM.wrap_i64]) | refine AM.drawW_fine hp (by kernel_rfl) (by kernel_rfl) (by kernel_rfl) ?_ | refine AM.opW_tied (by kernel_rfl) ?_ | refine AM.opW_untied (by kernel_rfl) ?_))
  refine AM.condV_split (fun hlt => ?_) (fun hlt => ?_)
  case' refine_2 =>
    (repeat' (first | (simp (maxSteps := 1000000) (disch := first | omega | (simp only [AM.DB, List.length_set, List.length_map]; first | done | omega)) only [AM.RB, Nat.reduceAdd, Nat.reduceMul, Nat.reduceEqDiff, reduceCtorEq, b106_RTP, g45, g15, r5.ia el_128, Int.toNat_natCast]) | refine AM.drawW_fine hp (by kernel_rfl) (by kernel_rfl) (by kernel_rfl) ?_ | refine AM.opW_tied (by kernel_rfl) ?_ | refine AM.opW_untied (by kernel_rfl) ?_))
    refine o5.stg (l := AM.encI q) sz_133 (j := i) (by omega) rfl rfl fun h6 o6 fr6 n6 => ?_
    rw [AM.flat_set AM.encI_len (by omega) l i q hi] at o6
    (repeat' (first | (simp (maxSteps := 1000000) (disch := first | omega | (simp only [AM.DB, List.length_set, List.length_map]; first | done | omega)) only [AM.RB, Nat.reduceAdd, Nat.reduceMul, Nat.reduceEqDiff, reduceCtorEq, b106_RTP]) | refine AM.drawW_fine hp (by kernel_rfl) (by kernel_rfl) (by kernel_rfl) ?_ | refine AM.opW_tied (by kernel_rfl) ?_ | refine AM.opW_untied (by kernel_rfl) ?_))
    exact fin _ o6 (fr5.trans fr6) (up.done (.inl (by omega))) _
  have hb : 2 * i + 1 < l.length := by omega
  obtain ⟨p1, p2, p3, p4⟩ := AM.lesser_at hb
  by_cases c2 : 2 * (i : Int) + 1 + 1 < n
  case' neg =>
    have d2 : decide (2 * (i : Int) + 1 + 1 < (n : Int)) = false := decide_eq_false c2
    (repeat' (first | (simp (maxSteps := 1000000) (disch := first | omega | (simp only [AM.DB, List.length_set, List.length_map]; first | done | omega)) only [AM.RB, Nat.reduceAdd, Nat.reduceMul, Nat.reduceEqDiff, reduceCtorEq, b106_RTP, g45, AM.wrap_i64, d2]) | refine AM.drawW_fine hp (by kernel_rfl) (by kernel_rfl) (by kernel_rfl) ?_ | refine AM.opW_tied (by kernel_rfl) ?_ | refine AM.opW_untied (by kernel_rfl) ?_))
    have ev : 2 * (i : Int) + 1 = (AM.lesser l i : Nat) := by unfold AM.lesser; rw [if_neg (fun t => by have := t.1; omega)]; omega
    rw [ev]
    obtain ⟨h6, he6⟩ : ∃ h6, h5 = h6 := ⟨h5, rfl⟩
    have fr6 : Fr none' h5 h6 := by rw [← he6]; exact Fr.refl _ _
    rw [he6]
  case' pos =>
    have d2 : decide (2 * (i : Int) + 1 + 1 < (n : Int)) = true := decide_eq_true c2
    (repeat' (first | (simp (maxSteps := 1000000) (disch := first | omega | (simp only [AM.DB, List.length_set, List.length_map]; first | done | omega)) only [AM.RB, Nat.reduceAdd, Nat.reduceMul, Nat.reduceEqDiff, reduceCtorEq, b106_RTP, g45, AM.wrap_i64, d2, r5.ia el_128, r5.lds AM.encI_len lk_133 hll AM.z0, t1, t2]) | refine AM.drawW_fine hp (by kernel_rfl) (by kernel_rfl) (by kernel_rfl) ?_ | refine AM.opW_tied (by kernel_rfl) ?_ | refine AM.opW_untied (by kernel_rfl) ?_))
    refine pcmp_w (AM.at' l (2 * i + 2)) (AM.at' l (2 * i + 1)) (by omega) fun h6 fr6 => ?_
    rcases Classical.em (AM.leI (AM.at' l (2 * i + 1)) (AM.at' l (2 * i + 2))) with c3 | c3
  case' pos.inl =>
    have d3 : decide (AM.cmpI (AM.at' l (2 * i + 2)) (AM.at' l (2 * i + 1)) < 0) = false := decide_eq_false fun t => (AM.cmpI_lt _ _).1 t c3
    have ev : 2 * (i : Int) + 1 = (AM.lesser l i : Nat) := by unfold AM.lesser; rw [if_neg (fun t => t.2 c3)]; omega
    (repeat' (first | (simp (maxSteps := 1000000) (disch := first | omega | (simp only [AM.DB, List.length_set, List.length_map]; first | done | omega)) only [AM.RB, Nat.reduceAdd, Nat.reduceMul, Nat.reduceEqDiff, reduceCtorEq, b106_RTP, d3]) | refine AM.drawW_fine hp (by kernel_rfl) (by kernel_rfl) (by kernel_rfl) ?_ | refine AM.opW_tied (by kernel_rfl) ?_ | refine AM.opW_untied (by kernel_rfl) ?_))
    rw [ev]
  case' pos.inr =>
    have d3 : decide (AM.cmpI (AM.at' l (2 * i + 2)) (AM.at' l (2 * i + 1)) < 0) = true := decide_eq_true ((AM.cmpI_lt _ _).2 c3)
    have ev : 2 * (i : Int) + 1 + 1 = (AM.lesser l i : Nat) := by unfold AM.lesser; rw [if_pos ⟨by omega, c3⟩]; omega
    (repeat' (first | (simp (maxSteps := 1000000) (disch := first | omega | (simp only [AM.DB, List.length_set, List.length_map]; first | done | omega)) only [AM.RB, Nat.reduceAdd, Nat.reduceMul, Nat.reduceEqDiff, reduceCtorEq, b106_RTP, d3, AM.wrap_i64]) | refine AM.drawW_fine hp (by kernel_rfl) (by kernel_rfl) (by kernel_rfl) ?_ | refine AM.opW_tied (by kernel_rfl) ?_ | refine AM.opW_untied (by kernel_rfl) ?_))
    rw [ev]
  all_goals
    have o6 := o5.fr0 fr6
    have r6 := o6.rd
    have g46 := g45.fr0 fr6
    have g16 := g15.fr0 fr6
    have lo6 := fr6.low
    have nx6 := fr6.next
    (repeat' (first | (simp (maxSteps := 1000000) (disch := first | omega | (simp only [AM.DB, List.length_set, List.length_map]; first | done | omega)) only [AM.RB, Nat.reduceAdd, Nat.reduceMul, Nat.reduceEqDiff, reduceCtorEq, b106_RTP, g46, g16, r6.ia el_128, r6.lds AM.encI_len lk_133 hll AM.z0, Int.toNat_natCast]) | refine AM.drawW_fine hp (by kernel_rfl) (by kernel_rfl) (by kernel_rfl) ?_ | refine AM.opW_tied (by kernel_rfl) ?_ | refine AM.opW_untied (by kernel_rfl) ?_))
    refine pcmp_w q (AM.at' l (AM.lesser l i)) (by omega) fun h7 fr7 => ?_
    have o7 := o6.fr0 fr7
    have r7 := o7.rd
    have g47 := g46.fr0 fr7
    have g17 := g16.fr0 fr7
    have lo7 := fr7.low
    have nx7 := fr7.next
    have fr57 := (fr5.trans fr6.weak).trans fr7.weak
    by_cases c : AM.leI q (AM.at' l (AM.lesser l i))
    · have d1 : decide (AM.cmpI q (AM.at' l (AM.lesser l i)) ≤ 0) = true := decide_eq_true ((AM.cmpI_le _ _).2 c)
      (repeat' (first | (simp (maxSteps := 1000000) (disch := first | omega | (simp only [AM.DB, List.length_set, List.length_map]; first | done | omega)) only [AM.RB, Nat.reduceAdd, Nat.reduceMul, Nat.reduceEqDiff, reduceCtorEq, b106_RTP, d1, g47, g17, r7.ia el_128, Int.toNat_natCast]) | refine AM.drawW_fine hp (by kernel_rfl) (by kernel_rfl) (by kernel_rfl) ?_ | refine AM.opW_tied (by kernel_rfl) ?_ | refine AM.opW_untied (by kernel_rfl) ?_))
      refine o7.stg (l := AM.encI q) sz_133 (j := i) (by omega) rfl rfl fun h8 o8 fr8 n8 => ?_
      rw [AM.flat_set AM.encI_len (by omega) l i q hi] at o8
      (repeat' (first | (simp (maxSteps := 1000000) (disch := first | omega | (simp only [AM.DB, List.length_set, List.length_map]; first | done | omega)) only [AM.RB, Nat.reduceAdd, Nat.reduceMul, Nat.reduceEqDiff, reduceCtorEq, b106_RTP]) | refine AM.drawW_fine hp (by kernel_rfl) (by kernel_rfl) (by kernel_rfl) ?_ | refine AM.opW_tied (by kernel_rfl) ?_ | refine AM.opW_untied (by kernel_rfl) ?_))
      exact fin _ o8 (fr57.trans fr8) (up.done (.inr c)) _
    · have d1 : decide (AM.cmpI q (AM.at' l (AM.lesser l i)) ≤ 0) = false := decide_eq_false fun t => c ((AM.cmpI_le _ _).1 t)
      (repeat' (first | (simp (maxSteps := 1000000) (disch := first | omega | (simp only [AM.DB, List.length_set, List.length_map]; first | done | omega)) only [AM.RB, Nat.reduceAdd, Nat.reduceMul, Nat.reduceEqDiff, reduceCtorEq, b106_RTP, d1, g47, g17, r7.ia el_128, r7.lds AM.encI_len lk_133 hll AM.z0, Int.toNat_natCast]) | refine AM.drawW_fine hp (by kernel_rfl) (by kernel_rfl) (by kernel_rfl) ?_ | refine AM.opW_tied (by kernel_rfl) ?_ | refine AM.opW_untied (by kernel_rfl) ?_))
      refine o7.stg (l := AM.encI (AM.at' l (AM.lesser l i))) sz_133 (j := i) (by omega) rfl rfl fun h8 o8 fr8 n8 => ?_
      rw [AM.flat_set AM.encI_len (by omega) l i _ hi] at o8
      (repeat' (first | (simp (maxSteps := 1000000) (disch := first | omega | (simp only [AM.DB, List.length_set, List.length_map]; first | done | omega)) only [AM.RB, Nat.reduceAdd, Nat.reduceMul, Nat.reduceEqDiff, reduceCtorEq, b106_RTP]) | refine AM.drawW_fine hp (by kernel_rfl) (by kernel_rfl) (by kernel_rfl) ?_ | refine AM.opW_tied (by kernel_rfl) ?_ | refine AM.opW_untied (by kernel_rfl) ?_))
      refine ⟨(AM.lesser l i, l.set i (AM.at' l (AM.lesser l i))), by simp only; omega, ?_, up.move hb c, by simp only; rw [List.length_set]; exact hll, (AM.swap_perm hi p3 q).trans pm, o8, fr57.trans fr8⟩
      simp (maxSteps := 1000000) (disch := first | omega | (simp only [AM.DB, List.length_set, List.length_map]; first | done | omega)) only [AM.RB, Nat.reduceAdd, Nat.reduceMul, Nat.reduceEqDiff, reduceCtorEq, b106_RTP]
      first | rfl | skip

theorem plen_w {h : AHeap} {pid n : Nat} {va : Option Addr} {vc : Nat} (g : h.get pid = some (.cells [.slice va n vc] 130 false)) {Q : VQ} (hq : Q (.int .i64 n) h) : W 113 [pv pid] h Q := by
  refine AM.enter hp (fn := Tryd.f113) (rs := [.tmp 2]) (nt := 10) (by kernel_rfl) Tryd.func113 rfl rfl rfl (by kernel_rfl) ?_
  (first | (simp (maxSteps := 1000000) (disch := first | omega | (simp only [AM.DB, List.length_set, List.length_map]; first | done | omega)) only [AM.RB, Nat.reduceAdd, Nat.reduceMul, Nat.reduceEqDiff, reduceCtorEq, b113_RTP, g]) | skip)
  exact hq
set_option maxHeartbeats 8000000 in
theorem top_w {h : AHeap} {pid : Nat} {P : List AM.It} {v : Value} (x : Pl h pid P v) (hl : h.low ≤ h.next) (hn : P.length ≤ 4000000) {Q : VQ}
    (h0 : P = [] → ∀ h', Fr none' h h' → Q (.tuple #[.agg #[.int .i64 0, .int .i64 0, .int .i64 0], .bool false]) h')
    (h1' : P ≠ [] → ∀ h', Fr none' h h' → Q (.tuple #[.agg #[.int .i64 (AM.at' P 0).1, .int .i64 0, .int .i64 (AM.at' P 0).2], .bool true]) h') : W 105 [pv pid] h Q := by
  obtain ⟨va, vc, hv⟩ := x.o.form
  subst hv
  have lt0 := AM.get_some_lt x.g
  refine AM.enter hp (fn := Tryd.f105) (rs := [.cell 2 133, .tmp 3]) (nt := 14) (by kernel_rfl) Tryd.func105 rfl rfl rfl (by kernel_rfl) ?_
  (repeat' (first | (simp (maxSteps := 1000000) (disch := first | omega | (simp only [AM.DB, List.length_set, List.length_map]; first | done | omega)) only [AM.RB, Nat.reduceAdd, Nat.reduceMul, Nat.reduceEqDiff, reduceCtorEq, b105_RTP]) | refine AM.build_w ?_))
  generalize hE_ : AHeap.alloc h _ = h1; obtain ⟨g1, fr1, n1, l1⟩ := AM.new_get hE_; clear hE_
  have x1 := x.fr0 fr1
  have xg := x1.g
  refine plen_w xg ?_
  have lo1 : h1.low ≤ h.next := by omega
  by_cases hP : P = []
  · have d0 : decide ((P.length : Int) = 0) = true := decide_eq_true (by rw [hP]; rfl)
    (repeat' (first | (simp (maxSteps := 1000000) (disch := first | omega | (simp only [AM.DB, List.length_set, List.length_map]; first | done | omega)) only [AM.RB, Nat.reduceAdd, Nat.reduceMul, Nat.reduceEqDiff, reduceCtorEq, b105_RTP, d0, g1]) | refine AM.build_w ?_))
    generalize hE_ : AHeap.put h1 _ _ = h2; obtain ⟨g2, fr2, n2, l2⟩ := AM.put_get hE_ (by omega); clear hE_
    (repeat' (first | (simp (maxSteps := 1000000) (disch := first | omega | (simp only [AM.DB, List.length_set, List.length_map]; first | done | omega)) only [AM.RB, Nat.reduceAdd, Nat.reduceMul, Nat.reduceEqDiff, reduceCtorEq, b105_RTP, g2]) | refine AM.build_w ?_))
    exact h0 hP _ (fr1.fresh fr2 fun id e => by omega)
  · have hp0 : 0 < P.length := List.length_pos_iff.2 hP
    have d0 : decide ((P.length : Int) = 0) = false := decide_eq_false (by omega)
    have r1 := x1.o.rd
    have t0 : Int.toNat 0 = 0 := rfl
    (repeat' (first | (simp (maxSteps := 1000000) (disch := first | omega | (simp only [AM.DB, List.length_set, List.length_map]; first | done | omega)) only [AM.RB, Nat.reduceAdd, Nat.reduceMul, Nat.reduceEqDiff, reduceCtorEq, b105_RTP, d0, xg, r1.ia el_128, r1.lds AM.encI_len lk_133 rfl AM.z0, t0, g1, AM.encI]) | refine AM.build_w ?_))
    generalize hE_ : AHeap.put h1 _ _ = h2; obtain ⟨g2, fr2, n2, l2⟩ := AM.put_get hE_ (by omega); clear hE_
    (repeat' (first | (simp (maxSteps := 1000000) (disch := first | omega | (simp only [AM.DB, List.length_set, List.length_map]; first | done | omega)) only [AM.RB, Nat.reduceAdd, Nat.reduceMul, Nat.reduceEqDiff, reduceCtorEq, b105_RTP, g2]) | refine AM.build_w ?_))
    exact h1' hP _ (fr1.fresh fr2 fun id e => by omega)
set_option maxHeartbeats 8000000 in
theorem pop_w {h : AHeap} {pid : Nat} {P : List AM.It} {v : Value} (x : Pl h pid P v) (hP : AM.HeapP P) (hl : h.low ≤ h.next) (hn : P.length ≤ 4000000) {Q : VQ}
    (h0 : P = [] → ∀ h', Fr none' h h' → Q (.tuple #[.agg #[.int .i64 0, .int .i64 0, .int .i64 0], .bool false]) h')
    (h1 : P ≠ [] → ∀ P' v' h', Pl h' pid P' v' → AM.HeapP P' → P.Perm (AM.at' P 0 :: P') → Fr (fun id => id = pid ∨ idOf v id) h h' → (∀ id, idOf v' id → idOf v id) → Q (.tuple #[.agg #[.int .i64 (AM.at' P 0).1, .int .i64 0, .int .i64 (AM.at' P 0).2], .bool true]) h') : W 95 [pv pid] h Q := by
  obtain ⟨va, vc, hv⟩ := x.o.form
  subst hv
  have lt0 := AM.get_some_lt x.g
  have lo0 := x.lo
  refine AM.enter hp (fn := Tryd.f95) (rs := [.cell 2 133, .tmp 3]) (nt := 50) (by kernel_rfl) Tryd.func95 rfl rfl rfl (by kernel_rfl) ?_
  (repeat' (first | (simp (maxSteps := 1000000) (disch := first | omega | (simp only [AM.DB, List.length_set, List.length_map]; first | done | omega)) only [AM.RB, Nat.reduceAdd, Nat.reduceMul, Nat.reduceEqDiff, reduceCtorEq, b95_RTP]) | refine AM.drawW_fine hp (by kernel_rfl) (by kernel_rfl) (by kernel_rfl) ?_ | refine AM.opW_tied (by kernel_rfl) ?_ | refine AM.opW_untied (by kernel_rfl) ?_))
  generalize hE_ : AHeap.alloc h _ = h2; obtain ⟨g2, fr2, n2, l2⟩ := AM.new_get hE_; clear hE_
  have x2 := x.fr0 fr2
  refine top_w x2 (by omega) hn (fun hP0 h3 fr3 => ?_) (fun hP0 h3 fr3 => ?_)
  · have hl3 := (fr2.trans fr3).hl hl
    (repeat' (first | (simp (maxSteps := 1000000) (disch := first | omega | (simp only [AM.DB, List.length_set, List.length_map]; first | done | omega)) only [AM.RB, Nat.reduceAdd, Nat.reduceMul, Nat.reduceEqDiff, reduceCtorEq, b95_RTP]) | refine AM.drawW_fine hp (by kernel_rfl) (by kernel_rfl) (by kernel_rfl) ?_ | refine AM.opW_tied (by kernel_rfl) ?_ | refine AM.opW_untied (by kernel_rfl) ?_))
    generalize hE_ : AHeap.put (AHeap.alloc h3 _) _ _ = h4; obtain ⟨g4, fr4, n4, l4⟩ := AM.box_get hE_ (by omega); clear hE_
    have g24 := (g2.fr0 fr3).fr0 fr4
    have lo4 : h4.low ≤ h.next := by have := fr3.low; omega
    have lt4 := AM.get_some_lt g24
    (repeat' (first | (simp (maxSteps := 1000000) (disch := first | omega | (simp only [AM.DB, List.length_set, List.length_map]; first | done | omega)) only [AM.RB, Nat.reduceAdd, Nat.reduceMul, Nat.reduceEqDiff, reduceCtorEq, b95_RTP, g4, g24]) | refine AM.drawW_fine hp (by kernel_rfl) (by kernel_rfl) (by kernel_rfl) ?_ | refine AM.opW_tied (by kernel_rfl) ?_ | refine AM.opW_untied (by kernel_rfl) ?_))
    generalize hE_ : AHeap.put h4 _ _ = h5; obtain ⟨g5, fr5, n5, l5⟩ := AM.put_get hE_ (by omega); clear hE_
    (repeat' (first | (simp (maxSteps := 1000000) (disch := first | omega | (simp only [AM.DB, List.length_set, List.length_map]; first | done | omega)) only [AM.RB, Nat.reduceAdd, Nat.reduceMul, Nat.reduceEqDiff, reduceCtorEq, b95_RTP, g5]) | refine AM.drawW_fine hp (by kernel_rfl) (by kernel_rfl) (by kernel_rfl) ?_ | refine AM.opW_tied (by kernel_rfl) ?_ | refine AM.opW_untied (by kernel_rfl) ?_))
    exact h0 hP0 _ (((fr2.trans fr3).trans fr4).fresh fr5 fun id e => by omega)
  · have hp0 : 0 < P.length := List.length_pos_iff.2 hP0
    have hl3 := (fr2.trans fr3).hl hl
    have x3 := x2.fr0 fr3
    have xg3 := x3.g
    have r3 := x3.o.rd
    have tn : ((P.length : Int) - 1).toNat = P.length - 1 := by omega
    have cn : ((P.length : Int) - 1) = ((P.length - 1 : Nat) : Int) := by omega
    (repeat' (first | (simp (maxSteps := 1000000) (disch := first | omega | (simp only [AM.DB, List.length_set, List.length_map]; first | done | omega)) only [AM.RB, Nat.reduceAdd, Nat.reduceMul, Nat.reduceEqDiff, reduceCtorEq, b95_RTP]) | refine AM.drawW_fine hp (by kernel_rfl) (by kernel_rfl) (by kernel_rfl) ?_ | refine AM.opW_tied (by kernel_rfl) ?_ | refine AM.opW_untied (by kernel_rfl) ?_))
    generalize hE_ : AHeap.put (AHeap.alloc h3 _) _ _ = h4; obtain ⟨g4, fr4, n4, l4⟩ := AM.box_get hE_ (by omega); clear hE_
    have x4 := x3.fr0 fr4
    have xg4 := x4.g
    have r4 := x4.o.rd
    (repeat' (first | (simp (maxSteps := 1000000) (disch := first | omega | (simp only [AM.DB, List.length_set, List.length_map]; first | done | omega)) only [AM.RB, Nat.reduceAdd, Nat.reduceMul, Nat.reduceEqDiff, reduceCtorEq, b95_RTP, xg4, AM.wrap_i64, r4.ia el_128, r4.lds AM.encI_len lk_133 rfl AM.z0, tn, AM.encI]) | refine AM.drawW_fine hp (by kernel_rfl) (by kernel_rfl) (by kernel_rfl) ?_ | refine AM.opW_tied (by kernel_rfl) ?_ | refine AM.opW_untied (by kernel_rfl) ?_))
    have hl4 : h4.low ≤ h4.next := by have := fr4.low; omega
    generalize hE_ : AHeap.put (AHeap.alloc h4 _) _ _ = h5; obtain ⟨g5, fr5, n5, l5⟩ := AM.box_get hE_ (by omega); clear hE_
    have x5 := x4.fr0 fr5
    have xg5 := x5.g
    have g25 := ((g2.fr0 fr3).fr0 fr4).fr0 fr5
    have g45 := g4.fr0 fr5
    have na5 := x5.na
    have fr05 := (((fr2.trans fr3).trans fr4).trans fr5)
    have o5 := x5.o
    rcases x5.o with ⟨_, e, _⟩ | ⟨id, off, cap, c, o, e, hnc, hg, hf, hd, hlo⟩
    · exact absurd e (by omega)
    cases e
    have lt5 := AM.get_some_lt xg5
    have lo5 : h5.low ≤ pid := x5.lo
    have oc := o5.cut (i := 0) (j := P.length - 1) (m := vc) (by omega) (by omega) (by omega) (by omega)
    simp only [Nat.zero_mul, Nat.add_zero, Nat.sub_zero, List.drop_zero] at oc
    rw [AM.flat_take AM.encI_len] at oc
    (repeat' (first | (simp (maxSteps := 1000000) (disch := first | omega | (simp only [AM.DB, List.length_set, List.length_map]; first | done | omega)) only [AM.RB, Nat.reduceAdd, Nat.reduceMul, Nat.reduceEqDiff, reduceCtorEq, b95_RTP, xg5, AM.wrap_i64, AM.slc el_128 hg, AM.slbs_hi_i, tn, Nat.sub_zero, Nat.zero_mul, Nat.add_zero]) | refine AM.drawW_fine hp (by kernel_rfl) (by kernel_rfl) (by kernel_rfl) ?_ | refine AM.opW_tied (by kernel_rfl) ?_ | refine AM.opW_untied (by kernel_rfl) ?_))
    generalize hE_ : AHeap.put h5 _ _ = h6; obtain ⟨g6, fr6, n6, l6⟩ := AM.put_get hE_ (by omega); clear hE_
    have oc6 := oc.fr fr6 (fun j e t => by have e : j = id := e; have := na5 id rfl; omega)
    have g26 := fr6.get g25 (fun e => by omega)
    have g46 := fr6.get g45 (fun e => by have := fr3.next; omega)
    have g56 := fr6.get g5 (fun e => by have := fr3.next; omega)
    have hid : id < h.next := x.o.lt (id := id) rfl
    have npid := na5 id rfl
    have n23 := fr3.next
    have tln : (P.take (P.length - 1)).length = P.length - 1 := by rw [List.length_take]; omega
    have fr06 : Fr (fun j => j = pid ∨ idOf (.slice (some ⟨id, off, none⟩) P.length vc) j) h h6 := fr05.weak.then fr6 fun j _ e => .inl e
    have low6 := fr06.low
    have nx6 := fr06.next
    refine AM.condV_split (fun hlt => ?_) (fun hlt => ?_)
    · have h2le : 2 ≤ P.length := by omega
      (repeat' (first | (simp (maxSteps := 1000000) (disch := first | omega | (simp only [AM.DB, List.length_set, List.length_map]; first | done | omega)) only [AM.RB, Nat.reduceAdd, Nat.reduceMul, Nat.reduceEqDiff, reduceCtorEq, b95_RTP, g56]) | refine AM.drawW_fine hp (by kernel_rfl) (by kernel_rfl) (by kernel_rfl) ?_ | refine AM.opW_tied (by kernel_rfl) ?_ | refine AM.opW_untied (by kernel_rfl) ?_))
      refine down_w g6 oc6 tln (by omega) (fun j e => by have e : j = id := e; omega) (by omega) (by omega) (AM.at' P (P.length - 1)) (AM.Dn.start (hP.take _) (by omega) _) fun u l' h7 gp7 o7 hh7 pm7 fr7 => ?_
      have g27 := fr7.get g26 (fun e => by have e : h.next = id := e; omega)
      have g47 := fr7.get g46 (fun e => by have e : h3.next = id := e; omega)
      have lo7 : h7.low ≤ h.next := by have := fr7.low; omega
      have ll : l'.length = P.length - 1 := by rw [pm7.length_eq, List.length_set]; exact tln
      have lt7 := AM.get_some_lt g27
      have l7 := fr7.low
      (repeat' (first | (simp (maxSteps := 1000000) (disch := first | omega | (simp only [AM.DB, List.length_set, List.length_map]; first | done | omega)) only [AM.RB, Nat.reduceAdd, Nat.reduceMul, Nat.reduceEqDiff, reduceCtorEq, b95_RTP, g47, g27]) | refine AM.drawW_fine hp (by kernel_rfl) (by kernel_rfl) (by kernel_rfl) ?_ | refine AM.opW_tied (by kernel_rfl) ?_ | refine AM.opW_untied (by kernel_rfl) ?_))
      generalize hE_ : AHeap.put h7 _ _ = h8; obtain ⟨g8, fr8, n8, l8⟩ := AM.put_get hE_ (by omega); clear hE_
      (repeat' (first | (simp (maxSteps := 1000000) (disch := first | omega | (simp only [AM.DB, List.length_set, List.length_map]; first | done | omega)) only [AM.RB, Nat.reduceAdd, Nat.reduceMul, Nat.reduceEqDiff, reduceCtorEq, b95_RTP, g8]) | refine AM.drawW_fine hp (by kernel_rfl) (by kernel_rfl) (by kernel_rfl) ?_ | refine AM.opW_tied (by kernel_rfl) ?_ | refine AM.opW_untied (by kernel_rfl) ?_))
      have pmP : P.Perm (AM.at' P 0 :: l') := by
        have := (pm7.trans (AM.tail_perm h2le)).symm
        exact (List.Perm.of_eq (AM.head_tail hP0)).trans (this.cons _)
      refine h1 hP0 l' (.slice (some ⟨id, off, none⟩) (P.length - 1) vc) h8 ⟨fr8.get gp7 (fun e => by omega), ?_, ?_, fun j e => by have e : j = id := e; omega⟩ hh7 pmP ?_ (fun j e => e)
      · rw [ll]; exact o7.fr fr8 (fun j e t => by have e : j = id := e; omega)
      · omega
      · refine ((fr06.then fr7 fun j _ e => .inr e).then fr8 fun j hj e => ?_)
        omega
    · have h1e : P.length = 1 := by omega
      have lo6' : h6.low ≤ h.next := by omega
      have lt6 := AM.get_some_lt g26
      (repeat' (first | (simp (maxSteps := 1000000) (disch := first | omega | (simp only [AM.DB, List.length_set, List.length_map]; first | done | omega)) only [AM.RB, Nat.reduceAdd, Nat.reduceMul, Nat.reduceEqDiff, reduceCtorEq, b95_RTP, g46, g26]) | refine AM.drawW_fine hp (by kernel_rfl) (by kernel_rfl) (by kernel_rfl) ?_ | refine AM.opW_tied (by kernel_rfl) ?_ | refine AM.opW_untied (by kernel_rfl) ?_))
      generalize hE_ : AHeap.put h6 _ _ = h8; obtain ⟨g8, fr8, n8, l8⟩ := AM.put_get hE_ (by omega); clear hE_
      (repeat' (first | (simp (maxSteps := 1000000) (disch := first | omega | (simp only [AM.DB, List.length_set, List.length_map]; first | done | omega)) only [AM.RB, Nat.reduceAdd, Nat.reduceMul, Nat.reduceEqDiff, reduceCtorEq, b95_RTP, g8]) | refine AM.drawW_fine hp (by kernel_rfl) (by kernel_rfl) (by kernel_rfl) ?_ | refine AM.opW_tied (by kernel_rfl) ?_ | refine AM.opW_untied (by kernel_rfl) ?_))
      have pmP : P.Perm (AM.at' P 0 :: []) := by
        refine List.Perm.of_eq ((AM.head_tail hP0).trans ?_)
        congr 1
        exact List.length_eq_zero_iff.1 (by rw [List.length_tail]; omega)
      refine h1 hP0 [] (.slice (some ⟨id, off, none⟩) (P.length - 1) vc) h8 ⟨fr8.get g6 (fun e => by omega), ?_, ?_, fun j e => by have e : j = id := e; omega⟩ (fun j _ q => by simp at q) pmP ?_ (fun j e => e)
      · have := oc6.fr fr8 (fun j e t => by have e : j = id := e; omega)
        rw [h1e] at this ⊢
        simpa using this
      · omega
      · refine fr06.then fr8 fun j hj e => ?_
        omega
end Go.Proofs.YtgdcbjpookldoaaDoor
