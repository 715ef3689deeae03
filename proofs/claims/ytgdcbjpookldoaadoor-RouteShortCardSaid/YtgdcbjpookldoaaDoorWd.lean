/- Walks of this claim's functions, and plain laws. -/
import Derived.Test.YtgdcbjpookldoaaDoorWc
import Derived.Test.YtgdcbjpookldoaaDoorAMBfs
set_option linter.unusedSimpArgs false
set_option linter.unusedVariables false
namespace Go.Proofs.YtgdcbjpookldoaaDoor
open Go.AM
set_option maxRecDepth 8000
theorem b61_RT2 : type_of% (And.intro (@List.map_toArray.{0,0}) (And.intro (@AM.boxK_agg) (And.intro (@AM.boxK_bool) (And.intro (@AM.boxK_func) (And.intro (@AM.boxK_int) (And.intro (@AM.boxK_map) (And.intro (@AM.boxK_pointer) (And.intro (@AM.boxK_slice) (And.intro (@AM.boxK_string) (And.intro (@AM.op_box) (@AM.op_makeFunc))))))))))) := And.intro (@List.map_toArray.{0,0}) (And.intro (@AM.boxK_agg) (And.intro (@AM.boxK_bool) (And.intro (@AM.boxK_func) (And.intro (@AM.boxK_int) (And.intro (@AM.boxK_map) (And.intro (@AM.boxK_pointer) (And.intro (@AM.boxK_slice) (And.intro (@AM.boxK_string) (And.intro (@AM.op_box) (@AM.op_makeFunc))))))))))
theorem b82_RT2 : type_of% (And.intro (@AM.bin_add) (And.intro (@AM.bin_gtr) (And.intro (@AM.bin_lss) (And.intro (@AM.fa_ptr) (And.intro (@fd_100_1) (And.intro (@AM.iaO_ok) (And.intro (AM.ia_slice el_22) (And.intro (@AM.ldO_agg) (And.intro (@AM.ldO_one) (And.intro (@AM.ld_ptr) (And.intro (AM.len_slice ul_22) (And.intro (@lk_22) (And.intro (@lk_3) (And.intro (@lk_96) (And.intro (@lk_98) (And.intro (@AM.op_binOp) (And.intro (@AM.op_call) (And.intro (@AM.op_fieldAddr) (And.intro (@AM.op_indexAddr) (And.intro (@AM.op_len) (And.intro (@AM.op_load) (And.intro (@AM.op_lookup) (And.intro (@AM.op_nilCheck) (And.intro (@AM.op_unOp) (And.intro (@AM.un_neg) (@AM.un_not)))))))))))))))))))))))))) := And.intro (@AM.bin_add) (And.intro (@AM.bin_gtr) (And.intro (@AM.bin_lss) (And.intro (@AM.fa_ptr) (And.intro (@fd_100_1) (And.intro (@AM.iaO_ok) (And.intro (AM.ia_slice el_22) (And.intro (@AM.ldO_agg) (And.intro (@AM.ldO_one) (And.intro (@AM.ld_ptr) (And.intro (AM.len_slice ul_22) (And.intro (@lk_22) (And.intro (@lk_3) (And.intro (@lk_96) (And.intro (@lk_98) (And.intro (@AM.op_binOp) (And.intro (@AM.op_call) (And.intro (@AM.op_fieldAddr) (And.intro (@AM.op_indexAddr) (And.intro (@AM.op_len) (And.intro (@AM.op_load) (And.intro (@AM.op_lookup) (And.intro (@AM.op_nilCheck) (And.intro (@AM.op_unOp) (And.intro (@AM.un_neg) (@AM.un_not)))))))))))))))))))))))))
theorem b55_RT2 : type_of% (And.intro (@Option.isNone_none.{0}) (And.intro (@Option.isNone_some.{0}) (And.intro (AM.bin_pnil ul_23) (And.intro (@AM.op_binOp) (And.intro (@AM.op_call) (And.intro (@AM.op_unOp) (And.intro (@AM.un_neg) (@AM.un_not)))))))) := And.intro (@Option.isNone_none.{0}) (And.intro (@Option.isNone_some.{0}) (And.intro (AM.bin_pnil ul_23) (And.intro (@AM.op_binOp) (And.intro (@AM.op_call) (And.intro (@AM.op_unOp) (And.intro (@AM.un_neg) (@AM.un_not)))))))


/-- Those that are not left out. -/
def keptL (B : List Int) (f : Int) (l : List Int) : List Int := l.filter fun c => !outB B f c
theorem keptL_succ (B : List Int) (f : Int) {l : List Int} {i : Nat} (hi : i < l.length) : keptL B f (l.take (i + 1)) = keptL B f (l.take i) ++ if outB B f (l.getD i 0) = true then [] else [l.getD i 0] := by
  unfold keptL
  have e : l.getD i 0 = l[i] := by simp [List.getD, hi]
  rw [List.take_succ_eq_append_getElem hi, List.filter_append, e]
  cases h : outB B f l[i] <;> simp [h]
theorem keptL_at {B : List Int} {f : Int} {l : List Int} {i : Nat} (hi : i < l.length) (h : outB B f (l.getD i 0) = false) : (keptL B f l)[(keptL B f (l.take i)).length]? = some (l.getD i 0) := by
  have e : keptL B f l = keptL B f (l.take i) ++ keptL B f (l.drop i) := by unfold keptL; rw [← List.filter_append, List.take_append_drop]
  rw [e, List.getElem?_append_right (Nat.le_refl _), Nat.sub_self]
  have d : l.drop i = l.getD i 0 :: l.drop (i + 1) := by
    rw [List.drop_eq_getElem_cons hi]
    simp [List.getD, hi]
  rw [d]
  unfold keptL
  rw [List.filter_cons_of_pos (by rw [h]; rfl)]
  rfl
theorem sfree_w {h : AHeap} {sp n c : Nat} {a : Option Addr} {Q : VQ} (hq : ∀ h', h'.get h.next = some (.cells [pv sp] 96 false) → h'.get (h.next + 1) = some (.cells [.slice a n c] 22 false) → Fr none' h h' → h'.next = h.next + 2 → h'.low = h.low → Q (.func (.func 82) #[] #[pv (h.next + 1), pv h.next]) h') : W 61 [pv sp, .slice a n c] h Q := by
  refine AM.enter hp (fn := Tryd.f61) (rs := [.tmp 4]) (nt := 6) (by kernel_rfl) Tryd.func61 rfl rfl rfl (by kernel_rfl) ?_
  (first | (simp (maxSteps := 1000000) (disch := first | omega | (simp only [AM.DB, List.length_set, List.length_map]; first | done | omega)) only [AM.RB, Nat.reduceAdd, Nat.reduceMul, Nat.reduceEqDiff, reduceCtorEq, b61_RT2]) | skip)
  generalize hE_ : AHeap.alloc (AHeap.alloc h _) _ = h2
  refine hq h2 ?_ ?_ ?_ (by rw [← hE_]; rfl) (by rw [← hE_]; rfl)
  · rw [← hE_, AM.get_alloc_ne (by simp), AM.get_alloc_self rfl]
  · rw [← hE_, AM.get_alloc_self (by simp)]
  · rw [← hE_]; exact ((Fr.refl _ _).alloc _).alloc _
set_option maxHeartbeats 4000000 in
theorem free1_w {h : AHeap} {w1 w2 sp o1 n : Nat} {pm dv : Value} {la : Option Addr} {lc : Nat} {l B : List Int} {f : Int} {ml : List (Int × Value)} {e1 e2 e3 : TypeId} {b1 b2 b3 : Bool} (g1 : h.get w1 = some (.cells [.slice la n lc] e1 b1)) (g2 : h.get w2 = some (.cells [pv sp] e2 b2))
    (gs : h.get sp = some (.cells [pm, .map (some o1), dv] e3 b3)) (gm : h.get o1 = some (.map (encM ml))) (om : outMap B f ml) (hr : Rd h 3 1 (.slice la n lc) n (l.map (.int .i64))) (hn : n ≤ 4000000) :
    IterOk Tryd.prog prims (.func (.func 82) #[] #[pv w1, pv w2]) (fun id => id = w1 ∨ id = w2 ∨ id = sp ∨ id = o1 ∨ idOf (.slice la n lc) id) ((keptL B f l).map fun c => [.int .i64 c]) h := by
  intro y J E h0 hnx hR hlow hJ hE hy hJ0
  have hll : l.length = n := by simpa using hr.length
  have gw1 : h0.get w1 = some (.cells [.slice la n lc] e1 b1) := by rw [hR w1 (AM.get_some_lt g1) (.inl rfl)]; exact g1
  have gw2 : h0.get w2 = some (.cells [pv sp] e2 b2) := by rw [hR w2 (AM.get_some_lt g2) (.inr (.inl rfl))]; exact g2
  have gs0 : h0.get sp = some (.cells [pm, .map (some o1), dv] e3 b3) := by rw [hR sp (AM.get_some_lt gs) (.inr (.inr (.inl rfl)))]; exact gs
  have gm0 : h0.get o1 = some (.map (encM ml)) := by rw [hR o1 (AM.get_some_lt gm) (.inr (.inr (.inr (.inl rfl))))]; exact gm
  have hr0 : Rd h0 3 1 (.slice la n lc) n (l.map (.int .i64)) := hr.same fun id hi => hR id (hr.lt hi) (.inr (.inr (.inr (.inr hi))))
  have hRlt : ∀ id, (id = w1 ∨ id = w2 ∨ id = sp ∨ id = o1 ∨ idOf (.slice la n lc) id) → id < h0.next := by
    rintro id (rfl | rfl | rfl | rfl | hi)
    · exact AM.get_some_lt gw1
    · exact AM.get_some_lt gw2
    · exact AM.get_some_lt gs0
    · exact AM.get_some_lt gm0
    · exact hr0.lt hi
  refine AM.enter hp (fn := Tryd.f82) (rs := []) (nt := 24) (by kernel_rfl) Tryd.func82 rfl rfl rfl (by kernel_rfl) ?_
  (first | (simp (maxSteps := 1000000) (disch := first | omega | (simp only [AM.DB, List.length_set, List.length_map]; first | done | omega)) only [AM.RB, Nat.reduceAdd, Nat.reduceMul, Nat.reduceEqDiff, reduceCtorEq, b82_RT2, gw1]) | skip)
  refine AM.loop_w hp 24 (fun i : Nat => [(0, y), (1, pv w1), (2, pv w2), (6, .slice la n lc), (7, .int .i64 n), (8, .int .i64 i)])
    (fun i h' => i ≤ n ∧ (∀ id, (id = w1 ∨ id = w2 ∨ id = sp ∨ id = o1 ∨ idOf (.slice la n lc) id) → h'.get id = h0.get id) ∧ h0.next ≤ h'.next ∧ h'.low = h0.low ∧ ∃ A, (∀ id, A id → h0.next ≤ id ∧ id < h'.next) ∧ J (keptL B f (l.take i)).length A h') (fun i => n - i) (by kernel_rfl) 0 ?_ ?_ ?_
  · simp (maxSteps := 1000000) (disch := first | omega | (simp only [AM.DB, List.length_set, List.length_map]; first | done | omega)) only [AM.RB, Nat.reduceAdd, Nat.reduceMul, Nat.reduceEqDiff, reduceCtorEq, b82_RT2]
    first | rfl | skip
  · exact ⟨Nat.zero_le _, fun _ _ => rfl, Nat.le_refl _, rfl, none', fun id q => q.elim, hJ0⟩
  rintro i h1 ρ ⟨hi, hk, nx1, lw1, A, hA, hJ1⟩
  have r1 := hr0.same fun id q => hk id (.inr (.inr (.inr (.inr q))))
  have gw21 : h1.get w2 = some (.cells [pv sp] e2 b2) := by rw [hk w2 (.inr (.inl rfl))]; exact gw2
  have gs1 : h1.get sp = some (.cells [pm, .map (some o1), dv] e3 b3) := by rw [hk sp (.inr (.inr (.inl rfl)))]; exact gs0
  have gm1 : h1.get o1 = some (.map (encM ml)) := by rw [hk o1 (.inr (.inr (.inr (.inl rfl))))]; exact gm0
  simp (maxSteps := 1000000) (disch := first | omega | (simp only [AM.DB, List.length_set, List.length_map]; first | done | omega)) only [AM.RB, Nat.reduceAdd, Nat.reduceMul, Nat.reduceEqDiff, reduceCtorEq, b82_RT2]
  refine AM.condV_split (fun hlt => ?_) (fun hlt => ?_)
  · have hil : i < l.length := by omega
    have fs := keptL_succ B f hil
    have fa := keptL_at (B := B) (f := f) hil
    obtain ⟨x, hx⟩ : ∃ x, l.getD i 0 = x := ⟨_, rfl⟩
    rw [hx] at fs fa
    have ox := om x
    cases ho : outB B f x with
    | true =>
      rw [ho, if_pos rfl] at ox
      rw [ho, if_pos rfl, List.append_nil] at fs
      have d1 : decide ((0 : Int) < 1) = true := rfl
      (first | (simp (maxSteps := 1000000) (disch := first | omega | (simp only [AM.DB, List.length_set, List.length_map]; first | done | omega)) only [AM.RB, Nat.reduceAdd, Nat.reduceMul, Nat.reduceEqDiff, reduceCtorEq, b82_RT2, r1.ia el_22, Rd.ldi r1 lk_3, Int.toNat_natCast, hx, gw21, gs1, AM.lookup_enc mp_98 gm1, ox, d1, AM.wrap_i64]) | skip)
      refine ⟨i + 1, by omega, ?_, by omega, hk, nx1, lw1, A, hA, by rw [fs]; exact hJ1⟩
      simp (maxSteps := 1000000) (disch := first | omega | (simp only [AM.DB, List.length_set, List.length_map]; first | done | omega)) only [AM.RB, Nat.reduceAdd, Nat.reduceMul, Nat.reduceEqDiff, reduceCtorEq, b82_RT2]
      first | rfl | skip
    | false =>
      rw [ho] at ox
      simp only [ho, Bool.false_eq_true, if_false] at ox fs
      have d1 : decide ((0 : Int) < 0) = false := rfl
      have at' : ((keptL B f l).map fun c => [Value.int .i64 c])[(keptL B f (l.take i)).length]? = some [.int .i64 x] := by rw [List.getElem?_map, fa ho]; rfl
      (first | (simp (maxSteps := 1000000) (disch := first | omega | (simp only [AM.DB, List.length_set, List.length_map]; first | done | omega)) only [AM.RB, Nat.reduceAdd, Nat.reduceMul, Nat.reduceEqDiff, reduceCtorEq, b82_RT2, r1.ia el_22, Rd.ldi r1 lk_3, Int.toNat_natCast, hx, gw21, gs1, AM.lookup_enc mp_98 gm1, ox, d1]) | skip)
      refine AM.CallW.mono (hy _ _ A h1 at' hJ1 hA nx1 lw1 hk) ?_
      rintro v h2 ⟨b, rfl, n2, l2, s2, q2⟩
      cases b with
      | true =>
        (first | (simp (maxSteps := 1000000) (disch := first | omega | (simp only [AM.DB, List.length_set, List.length_map]; first | done | omega)) only [AM.RB, Nat.reduceAdd, Nat.reduceMul, Nat.reduceEqDiff, reduceCtorEq, b82_RT2, AM.wrap_i64]) | skip)
        refine ⟨i + 1, by omega, ?_, by omega, fun id q => (s2 id (by have := hRlt id q; omega) (.inr q)).trans (hk id q), by omega, by omega, A, fun id q => ⟨(hA id q).1, by have := (hA id q).2; omega⟩, ?_⟩
        · simp (maxSteps := 1000000) (disch := first | omega | (simp only [AM.DB, List.length_set, List.length_map]; first | done | omega)) only [AM.RB, Nat.reduceAdd, Nat.reduceMul, Nat.reduceEqDiff, reduceCtorEq, b82_RT2]
          first | rfl | skip
        · rw [fs, List.length_append]; exact q2
      | false =>
        (first | (simp (maxSteps := 1000000) (disch := first | omega | (simp only [AM.DB, List.length_set, List.length_map]; first | done | omega)) only [AM.RB, Nat.reduceAdd, Nat.reduceMul, Nat.reduceEqDiff, reduceCtorEq, b82_RT2]) | skip)
        exact ⟨A, fun id q => ⟨(hA id q).1, by have := (hA id q).2; omega⟩, by omega, by omega, .inr q2⟩
  · obtain rfl : i = n := by omega
    rw [← hll, List.take_length] at hJ1
    (first | (simp (maxSteps := 1000000) (disch := first | omega | (simp only [AM.DB, List.length_set, List.length_map]; first | done | omega)) only [AM.RB, Nat.reduceAdd, Nat.reduceMul, Nat.reduceEqDiff, reduceCtorEq, b82_RT2]) | skip)
    exact ⟨A, hA, nx1, lw1, .inl (by rw [List.length_map]; exact hJ1)⟩
theorem may_w {h : AHeap} {p : Nat} {L : List (List UInt8)} {B : Nat → Prop} (m : Mk h p L B) (f : Fit L) (a b : Int) {Q : VQ} (hq : Q (.int .i64 (if freeP L.flatten a = true ∧ freeP L.flatten b = true then 0 else 2)) h) : W 55 [pv p, .int .i64 a, .int .i64 b] h Q := by
  obtain ⟨kv, tl, mm⟩ := m.mp
  refine AM.enter hp (fn := Tryd.f55) (rs := [.tmp 6]) (nt := 21) (by kernel_rfl) Tryd.func55 rfl rfl rfl (by kernel_rfl) ?_
  (first | (simp (maxSteps := 1000000) (disch := first | omega | (simp only [AM.DB, List.length_set, List.length_map]; first | done | omega)) only [AM.RB, Nat.reduceAdd, Nat.reduceMul, Nat.reduceEqDiff, reduceCtorEq, b55_RT2]) | skip)
  refine free_w mm f.rows a _ ?_
  cases ha : freeP L.flatten a with
  | false =>
    (first | (simp (maxSteps := 1000000) (disch := first | omega | (simp only [AM.DB, List.length_set, List.length_map]; first | done | omega)) only [AM.RB, Nat.reduceAdd, Nat.reduceMul, Nat.reduceEqDiff, reduceCtorEq, b55_RT2]) | skip)
    rw [ha] at hq
    simpa using hq
  | true =>
    (first | (simp (maxSteps := 1000000) (disch := first | omega | (simp only [AM.DB, List.length_set, List.length_map]; first | done | omega)) only [AM.RB, Nat.reduceAdd, Nat.reduceMul, Nat.reduceEqDiff, reduceCtorEq, b55_RT2]) | skip)
    refine free_w mm f.rows b _ ?_
    cases hb : freeP L.flatten b with
    | false =>
      (first | (simp (maxSteps := 1000000) (disch := first | omega | (simp only [AM.DB, List.length_set, List.length_map]; first | done | omega)) only [AM.RB, Nat.reduceAdd, Nat.reduceMul, Nat.reduceEqDiff, reduceCtorEq, b55_RT2]) | skip)
      rw [ha, hb] at hq
      simpa using hq
    | true =>
      (first | (simp (maxSteps := 1000000) (disch := first | omega | (simp only [AM.DB, List.length_set, List.length_map]; first | done | omega)) only [AM.RB, Nat.reduceAdd, Nat.reduceMul, Nat.reduceEqDiff, reduceCtorEq, b55_RT2]) | skip)
      rw [ha, hb] at hq
      simpa using hq
end Go.Proofs.YtgdcbjpookldoaaDoor

namespace Go.Proofs.YtgdcbjpookldoaaDoor
open Go.AM

/-! ### What is around, as the program looks for it -/
def stepA (st : List Int × List Int) (b : Int) : List Int × List Int := if b ∈ st.1 then st else (st.1 ++ [b], st.2 ++ [b])
def visA (l : List Int) (st : List Int × List Int) : List Int × List Int := l.foldl stepA st
theorem visA_succ {l : List Int} {i : Nat} (hi : i < l.length) (st : List Int × List Int) : visA (l.take (i + 1)) st = stepA (visA (l.take i) st) (l.getD i 0) := by
  unfold visA
  have e : l.getD i 0 = l[i] := by simp [List.getD, hi]
  rw [List.take_succ_eq_append_getElem hi, List.foldl_append, e]; rfl
def rndA (N : Int → List Int) (at' : List Int) (st : List Int × List Int) : List Int × List Int := at'.foldl (fun st a => visA (N a) st) st
theorem rndA_succ (N : Int → List Int) {l : List Int} {i : Nat} (hi : i < l.length) (st : List Int × List Int) : rndA N (l.take (i + 1)) st = visA (N (l.getD i 0)) (rndA N (l.take i) st) := by
  unfold rndA
  have e : l.getD i 0 = l[i] := by simp [List.getD, hi]
  rw [List.take_succ_eq_append_getElem hi, List.foldl_append, e]; rfl
/-- Keys, and those who came last, behind so many rounds. -/
def lvlA (N : Int → List Int) (r : Int) : Nat → List Int × List Int
  | 0 => ([r], [r])
  | k + 1 => rndA N (lvlA N r k).2 ((lvlA N r k).1, [])

/-- Everything reached by exactly fewer steps is a key; who came last stands at that distance. -/
theorem visA_mem {l : List Int} : ∀ {st : List Int × List Int} {x : Int}, (x ∈ (visA l st).1 ↔ x ∈ st.1 ∨ x ∈ l) ∧ (x ∈ (visA l st).2 ↔ x ∈ st.2 ∨ (x ∈ l ∧ x ∉ st.1)) := by
  induction l with
  | nil => intro st x; simp [visA]
  | cons b l ih =>
    intro st x
    have e : visA (b :: l) st = visA l (stepA st b) := rfl
    rw [e]
    obtain ⟨h1, h2⟩ := ih (st := stepA st b) (x := x)
    rw [h1, h2]
    unfold stepA
    by_cases hb : b ∈ st.1
    · rw [if_pos hb]
      constructor
      · constructor
        · rintro (h | h)
          · exact .inl h
          · exact .inr (List.mem_cons_of_mem _ h)
        · rintro (h | h)
          · exact .inl h
          · rcases List.mem_cons.1 h with rfl | h
            · exact .inl hb
            · exact .inr h
      · constructor
        · rintro (h | ⟨h, g⟩)
          · exact .inl h
          · exact .inr ⟨List.mem_cons_of_mem _ h, g⟩
        · rintro (h | ⟨h, g⟩)
          · exact .inl h
          · rcases List.mem_cons.1 h with rfl | h
            · exact absurd hb g
            · exact .inr ⟨h, g⟩
    · rw [if_neg hb]
      simp only [List.mem_append, List.mem_cons, List.not_mem_nil, or_false, not_or]
      constructor
      · constructor
        · rintro ((h | h) | h)
          · exact .inl h
          · exact .inr (.inl h)
          · exact .inr (.inr h)
        · rintro (h | h | h)
          · exact .inl (.inl h)
          · exact .inl (.inr h)
          · exact .inr h
      · constructor
        · rintro ((h | rfl) | ⟨h, g, g2⟩)
          · exact .inl h
          · exact .inr ⟨.inl rfl, hb⟩
          · exact .inr ⟨.inr h, g⟩
        · rintro (h | ⟨rfl | h, g⟩)
          · exact .inl (.inl h)
          · exact .inl (.inr rfl)
          · by_cases q : x = b
            · exact .inl (.inr q)
            · exact .inr ⟨h, g, q⟩
theorem rndA_mem (N : Int → List Int) {at' : List Int} : ∀ {st : List Int × List Int} {x : Int}, (x ∈ (rndA N at' st).1 ↔ x ∈ st.1 ∨ ∃ a ∈ at', x ∈ N a) ∧ (x ∈ (rndA N at' st).2 ↔ x ∈ st.2 ∨ ((∃ a ∈ at', x ∈ N a) ∧ x ∉ st.1)) := by
  induction at' with
  | nil => intro st x; simp [rndA]
  | cons a l ih =>
    intro st x
    have e : rndA N (a :: l) st = rndA N l (visA (N a) st) := rfl
    rw [e]
    obtain ⟨h1, h2⟩ := ih (st := visA (N a) st) (x := x)
    obtain ⟨v1, v2⟩ := visA_mem (l := N a) (st := st) (x := x)
    rw [h1, h2, v1, v2]
    constructor
    · constructor
      · rintro ((h | h) | ⟨b, hb, h⟩)
        · exact .inl h
        · exact .inr ⟨a, List.mem_cons_self .., h⟩
        · exact .inr ⟨b, List.mem_cons_of_mem _ hb, h⟩
      · rintro (h | ⟨b, hb, h⟩)
        · exact .inl (.inl h)
        · rcases List.mem_cons.1 hb with rfl | hb
          · exact .inl (.inr h)
          · exact .inr ⟨b, hb, h⟩
    · constructor
      · rintro ((h | ⟨h, g⟩) | ⟨⟨b, hb, h⟩, g⟩)
        · exact .inl h
        · exact .inr ⟨⟨a, List.mem_cons_self .., h⟩, g⟩
        · exact .inr ⟨⟨b, List.mem_cons_of_mem _ hb, h⟩, fun q => g (.inl q)⟩
      · rintro (h | ⟨⟨b, hb, h⟩, g⟩)
        · exact .inl (.inl h)
        · rcases List.mem_cons.1 hb with rfl | hb
          · exact .inl (.inr ⟨h, g⟩)
          · by_cases q : x ∈ N a
            · exact .inl (.inr ⟨q, g⟩)
            · exact .inr ⟨⟨b, hb, h⟩, fun t => t.elim g q⟩
/-- Behind k rounds: keys are those within k steps; the last ones those at k steps exactly. -/
theorem lvlA_spec (N : Int → List Int) (r : Int) : ∀ k x, (x ∈ (lvlA N r k).1 ↔ ∃ j, j ≤ k ∧ Wk N r j x) ∧ (x ∈ (lvlA N r k).2 ↔ isD N r x k)
  | 0, x => by
    have w0 : ∀ y, Wk N r 0 y ↔ y = r := fun y => by
      constructor
      · intro h
        generalize e : (0 : Nat) = z at h
        cases h with
        | zero => rfl
        | step => omega
      · rintro rfl; exact .zero
    constructor
    · rw [lvlA]; simp only [List.mem_singleton]
      exact ⟨fun h => ⟨0, Nat.le_refl _, (w0 x).2 h⟩, fun ⟨j, hj, w⟩ => (w0 x).1 (by rw [show j = 0 by omega] at w; exact w)⟩
    · rw [lvlA]; simp only [List.mem_singleton]
      exact ⟨fun h => ⟨(w0 x).2 h, fun e he => by omega⟩, fun h => (w0 x).1 h.1⟩
  | k + 1, x => by
    obtain ⟨m1, m2⟩ := rndA_mem N (at' := (lvlA N r k).2) (st := ((lvlA N r k).1, [])) (x := x)
    have ih1 := fun y => (lvlA_spec N r k y).1
    have ih2 := fun y => (lvlA_spec N r k y).2
    rw [lvlA, m1, m2]
    simp only [List.not_mem_nil, false_or]
    have st : (∃ a, a ∈ (lvlA N r k).2 ∧ x ∈ N a) → Wk N r (k + 1) x := fun ⟨a, ha, hx⟩ => .step ((ih2 a).1 ha).1 hx
    have ts : isD N r x (k + 1) → ∃ a, a ∈ (lvlA N r k).2 ∧ x ∈ N a := fun q => by
      obtain ⟨c, wc, hc⟩ := q.1.last
      exact ⟨c, (ih2 c).2 ⟨wc, fun e he w => q.2 (e + 1) (by omega) (.step w hc)⟩, hc⟩
    constructor
    · constructor
      · rintro (h | h)
        · obtain ⟨j, hj, w⟩ := (ih1 x).1 h
          exact ⟨j, by omega, w⟩
        · exact ⟨k + 1, Nat.le_refl _, st h⟩
      · rintro ⟨j, hj, w⟩
        by_cases q : ∃ i, i ≤ k ∧ Wk N r i x
        · exact .inl ((ih1 x).2 q)
        · obtain rfl : j = k + 1 := by
            by_cases t : j ≤ k
            · exact absurd ⟨j, t, w⟩ q
            · omega
          exact .inr (ts ⟨w, fun e he w' => q ⟨e, by omega, w'⟩⟩)
    · constructor
      · rintro ⟨h, g⟩
        exact ⟨st h, fun e he w => g ((ih1 x).2 ⟨e, by omega, w⟩)⟩
      · intro q
        exact ⟨ts q, fun h => by obtain ⟨j, hj, w⟩ := (ih1 x).1 h; exact q.2 j (by omega) w⟩
/-- When no one came last all is told. -/
theorem lvlA_end {N : Int → List Int} {r : Int} {k : Nat} (h : (lvlA N r k).2 = []) : ∀ m, k ≤ m → ∀ x, (x ∈ (lvlA N r k).1 ↔ ∃ j, j ≤ m ∧ Wk N r j x) := by
  intro m hm x
  rw [(lvlA_spec N r k x).1]
  constructor
  · rintro ⟨j, hj, w⟩; exact ⟨j, by omega, w⟩
  · rintro ⟨j, hj, w⟩
    obtain ⟨d, hd, q⟩ := w.least
    by_cases t : d ≤ k
    · exact ⟨d, t, q.1⟩
    · exfalso
      have key : ∀ e y, isD N r y (k + e) → False := by
        intro e
        induction e with
        | zero =>
          intro y q
          have := (lvlA_spec N r k y).2.2 q
          rw [h] at this; cases this
        | succ e ih =>
          intro y q
          obtain ⟨c, wc, hc⟩ := (show Wk N r (k + e + 1) y from q.1).last
          exact ih c ⟨wc, fun e' he w => q.2 (e' + 1) (by omega) (.step w hc)⟩
      exact key (d - k) x (by rw [show k + (d - k) = d by omega]; exact q)
end Go.Proofs.YtgdcbjpookldoaaDoor

namespace Go.Proofs.YtgdcbjpookldoaaDoor
open Go.AM
set_option maxRecDepth 8000
/-! ### The document's: who is left out, what is around -/
/-- What the program's neighbours are: those that are not left out. -/
abbrev nbA (L : List (List UInt8)) (B : List Int) (f : Int) (a : Int) : List Int := keptL B f (nextL L a)
abbrev nbB (L : List (List UInt8)) (B : List Int) (f : Int) (a : Int) : List Int := keptL B f (backL L a)
theorem nextL_in {L : List (List UInt8)} (f : Fit L) {b c : Int} (h : c ∈ nextL L b) : 0 ≤ c ∧ c < L.flatten.length := by
  have hc1 : decide (c ∈ nextL L b) = true := decide_eq_true h
  rw [edge_mem f] at hc1
  exact freeP_in (edgeL_facts hc1).2.2.2
end Go.Proofs.YtgdcbjpookldoaaDoor

namespace Go.Proofs.YtgdcbjpookldoaaDoor
open Go.AM
set_option maxRecDepth 8000
end Go.Proofs.YtgdcbjpookldoaaDoor

namespace Go.Proofs.YtgdcbjpookldoaaDoor
open Go.AM
set_option maxRecDepth 8000
def fillL (n i : Nat) : List Int := (List.range n).map fun j => if j < i then -1 else 0
theorem backL_iff {L : List (List UInt8)} (f : Fit L) {a b : Int} : a ∈ backL L b ↔ edgeL L a b = true := by
  constructor
  · intro h
    rw [← bck_eq f] at h
    unfold bck at h
    obtain ⟨n, hn, rfl⟩ := List.mem_map.1 h
    exact (List.mem_filter.1 hn).2
  · exact backL_mem f
theorem nextL_iff {L : List (List UInt8)} (f : Fit L) {a b : Int} : b ∈ nextL L a ↔ edgeL L a b = true := by
  rw [← edge_mem f, decide_eq_true_iff]
theorem backL_in {L : List (List UInt8)} (f : Fit L) {b c : Int} (h : c ∈ backL L b) : 0 ≤ c ∧ c < L.flatten.length :=
  (edgeL_facts ((backL_iff f).1 h)).1.1
theorem nbB_in {L : List (List UInt8)} (f : Fit L) (B : List Int) (fr : Int) : ∀ b : Int, 0 ≤ b ∧ b < L.flatten.length → ∀ c ∈ nbB L B fr b, 0 ≤ c ∧ c < L.flatten.length :=
  fun _ _ _ hc => backL_in f (List.mem_filter.1 hc).1

/-- The distances to an end of all cells; -1: none. -/
def dtoL (L : List (List UInt8)) (B : List Int) (fr to : Int) : List Int := if outB B fr to = true then List.replicate L.flatten.length (-1) else distL L.flatten.length (bfs (nbB L B fr) L.flatten.length to)
theorem dto_is {L : List (List UInt8)} (f : Fit L) {B : List Int} {fr to : Int} (ht : 0 ≤ to ∧ to < L.flatten.length) (ho : outB B fr to = false) : IsDist (nbB L B fr) L.flatten.length to (dtoL L B fr to) := by
  unfold dtoL
  rw [if_neg (by rw [ho]; simp)]
  exact (bfs_spec (nbB_in f B fr) ht.1 ht.2).1
theorem dto_out {L : List (List UInt8)} {B : List Int} {fr to : Int} (ho : outB B fr to = true) : dtoL L B fr to = List.replicate L.flatten.length (-1) := if_pos ho
end Go.Proofs.YtgdcbjpookldoaaDoor

namespace Go.Proofs.YtgdcbjpookldoaaDoor
open Go.AM
set_option maxRecDepth 8000
/-! ### The document's Looks -/
def lookP (L : List (List UInt8)) (dl : List Int) (fr : Int) (i : Nat) : Bool := decide (0 ≤ dl.getD i 0) && (decide (dl.getD fr.toNat 0 < 0) || decide (dl.getD i 0 + farL L fr i ≤ dl.getD fr.toNat 0))
def looksN (L : List (List UInt8)) (dl : List Int) (fr : Int) (k : Nat) : Nat := ((List.range k).filter (lookP L dl fr)).length
theorem looksN_le (L : List (List UInt8)) (dl : List Int) (fr : Int) (k : Nat) : looksN L dl fr k ≤ k := by
  unfold looksN
  exact Nat.le_trans (List.length_filter_le _ _) (by simp)
theorem far_bd {L : List (List UInt8)} (f : Fit L) (a b : Int) : -1 ≤ farL L a b ∧ farL L a b ≤ 4000 := by
  unfold farL
  split
  · rename_i h
    have hK := f.k1024
    have h1 := Nat.div_le_self a.toNat (L.getD 0 []).length
    have h2 := Nat.div_le_self b.toNat (L.getD 0 []).length
    have h3 := Nat.mod_le a.toNat (L.getD 0 []).length
    have h4 := Nat.mod_le b.toNat (L.getD 0 []).length
    unfold farN
    generalize a.toNat / (L.getD 0 []).length = x1 at *
    generalize b.toNat / (L.getD 0 []).length = x2 at *
    generalize a.toNat % (L.getD 0 []).length = x3 at *
    generalize b.toNat % (L.getD 0 []).length = x4 at *
    omega
  · omega
theorem dto_bd {L : List (List UInt8)} (f : Fit L) (B : List Int) {fr to : Int} (ht : 0 ≤ to ∧ to < L.flatten.length) {i : Nat} (hi : i < L.flatten.length) : -1 ≤ (dtoL L B fr to).getD i 0 ∧ (dtoL L B fr to).getD i 0 < 1024 := by
  have hK := f.k1024
  cases ho : outB B fr to with
  | true =>
    rw [dto_out ho]
    generalize L.flatten.length = N at *
    have : (List.replicate N (-1 : Int)).getD i 0 = -1 := by simp [List.getD, hi]
    omega
  | false =>
    have := (dto_is f ht ho).bound ht (nbB_in f B fr) (b := (i : Int)) ⟨by omega, by omega⟩
    rw [Int.toNat_natCast] at this
    omega

end Go.Proofs.YtgdcbjpookldoaaDoor

namespace Go.Proofs.YtgdcbjpookldoaaDoor
open Go.AM

/-! ### What a search finds, plain -/
theorem farN_tri (C a b c : Nat) : farN C a c ≤ farN C a b + farN C b c := by
  unfold farN
  generalize a / C = x1
  generalize b / C = x2
  generalize c / C = x3
  generalize a % C = y1
  generalize b % C = y2
  generalize c % C = y3
  omega
theorem farN_sym (C a b : Nat) : farN C a b = farN C b a := by
  unfold farN
  generalize a / C = x1
  generalize b / C = x2
  generalize a % C = y1
  generalize b % C = y2
  omega
theorem farN_self (C a : Nat) : farN C a a = 0 := by unfold farN; omega
theorem far_step {L : List (List UInt8)} {fr x y : Int} (e : edgeL L y x = true) : farL L fr x ≤ farL L fr y + 1 ∧ farL L fr y ≤ farL L fr x + 1 := by
  obtain ⟨⟨hy, hx⟩, h1, _⟩ := edgeL_facts e
  unfold farL at h1 ⊢
  rw [if_pos ⟨hy, hx⟩] at h1
  by_cases h : 0 ≤ fr ∧ fr < L.flatten.length
  · rw [if_pos ⟨h, hx⟩, if_pos ⟨h, hy⟩]
    have t1 := farN_tri (L.getD 0 []).length fr.toNat y.toNat x.toNat
    have t2 := farN_tri (L.getD 0 []).length fr.toNat x.toNat y.toNat
    have t3 := farN_sym (L.getD 0 []).length x.toNat y.toNat
    omega
  · rw [if_neg (fun q => h q.1), if_neg (fun q => h q.1)]; omega
theorem far_self {L : List (List UInt8)} {a : Int} (h : 0 ≤ a ∧ a < L.flatten.length) : farL L a a = 0 := by
  unfold farL
  rw [if_pos ⟨h, h⟩, farN_self]
theorem far_nb {L : List (List UInt8)} (f : Fit L) {B : List Int} {fr x y : Int} (h : y ∈ nbB L B fr x) : farL L fr x ≤ farL L fr y + 1 ∧ farL L fr y ≤ farL L fr x + 1 :=
  far_step ((backL_iff f).1 (List.mem_filter.1 h).1)
/-- Who is closed, with which distance, when a search has ended. -/
def CdL (L : List (List UInt8)) (B : List Int) (fr to : Int) (x : Int) : Option Int := if (0 ≤ x ∧ x < L.flatten.length) ∧ lookP L (dtoL L B fr to) fr x.toNat = true then some ((dtoL L B fr to).getD x.toNat 0) else none
theorem looked_dto {L : List (List UInt8)} (f : Fit L) {B : List Int} {fr to : Int} (hf : 0 ≤ fr ∧ fr < L.flatten.length) (ht : 0 ≤ to ∧ to < L.flatten.length) (ho : outB B fr to = false) {C : Int → Option Int} {far : Int} (x : Looked (nbB L B fr) to fr (farL L fr) C far) :
    far = (dtoL L B fr to).getD fr.toNat 0 ∧ C = CdL L B fr to := by
  have D := dto_is f ht ho (fr := fr)
  have e1 : far = (dtoL L B fr to).getD fr.toNat 0 := by
    by_cases hn : far < 0
    · obtain ⟨a, b⟩ := x.neg hn
      by_cases q : 0 ≤ (dtoL L B fr to).getD fr.toNat 0
      · exact absurd (D.yes fr hf.1 hf.2 q).1 (b _)
      · rw [(D.no fr hf.1 hf.2 (by omega)).1]; exact a
    · have d := x.pos (by omega)
      by_cases q : 0 ≤ (dtoL L B fr to).getD fr.toNat 0
      · have := d.uniq (D.yes fr hf.1 hf.2 q); omega
      · exact absurd d.1 ((D.no fr hf.1 hf.2 (by omega)).2 _)
  refine ⟨e1, funext fun y => ?_⟩
  unfold CdL lookP
  cases hC : C y with
  | some d =>
    obtain ⟨d0, dd, dl⟩ := x.mem y d hC
    have hy : 0 ≤ y ∧ y < (L.flatten.length : Int) := Wk.ok (ok := fun z => 0 ≤ z ∧ z < (L.flatten.length : Int)) ht (nbB_in f B fr) dd.1
    have q : 0 ≤ (dtoL L B fr to).getD y.toNat 0 := by
      by_cases q : 0 ≤ (dtoL L B fr to).getD y.toNat 0
      · exact q
      · exact absurd dd.1 ((D.no y hy.1 hy.2 (by omega)).2 _)
    have e2 := dd.uniq (D.yes y hy.1 hy.2 q)
    have e3 : d = (dtoL L B fr to).getD y.toNat 0 := by omega
    have e4 : ((y.toNat : Nat) : Int) = y := by omega
    rw [if_pos, e3]
    refine ⟨hy, ?_⟩
    rw [Bool.and_eq_true, Bool.or_eq_true, decide_eq_true_iff, decide_eq_true_iff, decide_eq_true_iff, e4, ← e1, ← e3]
    refine ⟨d0, ?_⟩
    by_cases t : far < 0
    · exact .inl t
    · exact .inr (dl (by omega))
  | none =>
    rw [if_neg]
    rintro ⟨hy, q⟩
    have e4 : ((y.toNat : Nat) : Int) = y := by omega
    rw [Bool.and_eq_true, Bool.or_eq_true, decide_eq_true_iff, decide_eq_true_iff, decide_eq_true_iff, e4, ← e1] at q
    have dd := D.yes y hy.1 hy.2 q.1
    have := x.all y _ dd (fun h => by omega)
    rw [hC] at this; cases this
theorem out_dto {L : List (List UInt8)} {B : List Int} {fr to : Int} (hf : 0 ≤ fr ∧ fr < L.flatten.length) (ho : outB B fr to = true) : (dtoL L B fr to).getD fr.toNat 0 = -1 ∧ CdL L B fr to = fun _ => none := by
  have e := dto_out (L := L) ho
  have g : ∀ i, i < L.flatten.length → (dtoL L B fr to).getD i 0 = -1 := fun i hi => by
    rw [e]
    generalize L.flatten.length = N at *
    simp [List.getD, hi]
  refine ⟨g _ (by omega), funext fun y => ?_⟩
  unfold CdL lookP
  rw [if_neg]
  rintro ⟨hy, q⟩
  rw [g _ (by omega)] at q
  simp at q
theorem cl_len {L : List (List UInt8)} {B : List Int} {fr to : Int} {Cl : List Int} (hn : Cl.Nodup) (h : ∀ x, x ∈ Cl ↔ CdL L B fr to x ≠ none) : Cl.length = looksN L (dtoL L B fr to) fr L.flatten.length := by
  have p : Cl.Perm (((List.range L.flatten.length).filter (lookP L (dtoL L B fr to) fr)).map Int.ofNat) := by
    refine (List.perm_ext_iff_of_nodup hn ?_).2 fun x => ?_
    · refine List.Pairwise.map _ (fun a b (hab : a ≠ b) => ?_) (List.filter_sublist.nodup List.nodup_range)
      intro q
      exact hab (Int.ofNat.inj q)
    · rw [h x]
      unfold CdL
      constructor
      · intro q
        split at q
        · rename_i c
          exact List.mem_map.2 ⟨x.toNat, List.mem_filter.2 ⟨List.mem_range.2 (by omega), c.2⟩, by show ((x.toNat : Nat) : Int) = x; omega⟩
        · exact absurd rfl q
      · intro q
        obtain ⟨n, hn, rfl⟩ := List.mem_map.1 q
        obtain ⟨h1, h2⟩ := List.mem_filter.1 hn
        have := List.mem_range.1 h1
        rw [if_pos ⟨⟨Int.natCast_nonneg n, by show (n : Int) < _; omega⟩, by simpa using h2⟩]
        simp
  rw [p.length_eq, List.length_map]; rfl
theorem mset_len {l : List (Int × Value)} {x : Int} {v : Value} (h : mgetL l x = none) : (msetL l x v).length = l.length + 1 := by
  induction l with
  | nil => rfl
  | cons p l ih =>
    obtain ⟨k, w⟩ := p
    unfold mgetL at h
    unfold msetL
    by_cases e : x = k
    · rw [if_pos e] at h; cases h
    · rw [if_neg e] at h ⊢
      rw [List.length_cons, List.length_cons, ih h]
theorem map_upd {kl : List (Int × Value)} {K : Int → Option Int} (h : ∀ x, mgetL kl x = (K x).map (.int .i64)) (y v : Int) : ∀ x, mgetL (msetL kl y (.int .i64 v)) x = (AM.upd K y v x).map (.int .i64) := by
  intro x
  rw [AM.mget_set, h x]
  unfold AM.upd
  split <;> rfl
end Go.Proofs.YtgdcbjpookldoaaDoor

namespace Go.Proofs.YtgdcbjpookldoaaDoor
open Go.AM
set_option maxRecDepth 8000
theorem b20_RT4 : type_of% (And.intro (@AM.alK_some) (And.intro (@al_22) (And.intro (@al_3) (And.intro (@al_96) (And.intro (@AM.bin_add) (And.intro (@AM.bin_gtr) (And.intro (@AM.bin_leq) (And.intro (@AM.bin_lss) (And.intro (@AM.bin_neq) (And.intro (AM.bsW_int bs_22) (And.intro (AM.bsW_nil bs_22) (And.intro (AM.bsW_slice bs_22) (And.intro (AM.bsW_string bs_22) (And.intro (@AM.ex_tuple) (And.intro (@AM.fa_ptr) (And.intro (@fd_100_2) (And.intro (@AM.iaO_ok) (And.intro (AM.ia_slice el_22) (And.intro (@AM.ldO_agg) (And.intro (@AM.ldO_one) (And.intro (@AM.ld_ptr) (And.intro (AM.len_slice ul_22) (And.intro (@lk_22) (And.intro (@lk_3) (And.intro (@lk_96) (And.intro (@lk_98) (And.intro (@AM.op_alloc) (And.intro (@AM.op_append) (And.intro (@AM.op_binOp) (And.intro (@AM.op_buildSlice) (And.intro (@AM.op_call) (And.intro (@AM.op_extract) (And.intro (@AM.op_fieldAddr) (And.intro (@AM.op_indexAddr) (And.intro (@AM.op_len) (And.intro (@AM.op_load) (And.intro (@AM.op_lookup) (And.intro (@AM.op_mapUpdate) (And.intro (@AM.op_nilCheck) (And.intro (@AM.op_store) (And.intro (@AM.op_unOp) (And.intro (@AM.stO_agg) (And.intro (@AM.stO_bool) (And.intro (@AM.stO_int) (And.intro (@AM.stO_map) (And.intro (@AM.stO_pointer) (And.intro (@AM.stO_slice) (And.intro (@AM.stO_string) (And.intro (@AM.st_ptr) (And.intro (@sz_22) (And.intro (@sz_3) (And.intro (@sz_96) (And.intro (@AM.un_neg) (@AM.un_not)))))))))))))))))))))))))))))))))))))))))))))))))))))) := And.intro (@AM.alK_some) (And.intro (@al_22) (And.intro (@al_3) (And.intro (@al_96) (And.intro (@AM.bin_add) (And.intro (@AM.bin_gtr) (And.intro (@AM.bin_leq) (And.intro (@AM.bin_lss) (And.intro (@AM.bin_neq) (And.intro (AM.bsW_int bs_22) (And.intro (AM.bsW_nil bs_22) (And.intro (AM.bsW_slice bs_22) (And.intro (AM.bsW_string bs_22) (And.intro (@AM.ex_tuple) (And.intro (@AM.fa_ptr) (And.intro (@fd_100_2) (And.intro (@AM.iaO_ok) (And.intro (AM.ia_slice el_22) (And.intro (@AM.ldO_agg) (And.intro (@AM.ldO_one) (And.intro (@AM.ld_ptr) (And.intro (AM.len_slice ul_22) (And.intro (@lk_22) (And.intro (@lk_3) (And.intro (@lk_96) (And.intro (@lk_98) (And.intro (@AM.op_alloc) (And.intro (@AM.op_append) (And.intro (@AM.op_binOp) (And.intro (@AM.op_buildSlice) (And.intro (@AM.op_call) (And.intro (@AM.op_extract) (And.intro (@AM.op_fieldAddr) (And.intro (@AM.op_indexAddr) (And.intro (@AM.op_len) (And.intro (@AM.op_load) (And.intro (@AM.op_lookup) (And.intro (@AM.op_mapUpdate) (And.intro (@AM.op_nilCheck) (And.intro (@AM.op_store) (And.intro (@AM.op_unOp) (And.intro (@AM.stO_agg) (And.intro (@AM.stO_bool) (And.intro (@AM.stO_int) (And.intro (@AM.stO_map) (And.intro (@AM.stO_pointer) (And.intro (@AM.stO_slice) (And.intro (@AM.stO_string) (And.intro (@AM.st_ptr) (And.intro (@sz_22) (And.intro (@sz_3) (And.intro (@sz_96) (And.intro (@AM.un_neg) (@AM.un_not)))))))))))))))))))))))))))))))))))))))))))))))))))))


/-- A map of numbers that has these keys. -/
def keysM (dl : List (Int × Value)) (K : List Int) : Prop := ∀ x, (mgetL dl x).isSome = decide (x ∈ K)
theorem keysM.set {dl : List (Int × Value)} {K : List Int} (h : keysM dl K) (b : Int) (v : Value) (hb : b ∉ K) : keysM (msetL dl b v) (K ++ [b]) := by
  intro x
  rw [AM.mget_set]
  by_cases e : x = b
  · subst e; simp
  · rw [if_neg e, h x]; simp [e]

theorem allP_in {K : List UInt8} {x : Int} : ∀ {n : Nat}, x ∈ allP K n ↔ (0 ≤ x ∧ x < n) ∧ freeP K x = true
  | 0 => ⟨fun h => (by cases h), fun ⟨h, _⟩ => by omega⟩
  | n + 1 => by
    rw [allP, List.mem_append, allP_in (n := n)]
    by_cases h : freeP K n = true
    · rw [if_pos h, List.mem_singleton]
      constructor
      · rintro (⟨h1, h2⟩ | rfl)
        · exact ⟨by omega, h2⟩
        · exact ⟨by omega, h⟩
      · rintro ⟨h1, h2⟩
        by_cases e : x = n
        · exact .inr e
        · exact .inl ⟨by omega, h2⟩
    · rw [if_neg h]
      constructor
      · rintro (⟨h1, h2⟩ | h)
        · exact ⟨by omega, h2⟩
        · cases h
      · rintro ⟨h1, h2⟩
        by_cases e : x = n
        · subst e; exact absurd h2 h
        · exact .inl ⟨by omega, h2⟩
theorem allP_srt (K : List UInt8) : ∀ n, (allP K n).Pairwise (fun a b => a < b)
  | 0 => List.Pairwise.nil
  | n + 1 => by
    rw [allP]
    refine List.pairwise_append.2 ⟨allP_srt K n, ?_, fun a ha b hb => ?_⟩
    · split
      · exact List.pairwise_singleton _ _
      · exact List.Pairwise.nil
    · have h1 := (allP_in.1 ha).1
      split at hb
      · rw [List.mem_singleton.1 hb]; omega
      · cases hb
/-- Those of a list that are keys. -/
def inK (K l : List Int) : List Int := l.filter fun c => decide (c ∈ K)
theorem inK_succ (K : List Int) {l : List Int} {i : Nat} (hi : i < l.length) : inK K (l.take (i + 1)) = inK K (l.take i) ++ if l.getD i 0 ∈ K then [l.getD i 0] else [] := by
  unfold inK
  have e : l.getD i 0 = l[i] := by simp [List.getD, hi]
  rw [List.take_succ_eq_append_getElem hi, List.filter_append, e]
  by_cases h : l[i] ∈ K <;> simp [h]
/-- What the loop over rounds keeps: the search's objects (its box c9, the struct sp, the maps o1, o2), the round's box c11, who came last. -/
structure ArI (h h' : AHeap) (p sp c9 o1 o2 c11 : Nat) (L : List (List UInt8)) (B0 : Nat → Prop) (ml : List (Int × Value)) (K : List Int) (atv : Value) (at' : List Int) (r : Int) (C : Nat → Prop) : Prop where
  g9 : h'.get c9 = some (.cells [pv sp] 96 false)
  gs : h'.get sp = some (.cells [pv p, .map (some o1), .map (some o2)] 100 false)
  gm : h'.get o1 = some (.map (encM ml))
  gd : ∃ dl, h'.get o2 = some (.map (encM dl)) ∧ keysM dl K
  g11 : h'.get c11 = some (.cells [.int .i64 r] 3 false)
  o : Ow h' 3 1 atv at'.length (at'.map (.int .i64))
  new : ∀ id, idOf atv id → h.next + 4 ≤ id
  c : h.next + 4 ≤ c11
  m : Mk h' p L C
  cB : ∀ id, B0 id → C id
  cO : C c9 ∧ C sp ∧ C o1 ∧ C o2 ∧ C c11
  cA : ∀ id, idOf atv id → C id
  fr : Fr (fun id => id = p) h h'

theorem ArI.step {h h1 h2 : AHeap} {p sp c9 o1 o2 c11 : Nat} {L : List (List UInt8)} {B0 T : Nat → Prop} {ml : List (Int × Value)} {K K' : List Int} {atv : Value} {at' : List Int} {r : Int} {C C' : Nat → Prop} (x : ArI h h1 p sp c9 o1 o2 c11 L B0 ml K atv at' r C) (fr : Fr T h1 h2)
    (h9 : ¬ T c9) (hs : ¬ T sp) (ho : ¬ T o1) (h11 : ¬ T c11) (ha : ∀ id, idOf atv id → ¬ T id) (gd : ∃ dl, h2.get o2 = some (.map (encM dl)) ∧ keysM dl K') (m : Mk h2 p L C') (hC : ∀ id, C id → C' id) (frp : Fr (fun id => id = p) h h2) : ArI h h2 p sp c9 o1 o2 c11 L B0 ml K' atv at' r C' :=
  ⟨fr.get x.g9 h9, fr.get x.gs hs, fr.get x.gm ho, gd, fr.get x.g11 h11, x.o.fr fr ha, x.new, x.c, m, fun id q => hC id (x.cB id q), ⟨hC _ x.cO.1, hC _ x.cO.2.1, hC _ x.cO.2.2.1, hC _ x.cO.2.2.2.1, hC _ x.cO.2.2.2.2⟩, fun id q => hC id (x.cA id q), frp⟩

theorem Fr.ext2 {T : Nat → Prop} {h h1 h2 : AHeap} (fr : Fr T h h1) (hB : ∀ id, id < h.next → h2.get id = h1.get id) (hn : h1.next ≤ h2.next) (hl : h2.low = h1.low) : Fr T h h2 :=
  ⟨Nat.le_trans fr.next hn, by rw [hl]; exact fr.low, fun id h3 h4 => by rw [hB id h3]; exact fr.old id h3 h4⟩

theorem Mk.frC {h h' : AHeap} {p : Nat} {L : List (List UInt8)} {B C T : Nat → Prop} (m : Mk h p L B) (fr : Fr T h h') (hT : ∀ id, T id → B id) (hC : ∀ id, C id → B id ∨ (h.next ≤ id ∧ id < h'.next)) : Mk h' p L C := by
  obtain ⟨⟨S, m, hB⟩, hb⟩ := m
  have hn := fr.next
  refine ⟨⟨S, m.fr fr fun id q1 q2 => hB id (hT id q2) q1, fun id q1 q2 => ?_⟩, fun id q => ?_⟩
  · rcases hC id q1 with q | q
    · exact hB id q q2
    · have := m.lt q2; omega
  · rcases hC id q with q | q
    · exact Nat.lt_of_lt_of_le (hb id q) hn
    · exact q.2
/-- Keys stand once each, and those who came last are keys. -/
def goodA (st : List Int × List Int) : Prop := st.1.Nodup ∧ st.2.length ≤ st.1.length
theorem stepA_good {st : List Int × List Int} (g : goodA st) (b : Int) : goodA (stepA st b) := by
  unfold stepA
  split
  · exact g
  · rename_i h
    refine ⟨?_, by have := g.2; simp only [List.length_append, List.length_cons, List.length_nil]; omega⟩
    rw [List.nodup_append]
    refine ⟨g.1, by simp, ?_⟩
    intro a ha c hc
    rw [List.mem_singleton.1 hc]
    rintro rfl
    exact h ha
theorem visA_good {l : List Int} : ∀ {st : List Int × List Int}, goodA st → goodA (visA l st) := by
  induction l with
  | nil => intro st g; exact g
  | cons b l ih => intro st g; exact ih (stepA_good g b)
theorem rndA_good (N : Int → List Int) {l : List Int} : ∀ {st : List Int × List Int}, goodA st → goodA (rndA N l st) := by
  induction l with
  | nil => intro st g; exact g
  | cons b l ih => intro st g; exact ih (visA_good g)
theorem lvlA_good (N : Int → List Int) (r : Int) : ∀ k, goodA (lvlA N r k)
  | 0 => ⟨List.nodup_cons.2 ⟨fun h => (by cases h), List.nodup_nil⟩, Nat.le_refl _⟩
  | k + 1 => rndA_good N ⟨(lvlA_good N r k).1, Nat.zero_le _⟩

set_option maxHeartbeats 8000000 in
theorem around_w {h : AHeap} {p n : Nat} {L : List (List UInt8)} {B0 : Nat → Prop} (m : Mk h p L B0) (f : Fit L) (hw : h.get GW = some (.cells waysC 123 false)) (hgl : GW < h.low) (hgp : ¬ GW = p) (hl : h.low ≤ h.next) (cell far : Int) {s : Value} {B : List Int} (hs : Rd h 3 1 s n (B.map (.int .i64))) (hB0 : ∀ id, idOf s id → B0 id) (hn : n ≤ 4000000) {Q : VQ}
    (hno : freeP L.flatten cell = false ∨ far < 0 → Q (.slice none 0 0) h)
    (hok : freeP L.flatten cell = true → 0 ≤ far → ∀ v (l : List Int) h', Ow h' 3 1 v l.length (l.map (.int .i64)) → l.Pairwise (fun a b => a < b) → (∀ x, x ∈ l ↔ freeP L.flatten x = true ∧ ∃ j : Nat, (j : Int) ≤ far ∧ Wk (nbA L B cell) cell j x) → Mk h' p L B0 → Fr (fun id => id = p) h h' → Q v h') : W 20 [pv p, .int .i64 cell, s, .int .i64 far] h Q := by
  obtain ⟨sa, sc, rfl⟩ := hs.form
  have d20 : decide ((2 : Int) = 0) = false := rfl
  have d00 : decide ((0 : Int) = 0) = true := rfl
  refine AM.enter hp (fn := Tryd.f20) (rs := [.tmp 8]) (nt := 112) (by kernel_rfl) Tryd.func20 rfl rfl rfl (by kernel_rfl) ?_
  (repeat' (first | (simp (maxSteps := 1000000) (disch := first | omega | (simp only [AM.DB, List.length_set, List.length_map]; first | done | omega)) only [AM.RB, Nat.reduceAdd, Nat.reduceMul, Nat.reduceEqDiff, reduceCtorEq, b20_RT4]) | refine AM.drawW_loose (id := 13) hp (by kernel_rfl) (by kernel_rfl) ?_ | refine AM.drawW_fine (id := 17) hp (by kernel_rfl) (by kernel_rfl) (by kernel_rfl) ?_ | refine AM.opW_tied (by kernel_rfl) ?_ | refine AM.opW_untied (by kernel_rfl) ?_))
  refine may_w m f cell cell ?_
  cases hf : freeP L.flatten cell with
  | false =>
    simp only [Bool.false_eq_true, false_and, if_false]
    (repeat' (first | (simp (maxSteps := 1000000) (disch := first | omega | (simp only [AM.DB, List.length_set, List.length_map]; first | done | omega)) only [AM.RB, Nat.reduceAdd, Nat.reduceMul, Nat.reduceEqDiff, reduceCtorEq, b20_RT4, d20]) | refine AM.drawW_loose (id := 13) hp (by kernel_rfl) (by kernel_rfl) ?_ | refine AM.drawW_fine (id := 17) hp (by kernel_rfl) (by kernel_rfl) (by kernel_rfl) ?_ | refine AM.opW_tied (by kernel_rfl) ?_ | refine AM.opW_untied (by kernel_rfl) ?_))
    exact hno (.inl hf)
  | true =>
  simp only [and_self, if_true]
  by_cases hfar : far < 0
  · (repeat' (first | (simp (maxSteps := 1000000) (disch := first | omega | (simp only [AM.DB, List.length_set, List.length_map]; first | done | omega)) only [AM.RB, Nat.reduceAdd, Nat.reduceMul, Nat.reduceEqDiff, reduceCtorEq, b20_RT4, d00, decide_eq_true hfar]) | refine AM.drawW_loose (id := 13) hp (by kernel_rfl) (by kernel_rfl) ?_ | refine AM.drawW_fine (id := 17) hp (by kernel_rfl) (by kernel_rfl) (by kernel_rfl) ?_ | refine AM.opW_tied (by kernel_rfl) ?_ | refine AM.opW_untied (by kernel_rfl) ?_))
    exact hno (.inr hfar)
  (repeat' (first | (simp (maxSteps := 1000000) (disch := first | omega | (simp only [AM.DB, List.length_set, List.length_map]; first | done | omega)) only [AM.RB, Nat.reduceAdd, Nat.reduceMul, Nat.reduceEqDiff, reduceCtorEq, b20_RT4, d00, decide_eq_false hfar]) | refine AM.drawW_loose (id := 13) hp (by kernel_rfl) (by kernel_rfl) ?_ | refine AM.drawW_fine (id := 17) hp (by kernel_rfl) (by kernel_rfl) (by kernel_rfl) ?_ | refine AM.opW_tied (by kernel_rfl) ?_ | refine AM.opW_untied (by kernel_rfl) ?_))
  refine without_w hs hn hl cell fun h1 ml gs1 gm1 om gd1 fr1 n1 => ?_
  have l1 := fr1.low
  have hl1 := fr1.hl hl
  (repeat' (first | (simp (maxSteps := 1000000) (disch := first | omega | (simp only [AM.DB, List.length_set, List.length_map]; first | done | omega)) only [AM.RB, Nat.reduceAdd, Nat.reduceMul, Nat.reduceEqDiff, reduceCtorEq, b20_RT4, gs1]) | refine AM.drawW_loose (id := 13) hp (by kernel_rfl) (by kernel_rfl) ?_ | refine AM.drawW_fine (id := 17) hp (by kernel_rfl) (by kernel_rfl) (by kernel_rfl) ?_ | refine AM.opW_tied (by kernel_rfl) ?_ | refine AM.opW_untied (by kernel_rfl) ?_))
  generalize hE_ : AHeap.put (AHeap.alloc h1 _) _ _ = h2; obtain ⟨g2, fr2, n2, l2⟩ := AM.box_get hE_ (by omega); clear hE_
  have gs2 := gs1.fr0 fr2
  have gm2 := gm1.fr0 fr2
  have gd2 : h2.get (h.next + 1) = some (.map (encM [])) := gd1.fr0 fr2
  have lm2 : h2.low ≤ h.next + 1 := by omega
  (repeat' (first | (simp (maxSteps := 1000000) (disch := first | omega | (simp only [AM.DB, List.length_set, List.length_map]; first | done | omega)) only [AM.RB, Nat.reduceAdd, Nat.reduceMul, Nat.reduceEqDiff, reduceCtorEq, b20_RT4, g2, gs2, AM.update_enc mp_98 gd2 lm2]) | refine AM.drawW_loose (id := 13) hp (by kernel_rfl) (by kernel_rfl) ?_ | refine AM.drawW_fine (id := 17) hp (by kernel_rfl) (by kernel_rfl) (by kernel_rfl) ?_ | refine AM.opW_tied (by kernel_rfl) ?_ | refine AM.opW_untied (by kernel_rfl) ?_))
  generalize hE_ : AHeap.put h2 _ _ = h3; obtain ⟨g3, fr3, n3, l3⟩ := AM.put_get hE_ (by omega); clear hE_
  (repeat' (first | (simp (maxSteps := 1000000) (disch := first | omega | (simp only [AM.DB, List.length_set, List.length_map]; first | done | omega)) only [AM.RB, Nat.reduceAdd, Nat.reduceMul, Nat.reduceEqDiff, reduceCtorEq, b20_RT4]) | refine AM.drawW_loose (id := 13) hp (by kernel_rfl) (by kernel_rfl) ?_ | refine AM.drawW_fine (id := 17) hp (by kernel_rfl) (by kernel_rfl) (by kernel_rfl) ?_ | refine AM.opW_tied (by kernel_rfl) ?_ | refine AM.opW_untied (by kernel_rfl) ?_))
  generalize hE_ : AHeap.alloc h3 _ = h4; obtain ⟨g4, fr4, n4, l4⟩ := AM.new_get hE_; clear hE_
  generalize hE_ : AHeap.put (AHeap.alloc h4 _) _ _ = h5; obtain ⟨g5, fr5, n5, l5⟩ := AM.box_get hE_ (by omega); clear hE_
  have fr05 : Fr none' h h5 := (((fr1.trans fr2).fresh fr3 (fun id q => by omega)).trans fr4).trans fr5
  have lmp := m.lt
  have i5 : ArI h h5 p (h.next + 2) h1.next h.next (h.next + 1) (h2.next + 1) L B0 ml [cell] (.slice (some ⟨h2.next, 0, none⟩) 1 1) [cell] 1 (fun id => B0 id ∨ (h.next ≤ id ∧ id < h5.next)) := by
    refine ⟨?_, ?_, ?_, ⟨_, (g3.fr0 fr4).fr0 fr5, ?_⟩, g5, ?_, fun id q => ?_, by omega, ?_, fun id q => .inl q, ⟨.inr (by omega), .inr (by omega), .inr (by omega), .inr (by omega), .inr (by omega)⟩, fun id q => .inr (by have q : id = h2.next := q; omega), fr05.weak⟩
    · exact ((fr3.get g2 (fun q => by omega)).fr0 fr4).fr0 fr5
    · exact ((fr3.get gs2 (fun q => by omega)).fr0 fr4).fr0 fr5
    · exact ((fr3.get gm2 (fun q => by omega)).fr0 fr4).fr0 fr5
    · exact (keysM.set (dl := []) (K := []) (fun x => by simp [mgetL]) cell _ (by simp))
    · exact (show Ow h4 3 1 (.slice (some ⟨h2.next, 0, none⟩) 1 1) 1 ([cell].map (.int .i64)) from by rw [← n3]; exact AM.Ow.whole (n := 1) g4 rfl (by omega)).fr0 fr5
    · have q : id = h2.next := q
      omega
    · exact m.more fr05 fun id q => q
  have hl5 := fr05.hl hl
  have hNd : ∀ b : Int, 0 ≤ b ∧ b < L.flatten.length → ∀ c ∈ nbA L B cell b, 0 ≤ c ∧ c < L.flatten.length := by
    intro b hb c hc
    have hc1 : decide (c ∈ nextL L b) = true := decide_eq_true (List.mem_filter.1 hc).1
    rw [edge_mem f] at hc1
    have := freeP_in (edgeL_facts hc1).2.2.2
    omega
  have hr : 0 ≤ cell ∧ cell < L.flatten.length := freeP_in hf
  have hK := f.k1024
  refine AM.loop_w hp 112 (fun z : Nat × Value × Nat => [(0, pv p), (3, .int .i64 far), (9, pv h1.next), (10, z.2.1), (11, pv z.2.2)])
    (fun z h' => z.1 ≤ L.flatten.length ∧ (z.1 : Int) ≤ far ∧ ∃ C, ArI h h' p (h.next + 2) h1.next h.next (h.next + 1) z.2.2 L B0 ml (lvlA (nbA L B cell) cell z.1).1 z.2.1 (lvlA (nbA L B cell) cell z.1).2 (z.1 + 1) C) (fun z => L.flatten.length + 1 - z.1) (by kernel_rfl) (0, .slice (some ⟨h2.next, 0, none⟩) 1 1, h2.next + 1) ?_ ?_ ?_
  · simp (maxSteps := 1000000) (disch := first | omega | (simp only [AM.DB, List.length_set, List.length_map]; first | done | omega)) only [AM.RB, Nat.reduceAdd, Nat.reduceMul, Nat.reduceEqDiff, reduceCtorEq, b20_RT4]
    first | rfl | skip
  · exact ⟨Nat.zero_le _, by simp only; omega, _, i5⟩
  rintro ⟨k, atv, c11⟩ h6 ρ6 ⟨hk, hkf, C6, i6⟩
  simp only at hk hkf i6 ⊢
  have hl6 := i6.fr.hl hl
  obtain ⟨aa, ac, rfl⟩ := i6.o.form
  have g11 := i6.g11
  have sp6 := fun x => lvlA_spec (nbA L B cell) cell k x
  (repeat' (first | (simp (maxSteps := 1000000) (disch := first | omega | (simp only [AM.DB, List.length_set, List.length_map]; first | done | omega)) only [AM.RB, Nat.reduceAdd, Nat.reduceMul, Nat.reduceEqDiff, reduceCtorEq, b20_RT4, g11]) | refine AM.drawW_loose (id := 13) hp (by kernel_rfl) (by kernel_rfl) ?_ | refine AM.drawW_fine (id := 17) hp (by kernel_rfl) (by kernel_rfl) (by kernel_rfl) ?_ | refine AM.opW_tied (by kernel_rfl) ?_ | refine AM.opW_untied (by kernel_rfl) ?_))
  have alt : (decide ((k : Int) + 1 ≤ far) = true ∧ decide (0 < (((lvlA (nbA L B cell) cell k).2.length : Nat) : Int)) = true) ∨ (((decide ((k : Int) + 1 ≤ far) = false) ∨ (decide ((k : Int) + 1 ≤ far) = true ∧ decide (0 < (((lvlA (nbA L B cell) cell k).2.length : Nat) : Int)) = false)) ∧ ∀ x, x ∈ (lvlA (nbA L B cell) cell k).1 ↔ ∃ j : Nat, (j : Int) ≤ far ∧ Wk (nbA L B cell) cell j x) := by
    by_cases c1 : (k : Int) + 1 ≤ far
    · by_cases c2 : 0 < (((lvlA (nbA L B cell) cell k).2.length : Nat) : Int)
      · exact .inl ⟨decide_eq_true c1, decide_eq_true c2⟩
      · refine .inr ⟨.inr ⟨decide_eq_true c1, decide_eq_false c2⟩, fun x => ?_⟩
        have e : (lvlA (nbA L B cell) cell k).2 = [] := List.length_eq_zero_iff.1 (by omega)
        rw [lvlA_end e far.toNat (by omega) x]
        constructor
        · rintro ⟨j, hj, w⟩; exact ⟨j, by omega, w⟩
        · rintro ⟨j, hj, w⟩; exact ⟨j, by omega, w⟩
    · refine .inr ⟨.inl (decide_eq_false c1), fun x => ?_⟩
      rw [(sp6 x).1]
      constructor
      · rintro ⟨j, hj, w⟩; exact ⟨j, by omega, w⟩
      · rintro ⟨j, hj, w⟩; exact ⟨j, by omega, w⟩
  rcases alt with ⟨c1, c2⟩ | ⟨c, fin⟩
  case' inr =>
    rcases c with c1 | ⟨c1, c2⟩
  case' inr.inl => (repeat' (first | (simp (maxSteps := 1000000) (disch := first | omega | (simp only [AM.DB, List.length_set, List.length_map]; first | done | omega)) only [AM.RB, Nat.reduceAdd, Nat.reduceMul, Nat.reduceEqDiff, reduceCtorEq, b20_RT4, c1]) | refine AM.drawW_loose (id := 13) hp (by kernel_rfl) (by kernel_rfl) ?_ | refine AM.drawW_fine (id := 17) hp (by kernel_rfl) (by kernel_rfl) (by kernel_rfl) ?_ | refine AM.opW_tied (by kernel_rfl) ?_ | refine AM.opW_untied (by kernel_rfl) ?_))
  case' inr.inr => (repeat' (first | (simp (maxSteps := 1000000) (disch := first | omega | (simp only [AM.DB, List.length_set, List.length_map]; first | done | omega)) only [AM.RB, Nat.reduceAdd, Nat.reduceMul, Nat.reduceEqDiff, reduceCtorEq, b20_RT4, c1, c2]) | refine AM.drawW_loose (id := 13) hp (by kernel_rfl) (by kernel_rfl) ?_ | refine AM.drawW_fine (id := 17) hp (by kernel_rfl) (by kernel_rfl) (by kernel_rfl) ?_ | refine AM.opW_tied (by kernel_rfl) ?_ | refine AM.opW_untied (by kernel_rfl) ?_))
  case' inr.inl | inr.inr =>
    obtain ⟨kv, tl, mm⟩ := i6.m.mp
    refine all_w mm f.rows (by omega) hl6 _ fun vA h7 oA fr7 hidA => ?_
    have hl7 := fr7.hl hl6
    obtain ⟨ba, bc, rfl⟩ := oA.form
    have g97 := i6.g9.fr0 fr7
    have gs7 := i6.gs.fr0 fr7
    obtain ⟨dl, gd6, kd⟩ := i6.gd
    have gd7 := gd6.fr0 fr7
    have lA : (allP L.flatten L.flatten.length).length ≤ L.flatten.length := allP_len _ _
    (repeat' (first | (simp (maxSteps := 1000000) (disch := first | omega | (simp only [AM.DB, List.length_set, List.length_map]; first | done | omega)) only [AM.RB, Nat.reduceAdd, Nat.reduceMul, Nat.reduceEqDiff, reduceCtorEq, b20_RT4]) | refine AM.drawW_loose (id := 13) hp (by kernel_rfl) (by kernel_rfl) ?_ | refine AM.drawW_fine (id := 17) hp (by kernel_rfl) (by kernel_rfl) (by kernel_rfl) ?_ | refine AM.opW_tied (by kernel_rfl) ?_ | refine AM.opW_untied (by kernel_rfl) ?_))
    refine AM.loop_w hp 112 (fun z : Nat × Value => [(9, pv h1.next), (18, z.2), (90, .slice ba (allP L.flatten L.flatten.length).length bc), (91, .int .i64 (allP L.flatten L.flatten.length).length), (92, .int .i64 z.1)])
      (fun z h' => z.1 ≤ (allP L.flatten L.flatten.length).length ∧ Ow h' 3 1 z.2 (inK (lvlA (nbA L B cell) cell k).1 ((allP L.flatten L.flatten.length).take z.1)).length ((inK (lvlA (nbA L B cell) cell k).1 ((allP L.flatten L.flatten.length).take z.1)).map (.int .i64)) ∧ Fr none' h7 h' ∧ ∀ id, idOf z.2 id → h7.next ≤ id) (fun z => (allP L.flatten L.flatten.length).length - z.1) (by kernel_rfl) (0, .slice none 0 0) ?_ ?_ ?_
    · simp (maxSteps := 1000000) (disch := first | omega | (simp only [AM.DB, List.length_set, List.length_map]; first | done | omega)) only [AM.RB, Nat.reduceAdd, Nat.reduceMul, Nat.reduceEqDiff, reduceCtorEq, b20_RT4]
      first | rfl | skip
    · exact ⟨Nat.zero_le _, Ow.nil _ _ _, Fr.refl _ _, fun _ t => t.elim⟩
    rintro ⟨t, vo⟩ h8 ρ8 ⟨ht, o8, fr8, hid8⟩
    simp only at ht o8 hid8
    obtain ⟨ca, cc, rfl⟩ := o8.form
    have hl8 := fr8.hl hl7
    have rA := (oA.fr0 fr8).rd
    have g98 := g97.fr0 fr8
    have gs8 := gs7.fr0 fr8
    have gd8 := gd7.fr0 fr8
    (repeat' (first | (simp (maxSteps := 1000000) (disch := first | omega | (simp only [AM.DB, List.length_set, List.length_map]; first | done | omega)) only [AM.RB, Nat.reduceAdd, Nat.reduceMul, Nat.reduceEqDiff, reduceCtorEq, b20_RT4]) | refine AM.drawW_loose (id := 13) hp (by kernel_rfl) (by kernel_rfl) ?_ | refine AM.drawW_fine (id := 17) hp (by kernel_rfl) (by kernel_rfl) (by kernel_rfl) ?_ | refine AM.opW_tied (by kernel_rfl) ?_ | refine AM.opW_untied (by kernel_rfl) ?_))
    refine AM.condV_split (fun htt => ?_) (fun htt => ?_)
    · have htl : t < (allP L.flatten L.flatten.length).length := by omega
      have ks := inK_succ (lvlA (nbA L B cell) cell k).1 htl
      have lk : (inK (lvlA (nbA L B cell) cell k).1 ((allP L.flatten L.flatten.length).take t)).length ≤ t := Nat.le_trans (List.length_filter_le _ _) (by simp; omega)
      generalize hcc : (allP L.flatten L.flatten.length).getD t 0 = c at *
      have kc := kd c
      by_cases hc : c ∈ (lvlA (nbA L B cell) cell k).1
      · rw [decide_eq_true hc] at kc
        rw [if_pos hc] at ks
        (repeat' (first | (simp (maxSteps := 1000000) (disch := first | omega | (simp only [AM.DB, List.length_set, List.length_map]; first | done | omega)) only [AM.RB, Nat.reduceAdd, Nat.reduceMul, Nat.reduceEqDiff, reduceCtorEq, b20_RT4, rA.ia el_22, Rd.ldi rA lk_3, Int.toNat_natCast, hcc, g98, gs8, AM.lookup_enc2 mp_98 gd8, kc]) | refine AM.drawW_loose (id := 13) hp (by kernel_rfl) (by kernel_rfl) ?_ | refine AM.drawW_fine (id := 17) hp (by kernel_rfl) (by kernel_rfl) (by kernel_rfl) ?_ | refine AM.opW_tied (by kernel_rfl) ?_ | refine AM.opW_untied (by kernel_rfl) ?_))
        generalize hE_ : AHeap.alloc h8 _ = h9; obtain ⟨g9, fr9, n9, l9⟩ := AM.new_get hE_; clear hE_
        refine AM.appends_w ap_22 ap_22 (o8.fr0 fr9) (AM.Rd.whole (n := 1) (c := [.int .i64 c]) g9 rfl) rfl (by omega) (AM.fits (by omega) (by omega)) (AM.fits' (by omega)) fun v10 h10 o10 fr10 hid10 => ?_
        have n8 := fr8.next
        (repeat' (first | (simp (maxSteps := 1000000) (disch := first | omega | (simp only [AM.DB, List.length_set, List.length_map]; first | done | omega)) only [AM.RB, Nat.reduceAdd, Nat.reduceMul, Nat.reduceEqDiff, reduceCtorEq, b20_RT4, AM.wrap_i64]) | refine AM.drawW_loose (id := 13) hp (by kernel_rfl) (by kernel_rfl) ?_ | refine AM.drawW_fine (id := 17) hp (by kernel_rfl) (by kernel_rfl) (by kernel_rfl) ?_ | refine AM.opW_tied (by kernel_rfl) ?_ | refine AM.opW_untied (by kernel_rfl) ?_))
        refine ⟨(t + 1, v10), by simp only; omega, ?_, by simp only; omega, ?_, (fr8.trans fr9).fresh fr10 (fun id q => hid8 id q), fun id q => (hid10 id q).elim (hid8 id) (fun q => by omega)⟩
        · simp (maxSteps := 1000000) (disch := first | omega | (simp only [AM.DB, List.length_set, List.length_map]; first | done | omega)) only [AM.RB, Nat.reduceAdd, Nat.reduceMul, Nat.reduceEqDiff, reduceCtorEq, b20_RT4]
          first | rfl | skip
        · simp only
          rw [ks]
          simpa using o10
      · rw [decide_eq_false hc] at kc
        rw [if_neg hc, List.append_nil] at ks
        (repeat' (first | (simp (maxSteps := 1000000) (disch := first | omega | (simp only [AM.DB, List.length_set, List.length_map]; first | done | omega)) only [AM.RB, Nat.reduceAdd, Nat.reduceMul, Nat.reduceEqDiff, reduceCtorEq, b20_RT4, rA.ia el_22, Rd.ldi rA lk_3, Int.toNat_natCast, hcc, g98, gs8, AM.lookup_enc2 mp_98 gd8, kc, AM.wrap_i64]) | refine AM.drawW_loose (id := 13) hp (by kernel_rfl) (by kernel_rfl) ?_ | refine AM.drawW_fine (id := 17) hp (by kernel_rfl) (by kernel_rfl) (by kernel_rfl) ?_ | refine AM.opW_tied (by kernel_rfl) ?_ | refine AM.opW_untied (by kernel_rfl) ?_))
        refine ⟨(t + 1, _), by simp only; omega, ?_, by simp only; omega, ?_, fr8, hid8⟩
        · simp (maxSteps := 1000000) (disch := first | omega | (simp only [AM.DB, List.length_set, List.length_map]; first | done | omega)) only [AM.RB, Nat.reduceAdd, Nat.reduceMul, Nat.reduceEqDiff, reduceCtorEq, b20_RT4]
          first | rfl | skip
        · simp only
          rw [ks]; exact o8
    · obtain rfl : t = (allP L.flatten L.flatten.length).length := by omega
      (repeat' (first | (simp (maxSteps := 1000000) (disch := first | omega | (simp only [AM.DB, List.length_set, List.length_map]; first | done | omega)) only [AM.RB, Nat.reduceAdd, Nat.reduceMul, Nat.reduceEqDiff, reduceCtorEq, b20_RT4]) | refine AM.drawW_loose (id := 13) hp (by kernel_rfl) (by kernel_rfl) ?_ | refine AM.drawW_fine (id := 17) hp (by kernel_rfl) (by kernel_rfl) (by kernel_rfl) ?_ | refine AM.opW_tied (by kernel_rfl) ?_ | refine AM.opW_untied (by kernel_rfl) ?_))
      have fr68 := fr7.trans fr8
      refine hok hf (by omega) _ _ _ o8 ?_ (fun x => ?_) (i6.m.more fr68 fun id q => .inl (i6.cB id q)) (i6.fr.trans fr68.weak)
      · rw [List.take_length]; exact (allP_srt _ _).sublist List.filter_sublist
      · rw [List.take_length]
        unfold inK
        rw [List.mem_filter, allP_in, decide_eq_true_iff, fin x]
        exact ⟨fun q => ⟨q.1.2, q.2⟩, fun q => ⟨⟨freeP_in q.1, q.1⟩, q.2⟩⟩
  have hlen : 0 < (lvlA (nbA L B cell) cell k).2.length := by have := of_decide_eq_true c2; omega
  have hk1 : k < L.flatten.length := by
    obtain ⟨l, h1, h2, h3⟩ := isD.chain (N := nbA L B cell) hr hNd k _ ((sp6 ((lvlA (nbA L B cell) cell k).2.getD 0 0)).2.1 (by
      have e : (lvlA (nbA L B cell) cell k).2.getD 0 0 = (lvlA (nbA L B cell) cell k).2[0] := by simp [List.getD, hlen]
      rw [e]; exact List.getElem_mem hlen))
    have := nodup_len h2 fun z hz => (h3 z hz).1
    omega
  have hAd : ∀ x, x ∈ (lvlA (nbA L B cell) cell k).2 → 0 ≤ x ∧ x < L.flatten.length := fun x hx => Wk.ok (ok := fun z => 0 ≤ z ∧ z < (L.flatten.length : Int)) hr hNd ((sp6 x).2.1 hx).1
  have gd0 := lvlA_good (nbA L B cell) cell k
  have hK0r : ∀ x, x ∈ (lvlA (nbA L B cell) cell k).1 → 0 ≤ x ∧ x < L.flatten.length := fun x hx => by
    obtain ⟨j, _, w⟩ := (sp6 x).1.1 hx
    exact Wk.ok (ok := fun z => 0 ≤ z ∧ z < (L.flatten.length : Int)) hr hNd w
  have eL : lvlA (nbA L B cell) cell (k + 1) = rndA (nbA L B cell) (lvlA (nbA L B cell) cell k).2 ((lvlA (nbA L B cell) cell k).1, []) := rfl
  generalize lvlA (nbA L B cell) cell k = st at *
  obtain ⟨K0, A⟩ := st
  simp only at *
  (repeat' (first | (simp (maxSteps := 1000000) (disch := first | omega | (simp only [AM.DB, List.length_set, List.length_map]; first | done | omega)) only [AM.RB, Nat.reduceAdd, Nat.reduceMul, Nat.reduceEqDiff, reduceCtorEq, b20_RT4, c1, c2]) | refine AM.drawW_loose (id := 13) hp (by kernel_rfl) (by kernel_rfl) ?_ | refine AM.drawW_fine (id := 17) hp (by kernel_rfl) (by kernel_rfl) (by kernel_rfl) ?_ | refine AM.opW_tied (by kernel_rfl) ?_ | refine AM.opW_untied (by kernel_rfl) ?_))
  generalize hE_ : AHeap.alloc h6 _ = h7; obtain ⟨g7, fr7, n7, l7⟩ := AM.new_get hE_; clear hE_
  have i7 : ArI h h7 p (h.next + 2) h1.next h.next (h.next + 1) c11 L B0 ml K0 (.slice aa A.length ac) A (k + 1) (fun id => C6 id ∨ id = h6.next) := by
    obtain ⟨dl, gd6, kd⟩ := i6.gd
    exact i6.step fr7 (fun q => q) (fun q => q) (fun q => q) (fun q => q) (fun _ _ q => q) ⟨dl, gd6.fr0 fr7, kd⟩ (i6.m.more fr7 fun id q => q.elim .inl fun q => .inr (by omega)) (fun id q => .inl q) (i6.fr.trans fr7.weak)
  have lt11 := AM.get_some_lt i6.g11
  have lta := fun id (q : idOf (.slice aa A.length ac) id) => i6.o.lt q
  have new6 := i6.fr.next
  refine AM.loop_w hp 112 (fun z : Nat × Value => [(0, pv p), (3, .int .i64 far), (9, pv h1.next), (11, pv c11), (12, pv h6.next), (53, .slice aa A.length ac), (54, .int .i64 A.length), (55, .int .i64 z.1)])
    (fun z h' => z.1 ≤ A.length ∧ ∃ C, ArI h h' p (h.next + 2) h1.next h.next (h.next + 1) c11 L B0 ml (rndA (nbA L B cell) (A.take z.1) (K0, [])).1 (.slice aa A.length ac) A (k + 1) C ∧ C h6.next ∧ (∀ id, idOf z.2 id → C id) ∧ h'.get h6.next = some (.cells [z.2] 22 false) ∧ Ow h' 3 1 z.2 (rndA (nbA L B cell) (A.take z.1) (K0, [])).2.length ((rndA (nbA L B cell) (A.take z.1) (K0, [])).2.map (.int .i64)) ∧ (∀ id, idOf z.2 id → h6.next + 1 ≤ id) ∧ h7.next ≤ h'.next) (fun z => A.length - z.1) (by kernel_rfl) (0, .slice none 0 0) ?_ ?_ ?_
  · simp (maxSteps := 1000000) (disch := first | omega | (simp only [AM.DB, List.length_set, List.length_map]; first | done | omega)) only [AM.RB, Nat.reduceAdd, Nat.reduceMul, Nat.reduceEqDiff, reduceCtorEq, b20_RT4]
    first | rfl | skip
  · exact ⟨Nat.zero_le _, _, i7, .inr rfl, fun _ q => q.elim, g7, Ow.nil _ _ _, fun _ q => q.elim, Nat.le_refl _⟩
  rintro ⟨i, vn⟩ h8 ρ8 ⟨hi, C8, i8, c12, cvn, g12, o8, new8, nx8⟩
  simp only at hi i8 cvn g12 o8 new8
  have hl8 := i8.fr.hl hl
  obtain ⟨na, nc, rfl⟩ := o8.form
  have r8 := i8.o.rd
  have g98 := i8.g9
  (repeat' (first | (simp (maxSteps := 1000000) (disch := first | omega | (simp only [AM.DB, List.length_set, List.length_map]; first | done | omega)) only [AM.RB, Nat.reduceAdd, Nat.reduceMul, Nat.reduceEqDiff, reduceCtorEq, b20_RT4]) | refine AM.drawW_loose (id := 13) hp (by kernel_rfl) (by kernel_rfl) ?_ | refine AM.drawW_fine (id := 17) hp (by kernel_rfl) (by kernel_rfl) (by kernel_rfl) ?_ | refine AM.opW_tied (by kernel_rfl) ?_ | refine AM.opW_untied (by kernel_rfl) ?_))
  refine AM.condV_split (fun hit => ?_) (fun hit => ?_)
  case' refine_2 =>
    obtain rfl : i = A.length := by omega
    have eE : rndA (nbA L B cell) (A.take A.length) (K0, []) = lvlA (nbA L B cell) cell (k + 1) := by rw [List.take_length, ← eL]
    rw [eE] at i8 cvn g12 o8 new8
    have c1' := of_decide_eq_true c1
    have ic := i8.c
    have g118 := i8.g11
    (repeat' (first | (simp (maxSteps := 1000000) (disch := first | omega | (simp only [AM.DB, List.length_set, List.length_map]; first | done | omega)) only [AM.RB, Nat.reduceAdd, Nat.reduceMul, Nat.reduceEqDiff, reduceCtorEq, b20_RT4, g12, g118]) | refine AM.drawW_loose (id := 13) hp (by kernel_rfl) (by kernel_rfl) ?_ | refine AM.drawW_fine (id := 17) hp (by kernel_rfl) (by kernel_rfl) (by kernel_rfl) ?_ | refine AM.opW_tied (by kernel_rfl) ?_ | refine AM.opW_untied (by kernel_rfl) ?_))
    generalize hE_ : AHeap.put (AHeap.alloc h8 _) _ _ = h9; obtain ⟨g9, fr9, n9, l9⟩ := AM.box_get hE_ (by omega); clear hE_
    generalize hE_ : AHeap.put h9 _ _ = h10; obtain ⟨g10, fr10, n10, l10⟩ := AM.put_get hE_ (by omega); clear hE_
    have ew : IntKind.i64.wrap ((k : Int) + 1 + 1) = k + 1 + 1 := AM.wrap_i64 (by omega) (by omega)
    rw [ew] at g10
    have lt8 := fun id (q : id < h8.next) => show ¬ (id = h8.next) from by omega
    have m8 := i8.fr.next
    have k9 := i8.g9.fr0 fr9
    have ks := i8.gs.fr0 fr9
    have km := i8.gm.fr0 fr9
    obtain ⟨dl, gd8, kd⟩ := i8.gd
    have fr810 : Fr none' h8 h10 := fr9.fresh fr10 (fun id q => by have q : id = h8.next := q; omega)
    refine ⟨(k + 1, .slice na (lvlA (nbA L B cell) cell (k + 1)).2.length nc, h8.next), by simp only; omega, ⟨rfl, rfl⟩, by simp only; omega, by simp only; omega, fun id => C8 id ∨ id = h8.next, ⟨i8.g9.fr0 fr810, i8.gs.fr0 fr810, i8.gm.fr0 fr810, ⟨dl, gd8.fr0 fr810, kd⟩, ?_, ?_, fun id q => ?_, ?_, ?_, fun id q => .inl (i8.cB id q), ⟨.inl i8.cO.1, .inl i8.cO.2.1, .inl i8.cO.2.2.1, .inl i8.cO.2.2.2.1, .inr rfl⟩, fun id q => .inl (cvn id q), i8.fr.trans fr810.weak⟩⟩
    · simp only
      rw [g10]; rfl
    · exact o8.fr0 fr810
    · have := new8 id q
      omega
    · show h.next + 4 ≤ h8.next
      omega
    · exact i8.m.more fr810 fun id q => q.elim .inl fun q => .inr (by have q : id = h8.next := q; omega)
  have hil : i < A.length := by omega
  have rs := rndA_succ (nbA L B cell) hil (K0, [])
  have haA : A.getD i 0 ∈ A := by
    have e : A.getD i 0 = A[i] := by simp [List.getD, hil]
    rw [e]; exact List.getElem_mem hil
  have had := hAd _ haA
  obtain ⟨a, ha⟩ : ∃ a, A.getD i 0 = a := ⟨_, rfl⟩
  rw [ha] at rs had
  have hw8 := i8.fr.get hw hgp
  have low8 := i8.fr.low
  (repeat' (first | (simp (maxSteps := 1000000) (disch := first | omega | (simp only [AM.DB, List.length_set, List.length_map]; first | done | omega)) only [AM.RB, Nat.reduceAdd, Nat.reduceMul, Nat.reduceEqDiff, reduceCtorEq, b20_RT4, r8.ia el_22, Rd.ldi r8 lk_3, Int.toNat_natCast, ha, g98]) | refine AM.drawW_loose (id := 13) hp (by kernel_rfl) (by kernel_rfl) ?_ | refine AM.drawW_fine (id := 17) hp (by kernel_rfl) (by kernel_rfl) (by kernel_rfl) ?_ | refine AM.opW_tied (by kernel_rfl) ?_ | refine AM.opW_untied (by kernel_rfl) ?_))
  refine nextK_w i8.m f hw8 (by omega) hl8 a fun vN h9 m9 oN fr9 hidN => ?_
  obtain ⟨ka, kc, rfl⟩ := oN.form
  have hl9 := fr9.hl hl8
  (repeat' (first | (simp (maxSteps := 1000000) (disch := first | omega | (simp only [AM.DB, List.length_set, List.length_map]; first | done | omega)) only [AM.RB, Nat.reduceAdd, Nat.reduceMul, Nat.reduceEqDiff, reduceCtorEq, b20_RT4]) | refine AM.drawW_loose (id := 13) hp (by kernel_rfl) (by kernel_rfl) ?_ | refine AM.drawW_fine (id := 17) hp (by kernel_rfl) (by kernel_rfl) (by kernel_rfl) ?_ | refine AM.opW_tied (by kernel_rfl) ?_ | refine AM.opW_untied (by kernel_rfl) ?_))
  refine sfree_w fun h10 gA gB fr10 n10 l10 => ?_
  (repeat' (first | (simp (maxSteps := 1000000) (disch := first | omega | (simp only [AM.DB, List.length_set, List.length_map]; first | done | omega)) only [AM.RB, Nat.reduceAdd, Nat.reduceMul, Nat.reduceEqDiff, reduceCtorEq, b20_RT4]) | refine AM.drawW_loose (id := 13) hp (by kernel_rfl) (by kernel_rfl) ?_ | refine AM.drawW_fine (id := 17) hp (by kernel_rfl) (by kernel_rfl) (by kernel_rfl) ?_ | refine AM.opW_tied (by kernel_rfl) ?_ | refine AM.opW_untied (by kernel_rfl) ?_))
  have g99 := fr9.get g98 (show ¬ h1.next = p by have := m.lt; omega)
  have lt98 := AM.get_some_lt g98
  have spN : h.next + 2 < h8.next := AM.get_some_lt i8.gs
  refine ⟨AM.looseOk_by [(0, [0, 4])] (by kernel_rfl) ?_, ?_⟩
  · simp (maxSteps := 1000000) (disch := first | omega | (simp only [AM.DB, List.length_set, List.length_map]; first | done | omega)) only [AM.RB, Nat.reduceAdd, Nat.reduceMul, Nat.reduceEqDiff, reduceCtorEq, b20_RT4]
    (repeat' apply And.intro) <;> (first | (refine AM.stable_len _ _ _ _ _ _ (fun _ => ?_); (simp (maxSteps := 1000000) (disch := first | omega | (simp only [AM.DB, List.length_set, List.length_map]; first | done | omega)) only [AM.RB, Nat.reduceAdd, Nat.reduceMul, Nat.reduceEqDiff, reduceCtorEq, b20_RT4, g98, g99])) | (refine AM.stable_load _ _ _ _ _ _ ?_; (first | (simp (maxSteps := 1000000) (disch := first | omega | (simp only [AM.DB, List.length_set, List.length_map]; first | done | omega)) only [AM.RB, Nat.reduceAdd, Nat.reduceMul, Nat.reduceEqDiff, reduceCtorEq, b20_RT4, g98, g99]) | skip); (first | (refine AM.stabL_int (by omega) ?_; (simp (maxSteps := 1000000) (disch := first | omega | (simp only [AM.DB, List.length_set, List.length_map]; first | done | omega)) only [AM.RB, Nat.reduceAdd, Nat.reduceMul, Nat.reduceEqDiff, reduceCtorEq, b20_RT4, g98, g99])) | (refine AM.stabL_ptr (by omega) (by omega) ?_; (simp (maxSteps := 1000000) (disch := first | omega | (simp only [AM.DB, List.length_set, List.length_map]; first | done | omega)) only [AM.RB, Nat.reduceAdd, Nat.reduceMul, Nat.reduceEqDiff, reduceCtorEq, b20_RT4, g98, g99])) | (refine AM.stabL_string (by omega) ?_; (simp (maxSteps := 1000000) (disch := first | omega | (simp only [AM.DB, List.length_set, List.length_map]; first | done | omega)) only [AM.RB, Nat.reduceAdd, Nat.reduceMul, Nat.reduceEqDiff, reduceCtorEq, b20_RT4, g98, g99])) | (refine AM.stabL_bool (by omega) ?_; (simp (maxSteps := 1000000) (disch := first | omega | (simp only [AM.DB, List.length_set, List.length_map]; first | done | omega)) only [AM.RB, Nat.reduceAdd, Nat.reduceMul, Nat.reduceEqDiff, reduceCtorEq, b20_RT4, g98, g99])))))
  have lp := i8.m.lt
  have pn : p < h.next := m.lt
  have fr810 : Fr (fun id => id = p) h8 h10 := fr9.trans fr10.weak
  have i10 : ArI h h10 p (h.next + 2) h1.next h.next (h.next + 1) c11 L B0 ml (rndA (nbA L B cell) (A.take i) (K0, [])).1 (.slice aa A.length ac) A (k + 1) (fun id => C8 id ∨ id = h9.next ∨ id = h9.next + 1) := by
    obtain ⟨dl, gd8, kd⟩ := i8.gd
    have ic := i8.c
    exact i8.step fr810 (by omega) (by omega) (by omega) (by omega) (fun id q => by have := i8.new id q; omega) ⟨dl, fr810.get gd8 (by omega), kd⟩ (m9.more fr10 fun id q => q.elim .inl fun q => .inr (by omega)) (fun id q => .inl q) (i8.fr.trans fr810)
  have g1210 := fr810.get g12 (show ¬ h6.next = p by omega)
  have o10 := o8.fr fr810 (fun id q q2 => by have := new8 id q; omega)
  have rN := oN.rd.fr0 fr10
  have hl10 := fr10.hl hl9
  have n9 := fr9.next
  have lt12 := AM.get_some_lt g12
  generalize hst : rndA (nbA L B cell) (A.take i) (K0, []) = st at *
  let core : Nat → (Nat → Prop) → AHeap → Prop := fun t S h' => ∃ vn', h'.get h6.next = some (.cells [vn'] 22 false) ∧ (∃ dl, h'.get (h.next + 1) = some (.map (encM dl)) ∧ keysM dl (visA ((nbA L B cell a).take t) st).1) ∧
    Ow h' 3 1 vn' (visA ((nbA L B cell a).take t) st).2.length ((visA ((nbA L B cell a).take t) st).2.map (.int .i64)) ∧ (∀ id, idOf vn' id → S id ∨ idOf (.slice na st.2.length nc) id) ∧ (∀ id, S id → h10.next ≤ id) ∧
    Fr (fun id => id = h.next + 1 ∨ id = h6.next ∨ idOf (.slice na st.2.length nc) id) h10 h'
  refine AM.range_iter hp (R := fun id => id = h9.next + 1 ∨ id = h9.next ∨ id = h.next + 2 ∨ id = h.next ∨ idOf (.slice ka (nextL L a).length kc) id) (xs := (nbA L B cell a).map fun c => [.int .i64 c]) (AM.entersV_of Tryd.func82 rfl) (by kernel_rfl) (by kernel_rfl) ?_ ?_ hl10 ?_
    (fun t => AM.JK h10.next (core t)) (fun _ _ _ => False) ?_ (fun _ => AM.Stab.no) (fun env x => (env.set 64 (x.getD 0 undef)).set 15 (x.getD 0 undef)) ?_ ?_ ?_ ?_ ?_
  · intro y hy; obtain ⟨q, _, rfl⟩ := List.mem_map.1 hy; rfl
  · rintro id (rfl | rfl | rfl | rfl | q)
    · omega
    · omega
    · omega
    · omega
    · exact rN.lt q
  · exact free1_w gB gA i10.gs i10.gm om rN (by have := nextL_len f a; omega)
  · refine fun t => AM.JK.stab ?_
    rintro S x y hB ⟨vn', q1, ⟨dl, q2, q3⟩, q4, q5, q6, q7⟩ hS hBl hn' hl'
    have lto2 : h.next + 1 < h10.next := by omega
    have ltv : ∀ id, idOf (.slice na st.2.length nc) id → id < h10.next := fun id q => o10.lt q
    refine ⟨vn', by rw [hBl _ (by omega)]; exact q1, ⟨dl, by rw [hBl _ lto2]; exact q2, q3⟩, q4.same (fun id q => ?_) hl', q5, q6, Fr.ext2 q7 hBl hn' hl'⟩
    rcases q5 id q with q | q
    · exact hS id q
    · exact hBl id (ltv id q)
  · intro y hy h11
    obtain ⟨q, _, rfl⟩ := List.mem_map.1 hy
    simp (maxSteps := 1000000) (disch := first | omega | (simp only [AM.DB, List.length_set, List.length_map]; first | done | omega)) only [AM.RB, Nat.reduceAdd, Nat.reduceMul, Nat.reduceEqDiff, reduceCtorEq, b20_RT4]
  · intro o
    have fr11 : Fr none' h10 (h10.alloc o) := (Fr.refl _ _).alloc _
    obtain ⟨dl, gd10, kd⟩ := i10.gd
    exact ⟨Nat.le_succ _, fun id e => by omega, none', ⟨_, g1210.fr0 fr11, ⟨dl, gd10.fr0 fr11, kd⟩, o10.fr0 fr11, fun id q => .inr q, fun id q => q.elim, fr11.weak⟩, fun id q => q.elim⟩
  · rintro t y A1 h11 hy ⟨hB, hA, S, ⟨vn', q1, ⟨dl, q2, q3⟩, q4, q5, q6, q7⟩, hS⟩ hA1 hL hlow hR
    rw [List.getElem?_map] at hy
    obtain ⟨b, hb, rfl⟩ := Option.map_eq_some_iff.1 hy
    obtain ⟨va, vc, rfl⟩ := q4.form
    have kb := q3 b
    have htl : t < (nbA L B cell a).length := (List.getElem?_eq_some_iff.1 hb).1
    have hbt : (nbA L B cell a).getD t 0 = b := by simp [List.getD, hb]
    have vs := visA_succ htl st
    rw [hbt] at vs
    have lt9 := AM.get_some_lt i6.g9
    have lts := AM.get_some_lt i6.gs
    have u9 := q7.get i10.g9 (fun q => by rcases q with q | q | q; omega; omega; have := new8 _ q; omega)
    have us := q7.get i10.gs (fun q => by rcases q with q | q | q; omega; omega; have := new8 _ q; omega)
    have u11 := q7.get i10.g11 (fun q => by rcases q with q | q | q; have := i6.c; omega; omega; have := new8 _ q; omega)
    have lw11 : h11.low ≤ h.next + 1 := by have := i10.fr.low; omega
    by_cases hk' : b ∈ (visA ((nbA L B cell a).take t) st).1
    · rw [decide_eq_true hk'] at kb
      have se : stepA (visA ((nbA L B cell a).take t) st) b = visA ((nbA L B cell a).take t) st := if_pos hk'
      rw [se] at vs
      (repeat' (first | (simp (maxSteps := 1000000) (disch := first | omega | (simp only [AM.DB, List.length_set, List.length_map]; first | done | omega)) only [AM.RB, Nat.reduceAdd, Nat.reduceMul, Nat.reduceEqDiff, reduceCtorEq, b20_RT4, u9, us, AM.lookup_enc2 mp_98 q2, kb]) | refine AM.drawW_loose (id := 13) hp (by kernel_rfl) (by kernel_rfl) ?_ | refine AM.drawW_fine (id := 17) hp (by kernel_rfl) (by kernel_rfl) (by kernel_rfl) ?_ | refine AM.opW_tied (by kernel_rfl) ?_ | refine AM.opW_untied (by kernel_rfl) ?_))
      refine ⟨Nat.le_refl _, fun _ _ _ => trivial, hB, hA, S, ⟨_, q1, ⟨dl, q2, by rw [vs]; exact q3⟩, by rw [vs]; exact q4, q5, q6, q7⟩, hS⟩
    · rw [decide_eq_false hk'] at kb
      have se : stepA (visA ((nbA L B cell a).take t) st) b = ((visA ((nbA L B cell a).take t) st).1 ++ [b], (visA ((nbA L B cell a).take t) st).2 ++ [b]) := if_neg hk'
      rw [se] at vs
      have ltq1 := AM.get_some_lt q1
      (repeat' (first | (simp (maxSteps := 1000000) (disch := first | omega | (simp only [AM.DB, List.length_set, List.length_map]; first | done | omega)) only [AM.RB, Nat.reduceAdd, Nat.reduceMul, Nat.reduceEqDiff, reduceCtorEq, b20_RT4, u9, us, u11, q1, AM.lookup_enc2 mp_98 q2, kb, AM.update_enc mp_98 q2 lw11]) | refine AM.drawW_loose (id := 13) hp (by kernel_rfl) (by kernel_rfl) ?_ | refine AM.drawW_fine (id := 17) hp (by kernel_rfl) (by kernel_rfl) (by kernel_rfl) ?_ | refine AM.opW_tied (by kernel_rfl) ?_ | refine AM.opW_untied (by kernel_rfl) ?_))
      generalize hE_ : AHeap.put h11 _ _ = h12; obtain ⟨g12, fr12, n12, l12⟩ := AM.put_get hE_ (by omega); clear hE_
      (repeat' (first | (simp (maxSteps := 1000000) (disch := first | omega | (simp only [AM.DB, List.length_set, List.length_map]; first | done | omega)) only [AM.RB, Nat.reduceAdd, Nat.reduceMul, Nat.reduceEqDiff, reduceCtorEq, b20_RT4]) | refine AM.drawW_loose (id := 13) hp (by kernel_rfl) (by kernel_rfl) ?_ | refine AM.drawW_fine (id := 17) hp (by kernel_rfl) (by kernel_rfl) (by kernel_rfl) ?_ | refine AM.opW_tied (by kernel_rfl) ?_ | refine AM.opW_untied (by kernel_rfl) ?_))
      have kv1 : ∀ id, idOf (.slice va (visA ((nbA L B cell a).take t) st).2.length vc) id → ¬ (id = h.next + 1) ∧ ¬ (id = h6.next) ∧ id < h11.next := fun id q => by
        have := q4.lt q
        rcases q5 id q with q | q
        · have := q6 id q; omega
        · have := new8 id q; omega
      have q412 := q4.fr fr12 (fun id q q2 => (kv1 id q).1 q2)
      have q112 := fr12.get q1 (show ¬ h6.next = h.next + 1 by omega)
      have low12 : h12.low ≤ h12.next := by have := i10.fr.low; omega
      generalize hE_ : AHeap.alloc h12 _ = h13; obtain ⟨g13, fr13, n13, l13⟩ := AM.new_get hE_; clear hE_
      have gdA : goodA (visA ((nbA L B cell a).take t) st) := visA_good (by rw [← hst]; exact rndA_good _ ⟨gd0.1, Nat.zero_le _⟩)
      have hRa : ∀ x ∈ (visA ((nbA L B cell a).take t) st).1, 0 ≤ x ∧ x < L.flatten.length := fun x hx => by
        rcases visA_mem.1.1 hx with hx | hx
        · rw [← hst] at hx
          rcases (rndA_mem _).1.1 hx with hx | ⟨c, hc, hx⟩
          · exact hK0r x hx
          · exact hNd c (hAd c (List.take_subset _ _ hc)) x hx
        · exact hNd a had x (List.take_subset _ _ hx)
      have lenA := nodup_len gdA.1 hRa
      have lenB := gdA.2
      simp only [n12] at g13
      refine AM.appends_w ap_22 ap_22 (q412.fr0 fr13) (AM.Rd.whole (n := 1) (c := [.int .i64 b]) g13 rfl) rfl (by omega) (AM.fits (by omega) (by omega)) (AM.fits' (by omega)) fun v14 h14 o14 fr14 hid14 => ?_
      have q114 := fr14.get (q112.fr0 fr13) (fun q => (kv1 _ q).2.1 rfl)
      obtain ⟨wa, wc, rfl⟩ := o14.form
      have lt14 := AM.get_some_lt q114
      have low14 : h14.low ≤ h6.next := by have := fr14.low; have := i10.fr.low; omega
      have q214 := fr14.get (g12.fr0 fr13) (fun q => (kv1 _ q).1 rfl)
      (repeat' (first | (simp (maxSteps := 1000000) (disch := first | omega | (simp only [AM.DB, List.length_set, List.length_map]; first | done | omega)) only [AM.RB, Nat.reduceAdd, Nat.reduceMul, Nat.reduceEqDiff, reduceCtorEq, b20_RT4, q114]) | refine AM.drawW_loose (id := 13) hp (by kernel_rfl) (by kernel_rfl) ?_ | refine AM.drawW_fine (id := 17) hp (by kernel_rfl) (by kernel_rfl) (by kernel_rfl) ?_ | refine AM.opW_tied (by kernel_rfl) ?_ | refine AM.opW_untied (by kernel_rfl) ?_))
      generalize hE_ : AHeap.put h14 _ _ = h15; obtain ⟨g15, fr15, n15, l15⟩ := AM.put_get hE_ (by omega); clear hE_
      (repeat' (first | (simp (maxSteps := 1000000) (disch := first | omega | (simp only [AM.DB, List.length_set, List.length_map]; first | done | omega)) only [AM.RB, Nat.reduceAdd, Nat.reduceMul, Nat.reduceEqDiff, reduceCtorEq, b20_RT4]) | refine AM.drawW_loose (id := 13) hp (by kernel_rfl) (by kernel_rfl) ?_ | refine AM.drawW_fine (id := 17) hp (by kernel_rfl) (by kernel_rfl) (by kernel_rfl) ?_ | refine AM.opW_tied (by kernel_rfl) ?_ | refine AM.opW_untied (by kernel_rfl) ?_))
      have n14 := fr14.next
      have s14 : ∀ id, idOf (.slice wa ((visA ((nbA L B cell a).take t) st).2.length + 1) wc) id → ¬ (id = h6.next) ∧ (idOf (.slice va (visA ((nbA L B cell a).take t) st).2.length vc) id ∨ h11.next ≤ id) := fun id q => by
        rcases hid14 id q with q | q
        · exact ⟨(kv1 id q).2.1, .inl q⟩
        · exact ⟨by omega, .inr (by omega)⟩
      have fr1115 : Fr (fun id => id = h.next + 1 ∨ id = h6.next ∨ idOf (.slice va (visA ((nbA L B cell a).take t) st).2.length vc) id) h11 h15 := (((fr12.mono fun id _ q => .inl q).trans fr13.weak).trans (fr14.mono fun id _ q => .inr (.inr q))).trans (fr15.mono fun id _ q => .inr (.inl q))
      have nx15 := fr1115.next
      have new12 := i10.c
      have ltn : ∀ id, idOf (.slice na st.2.length nc) id → h6.next + 1 ≤ id ∧ id < h8.next := fun id q => ⟨new8 id q, o8.lt q⟩
      have hAl : ∀ id, A1 id → h10.next ≤ id := hA
      have o15 := o14.fr fr15 (fun id q => (s14 id q).1)
      have eL2 : (visA ((nbA L B cell a).take (t + 1)) st).2 = (visA ((nbA L B cell a).take t) st).2 ++ [b] := by rw [vs]
      refine ⟨by omega, by rw [← l15]; exact fr1115.low, fun id hid q => fr1115.old id hid fun q2 => ?_, by omega, hA, fun id => S id ∨ (idOf (.slice wa ((visA ((nbA L B cell a).take t) st).2.length + 1) wc) id ∧ h11.next ≤ id), ⟨_, g15, ⟨_, fr15.get q214 (fun q => by omega), ?_⟩, ?_, fun id q => ?_, fun id q => ?_, q7.then fr1115 (fun id hlt q => ?_)⟩, fun id q => ?_⟩
      · have hS6 : S id → h10.next ≤ id := q6 id
        have hSA : S id → ¬ A1 id := fun q => (hS id q).2
        rcases q2 with q2 | q2 | q2
        · rcases q with q | q | q | q | q | q
          · have := hAl id q; omega
          · omega
          · omega
          · omega
          · omega
          · have := hidN id q; omega
        · rcases q with q | q | q | q | q | q
          · have := hAl id q; omega
          · omega
          · omega
          · omega
          · omega
          · have := hidN id q; omega
        · rcases q5 id q2 with q2 | q2
          · rcases q with q | q | q | q | q | q
            · exact hSA q2 q
            · have := hS6 q2; omega
            · have := hS6 q2; omega
            · have := hS6 q2; omega
            · have := hS6 q2; omega
            · have := hS6 q2; have := oN.lt q; omega
          · have := ltn id q2
            rcases q with q | q | q | q | q | q
            · have := hAl id q; omega
            · omega
            · omega
            · omega
            · omega
            · have := hidN id q; omega
      · rw [vs]; exact q3.set b _ hk'
      · rw [eL2]; simpa using o15
      · rcases s14 id q with ⟨_, t1 | t1⟩
        · rcases q5 id t1 with t1 | t1
          · exact .inl (.inl t1)
          · exact .inr t1
        · exact .inl (.inr ⟨q, t1⟩)
      · rcases q with q | q
        · exact q6 id q
        · have := q.2; omega
      · rcases q with q | q | q
        · exact .inl q
        · exact .inr (.inl q)
        · rcases q5 id q with q | q
          · have := q6 id q; omega
          · exact .inr (.inr q)
      · rcases q with q | q
        · have := hS id q; exact ⟨by omega, this.2⟩
        · have l1 := o15.lt q.1
          exact ⟨l1, fun e => by have := (hA1 id e).2; have := q.2; omega⟩
  · rintro A1 h11 ⟨hB, hA, S, ⟨vn', q1, ⟨dl, q2, q3⟩, q4, q5, q6, q7⟩, hS⟩ hA1 hn11 hl11
    rw [List.length_map, List.take_length] at q3 q4
    obtain ⟨va, vc, rfl⟩ := q4.form
    rw [← rs] at q1 q3 q4 q5
    have lenA0 : K0.length ≤ L.flatten.length := nodup_len gd0.1 hK0r
    have lenA1 : A.length ≤ K0.length := gd0.2
    have s8 : ∀ id, idOf (.slice na st.2.length nc) id → h6.next + 1 ≤ id := new8
    have nn : ∀ id, idOf (.slice va (rndA (nbA L B cell) (A.take (i + 1)) (K0, [])).2.length vc) id → h6.next + 1 ≤ id := fun id q => by
      rcases q5 id q with q | q
      · have := q6 id q; omega
      · exact s8 id q
    have ic := i10.c
    have ew : IntKind.i64.wrap ((i : Int) + 1) = i + 1 := AM.wrap_i64 (by omega) (by omega)
    (repeat' (first | (simp (maxSteps := 1000000) (disch := first | omega | (simp only [AM.DB, List.length_set, List.length_map]; first | done | omega)) only [AM.RB, Nat.reduceAdd, Nat.reduceMul, Nat.reduceEqDiff, reduceCtorEq, b20_RT4, ew]) | refine AM.drawW_loose (id := 13) hp (by kernel_rfl) (by kernel_rfl) ?_ | refine AM.drawW_fine (id := 17) hp (by kernel_rfl) (by kernel_rfl) (by kernel_rfl) ?_ | refine AM.opW_tied (by kernel_rfl) ?_ | refine AM.opW_untied (by kernel_rfl) ?_))
    refine ⟨(i + 1, _), by simp only; omega, ?_, by simp only; omega, fun id => (C8 id ∨ id = h9.next ∨ id = h9.next + 1) ∨ idOf (.slice va (rndA (nbA L B cell) (A.take (i + 1)) (K0, [])).2.length vc) id, ?_, .inl (.inl c12), fun id q => .inr q, q1, q4, nn, by omega⟩
    · simp (maxSteps := 1000000) (disch := first | omega | (simp only [AM.DB, List.length_set, List.length_map]; first | done | omega)) only [AM.RB, Nat.reduceAdd, Nat.reduceMul, Nat.reduceEqDiff, reduceCtorEq, b20_RT4]
      first | rfl | skip
    · have hd : ∃ dl, h11.get (h.next + 1) = some (.map (encM dl)) ∧ keysM dl (rndA (nbA L B cell) (A.take (i + 1)) (K0, [])).1 := ⟨dl, q2, q3⟩
      have lti8 : ∀ id, C8 id → id < h8.next := i8.m.2
      refine i10.step q7 ?_ ?_ ?_ ?_ (fun id q q2 => ?_) hd ?_ (fun id q => .inl q) (i10.fr.then q7 fun id hlt q => ?_)
      · rintro (q | q | q)
        · omega
        · omega
        · have := s8 _ q; omega
      · rintro (q | q | q)
        · omega
        · omega
        · have := s8 _ q; omega
      · rintro (q | q | q)
        · omega
        · omega
        · have := s8 _ q; omega
      · rintro (q | q | q)
        · omega
        · omega
        · have := s8 _ q; omega
      · have := lta id q
        have := i8.new id q
        rcases q2 with q2 | q2 | q2
        · omega
        · omega
        · have := s8 _ q2; omega
      · refine i10.m.frC q7 (fun id q => ?_) (fun id q => ?_)
        · rcases q with q | q | q
          · rw [q]; exact .inl (i8.cO.2.2.2.1)
          · rw [q]; exact .inl c12
          · exact .inl (cvn id q)
        · rcases q with q | q
          · exact .inl q
          · rcases q5 id q with q3 | q3
            · exact .inr ⟨q6 id q3, q4.lt q⟩
            · exact .inl (.inl (cvn id q3))
      · rcases q with q | q | q
        · omega
        · omega
        · have := s8 _ q; omega
  · exact fun _ _ _ q => q.elim
end Go.Proofs.YtgdcbjpookldoaaDoor

namespace Go.Proofs.YtgdcbjpookldoaaDoor
open Go.AM
set_option maxRecDepth 8000
theorem b16_RT7 : type_of% (And.intro (@Option.isNone_none.{0}) (And.intro (@Option.isNone_some.{0}) (And.intro (@AM.bin_add) (And.intro (@AM.bin_eql) (And.intro (@AM.bin_lss) (And.intro (@AM.bin_neq) (And.intro (AM.bin_pnil ul_23) (And.intro (@AM.bin_sub) (And.intro (@AM.iaO_ok) (And.intro (AM.ia_slice el_22) (And.intro (@AM.ldO_agg) (And.intro (@AM.ldO_one) (And.intro (@AM.ld_ptr) (And.intro (AM.len_slice ul_22) (And.intro (@lk_3) (And.intro (@AM.op_binOp) (And.intro (@AM.op_call) (And.intro (@AM.op_indexAddr) (And.intro (@AM.op_len) (And.intro (@AM.op_load) (And.intro (@AM.op_slice) (And.intro (@AM.op_unOp) (And.intro (@AM.un_neg) (@AM.un_not)))))))))))))))))))))))) := And.intro (@Option.isNone_none.{0}) (And.intro (@Option.isNone_some.{0}) (And.intro (@AM.bin_add) (And.intro (@AM.bin_eql) (And.intro (@AM.bin_lss) (And.intro (@AM.bin_neq) (And.intro (AM.bin_pnil ul_23) (And.intro (@AM.bin_sub) (And.intro (@AM.iaO_ok) (And.intro (AM.ia_slice el_22) (And.intro (@AM.ldO_agg) (And.intro (@AM.ldO_one) (And.intro (@AM.ld_ptr) (And.intro (AM.len_slice ul_22) (And.intro (@lk_3) (And.intro (@AM.op_binOp) (And.intro (@AM.op_call) (And.intro (@AM.op_indexAddr) (And.intro (@AM.op_len) (And.intro (@AM.op_load) (And.intro (@AM.op_slice) (And.intro (@AM.op_unOp) (And.intro (@AM.un_neg) (@AM.un_not)))))))))))))))))))))))


/-! ### Whether cells are a route -/
def okS (L : List (List UInt8)) (B X : List Int) (i : Nat) : Bool := edgeL L (X.getD i 0) (X.getD (i + 1) 0) && !decide (X.getD (i + 1) 0 ∈ B)
def okN (L : List (List UInt8)) (B X : List Int) (k : Nat) : Bool := (List.range k).all (okS L B X)
theorem okN_succ (L : List (List UInt8)) (B X : List Int) (k : Nat) : okN L B X (k + 1) = (okN L B X k && okS L B X k) := by
  unfold okN; rw [List.range_succ, List.all_append]; simp
theorem okN_bad {L : List (List UInt8)} {B X : List Int} {k i : Nat} (h : okS L B X i = false) (hi : i < k) : okN L B X k = false := by
  unfold okN
  rw [Bool.eq_false_iff]
  intro q
  have := List.all_eq_true.1 q i (List.mem_range.2 hi)
  rw [h] at this; cases this
/-- What the program says of cells. -/
def chkR (L : List (List UInt8)) (B X : List Int) : Int := if X.length = 0 then 2 else if freeP L.flatten (X.getD 0 0) = true ∧ freeP L.flatten (X.getD (X.length - 1) 0) = true then (if okN L B X (X.length - 1) = true then 0 else 40) else 2

set_option maxHeartbeats 4000000 in
theorem check_w {h : AHeap} {p : Nat} {L : List (List UInt8)} {B0 : Nat → Prop} (m : Mk h p L B0) (f : Fit L) (hw : h.get GW = some (.cells waysC 123 false)) (hgl : GW < h.low) (hgp : ¬ GW = p) (hl : h.low ≤ h.next) {s : Value} {n : Nat} {X : List Int} (hX : Rd h 3 1 s n (X.map (.int .i64))) (hpX : ∀ id, idOf s id → ¬ id = p) {sb : Value} {nb : Nat} {B : List Int} (hB : Rd h 3 1 sb nb (B.map (.int .i64))) (hpB : ∀ id, idOf sb id → ¬ id = p) (hn : n ≤ 4000000) (hnb : nb ≤ 4000000) {Q : VQ}
    (hq : ∀ h', Mk h' p L B0 → Fr (fun id => id = p) h h' → Q (.int .i64 (chkR L B X)) h') : W 16 [pv p, s, sb] h Q := by
  have hlen : X.length = n := by have := hX.length; rw [List.length_map] at this; omega
  have d00 : decide ((0 : Int) = 0) = true := rfl
  have d20 : decide ((2 : Int) = 0) = false := rfl
  unfold chkR at hq
  rw [hlen] at hq
  obtain ⟨xb, xc, rfl⟩ := hB.form
  by_cases hz : n = 0
  · subst hz
    rw [if_pos rfl] at hq
    obtain ⟨xa, xk, rfl⟩ := hX.form
    refine AM.enter hp (fn := Tryd.f16) (rs := [.tmp 6]) (nt := 51) (by kernel_rfl) Tryd.func16 rfl rfl rfl (by kernel_rfl) ?_
    (repeat' (first | (simp (maxSteps := 1000000) (disch := first | omega | (simp only [AM.DB, List.length_set, List.length_map]; first | done | omega)) only [AM.RB, Nat.reduceAdd, Nat.reduceMul, Nat.reduceEqDiff, reduceCtorEq, b16_RT7, d00]) | refine AM.drawW_fine hp (by kernel_rfl) (by kernel_rfl) (by kernel_rfl) ?_ | refine AM.opW_tied (by kernel_rfl) ?_ | refine AM.opW_untied (by kernel_rfl) ?_))
    exact hq h m (Fr.refl _ _)
  rw [if_neg hz] at hq
  have hX' := hX
  rcases hX' with ⟨_, q, _⟩ | ⟨id, off, cap, c, e', o, rfl, hnc, hg, hfc, hd, he⟩
  · exact absurd q hz
  obtain rfl : e' = 3 := he.resolve_left (by omega)
  have dn : decide ((n : Int) = 0) = false := decide_eq_false (by omega)
  refine AM.enter hp (fn := Tryd.f16) (rs := [.tmp 6]) (nt := 51) (by kernel_rfl) Tryd.func16 rfl rfl rfl (by kernel_rfl) ?_
  (repeat' (first | (simp (maxSteps := 1000000) (disch := first | omega | (simp only [AM.DB, List.length_set, List.length_map]; first | done | omega)) only [AM.RB, Nat.reduceAdd, Nat.reduceMul, Nat.reduceEqDiff, reduceCtorEq, b16_RT7, dn, hX.ia el_22, Rd.ldi hX lk_3, Int.toNat_natCast, AM.wrap_i64]) | refine AM.drawW_fine hp (by kernel_rfl) (by kernel_rfl) (by kernel_rfl) ?_ | refine AM.opW_tied (by kernel_rfl) ?_ | refine AM.opW_untied (by kernel_rfl) ?_))
  have e1 : ((n : Int) - 1).toNat = n - 1 := by omega
  have e0 : Int.toNat 0 = 0 := rfl
  (repeat' (first | (simp (maxSteps := 1000000) (disch := first | omega | (simp only [AM.DB, List.length_set, List.length_map]; first | done | omega)) only [AM.RB, Nat.reduceAdd, Nat.reduceMul, Nat.reduceEqDiff, reduceCtorEq, b16_RT7, e1, e0]) | refine AM.drawW_fine hp (by kernel_rfl) (by kernel_rfl) (by kernel_rfl) ?_ | refine AM.opW_tied (by kernel_rfl) ?_ | refine AM.opW_untied (by kernel_rfl) ?_))
  refine may_w m f (X.getD 0 0) (X.getD (n - 1) 0) ?_
  cases hff : (freeP L.flatten (X.getD 0 0) && freeP L.flatten (X.getD (n - 1) 0)) with
  | false =>
    have h1 : ¬ (freeP L.flatten (X.getD 0 0) = true ∧ freeP L.flatten (X.getD (n - 1) 0) = true) := by
      rw [← Bool.and_eq_true, hff]; simp
    rw [if_neg h1] at hq ⊢
    (repeat' (first | (simp (maxSteps := 1000000) (disch := first | omega | (simp only [AM.DB, List.length_set, List.length_map]; first | done | omega)) only [AM.RB, Nat.reduceAdd, Nat.reduceMul, Nat.reduceEqDiff, reduceCtorEq, b16_RT7, d20]) | refine AM.drawW_fine hp (by kernel_rfl) (by kernel_rfl) (by kernel_rfl) ?_ | refine AM.opW_tied (by kernel_rfl) ?_ | refine AM.opW_untied (by kernel_rfl) ?_))
    exact hq h m (Fr.refl _ _)
  | true =>
  have h1 : freeP L.flatten (X.getD 0 0) = true ∧ freeP L.flatten (X.getD (n - 1) 0) = true := by
    rw [← Bool.and_eq_true, hff]
  rw [if_pos h1] at hq ⊢
  have t1 : Int.toNat 1 = 1 := rfl
  (repeat' (first | (simp (maxSteps := 1000000) (disch := first | omega | (simp only [AM.DB, List.length_set, List.length_map]; first | done | omega)) only [AM.RB, Nat.reduceAdd, Nat.reduceMul, Nat.reduceEqDiff, reduceCtorEq, b16_RT7, d00, AM.slc el_22 hg, AM.slbs_lo_i, t1, Nat.mul_one]) | refine AM.drawW_fine hp (by kernel_rfl) (by kernel_rfl) (by kernel_rfl) ?_ | refine AM.opW_tied (by kernel_rfl) ?_ | refine AM.opW_untied (by kernel_rfl) ?_))
  have rT : Rd h 3 1 (.slice (some ⟨id, off + 1, none⟩) (n - 1) (cap - 1)) (n - 1) ((X.drop 1).map (.int .i64)) := by
    refine .inr ⟨id, off + 1, cap - 1, c, 3, o, rfl, by omega, hg, by omega, ?_, .inr rfl⟩
    rw [List.map_drop, ← hd, List.drop_take, List.drop_drop]
    rw [show n * 1 - 1 = (n - 1) * 1 by omega]
  have dg : ∀ i, (X.drop 1).getD i 0 = X.getD (i + 1) 0 := fun i => by
    simp only [List.getD, List.getElem?_drop]
    rw [Nat.add_comm]
  refine AM.loop_w hp 51 (fun i : Nat => [(0, pv p), (1, .slice (some ⟨id, off, none⟩) n cap), (2, .slice xb nb xc), (30, .slice (some ⟨id, off + 1, none⟩) (n - 1) (cap - 1)), (31, .int .i64 (n - 1 : Nat)), (32, .int .i64 i)])
    (fun i h' => i ≤ n - 1 ∧ okN L B X i = true ∧ Mk h' p L B0 ∧ Fr (fun id => id = p) h h') (fun i => n - 1 - i) (by kernel_rfl) 0 ?_ ?_ ?_
  · simp (maxSteps := 1000000) (disch := first | omega | (simp only [AM.DB, List.length_set, List.length_map]; first | done | omega)) only [AM.RB, Nat.reduceAdd, Nat.reduceMul, Nat.reduceEqDiff, reduceCtorEq, b16_RT7]
    first | rfl | skip
  · exact ⟨Nat.zero_le _, rfl, m, Fr.refl _ _⟩
  rintro i h1 ρ ⟨hi, hok, m1, fr1⟩
  have hl1 := fr1.hl hl
  have hX1 := hX.fr fr1 hpX
  have rT1 := rT.fr fr1 (fun j q => hpX j q)
  have hw1 := fr1.get hw hgp
  have lo1 := fr1.low
  have ti : ((i : Int) + 1).toNat = i + 1 := by omega
  (repeat' (first | (simp (maxSteps := 1000000) (disch := first | omega | (simp only [AM.DB, List.length_set, List.length_map]; first | done | omega)) only [AM.RB, Nat.reduceAdd, Nat.reduceMul, Nat.reduceEqDiff, reduceCtorEq, b16_RT7]) | refine AM.drawW_fine hp (by kernel_rfl) (by kernel_rfl) (by kernel_rfl) ?_ | refine AM.opW_tied (by kernel_rfl) ?_ | refine AM.opW_untied (by kernel_rfl) ?_))
  refine AM.condV_split (fun hlt => ?_) (fun hlt => ?_)
  case' refine_2 =>
    obtain rfl : i = n - 1 := by omega
    rw [if_pos hok] at hq
    (repeat' (first | (simp (maxSteps := 1000000) (disch := first | omega | (simp only [AM.DB, List.length_set, List.length_map]; first | done | omega)) only [AM.RB, Nat.reduceAdd, Nat.reduceMul, Nat.reduceEqDiff, reduceCtorEq, b16_RT7]) | refine AM.drawW_fine hp (by kernel_rfl) (by kernel_rfl) (by kernel_rfl) ?_ | refine AM.opW_tied (by kernel_rfl) ?_ | refine AM.opW_untied (by kernel_rfl) ?_))
    exact hq _ m1 fr1
  have hin : i < n - 1 := by omega
  have os := okN_succ L B X i
  rw [hok, Bool.true_and] at os
  (repeat' (first | (simp (maxSteps := 1000000) (disch := first | omega | (simp only [AM.DB, List.length_set, List.length_map]; first | done | omega)) only [AM.RB, Nat.reduceAdd, Nat.reduceMul, Nat.reduceEqDiff, reduceCtorEq, b16_RT7, rT1.ia el_22, Rd.ldi rT1 lk_3, hX1.ia el_22, Rd.ldi hX1 lk_3, Int.toNat_natCast, dg]) | refine AM.drawW_fine hp (by kernel_rfl) (by kernel_rfl) (by kernel_rfl) ?_ | refine AM.opW_tied (by kernel_rfl) ?_ | refine AM.opW_untied (by kernel_rfl) ?_))
  refine edgeK_w m1 f hw1 (by omega) hl1 (X.getD i 0) (X.getD (i + 1) 0) fun h2 m2 fr2 => ?_
  have fr02 := fr1.trans fr2
  have bad : okS L B X i = false → ¬ okN L B X (n - 1) = true := fun q => by rw [okN_bad q hin]; simp
  cases he : edgeL L (X.getD i 0) (X.getD (i + 1) 0) with
  | false =>
    rw [if_neg (bad (by unfold okS; rw [he]; rfl))] at hq
    (repeat' (first | (simp (maxSteps := 1000000) (disch := first | omega | (simp only [AM.DB, List.length_set, List.length_map]; first | done | omega)) only [AM.RB, Nat.reduceAdd, Nat.reduceMul, Nat.reduceEqDiff, reduceCtorEq, b16_RT7]) | refine AM.drawW_fine hp (by kernel_rfl) (by kernel_rfl) (by kernel_rfl) ?_ | refine AM.opW_tied (by kernel_rfl) ?_ | refine AM.opW_untied (by kernel_rfl) ?_))
    exact hq _ m2 fr02
  | true =>
    (repeat' (first | (simp (maxSteps := 1000000) (disch := first | omega | (simp only [AM.DB, List.length_set, List.length_map]; first | done | omega)) only [AM.RB, Nat.reduceAdd, Nat.reduceMul, Nat.reduceEqDiff, reduceCtorEq, b16_RT7]) | refine AM.drawW_fine hp (by kernel_rfl) (by kernel_rfl) (by kernel_rfl) ?_ | refine AM.opW_tied (by kernel_rfl) ?_ | refine AM.opW_untied (by kernel_rfl) ?_))
    refine contains_w (hB.fr fr02 hpB) (by omega) (X.getD (i + 1) 0) ?_
    cases hc : decide (X.getD (i + 1) 0 ∈ B) with
    | true =>
      rw [if_neg (bad (by unfold okS; rw [he, hc]; rfl))] at hq
      (repeat' (first | (simp (maxSteps := 1000000) (disch := first | omega | (simp only [AM.DB, List.length_set, List.length_map]; first | done | omega)) only [AM.RB, Nat.reduceAdd, Nat.reduceMul, Nat.reduceEqDiff, reduceCtorEq, b16_RT7]) | refine AM.drawW_fine hp (by kernel_rfl) (by kernel_rfl) (by kernel_rfl) ?_ | refine AM.opW_tied (by kernel_rfl) ?_ | refine AM.opW_untied (by kernel_rfl) ?_))
      exact hq _ m2 fr02
    | false =>
      have ok1 : okN L B X (i + 1) = true := by rw [os]; unfold okS; rw [he, hc]; rfl
      (repeat' (first | (simp (maxSteps := 1000000) (disch := first | omega | (simp only [AM.DB, List.length_set, List.length_map]; first | done | omega)) only [AM.RB, Nat.reduceAdd, Nat.reduceMul, Nat.reduceEqDiff, reduceCtorEq, b16_RT7, AM.wrap_i64]) | refine AM.drawW_fine hp (by kernel_rfl) (by kernel_rfl) (by kernel_rfl) ?_ | refine AM.opW_tied (by kernel_rfl) ?_ | refine AM.opW_untied (by kernel_rfl) ?_))
      refine ⟨i + 1, by omega, ?_, by omega, ok1, m2, fr02⟩
      simp (maxSteps := 1000000) (disch := first | omega | (simp only [AM.DB, List.length_set, List.length_map]; first | done | omega)) only [AM.RB, Nat.reduceAdd, Nat.reduceMul, Nat.reduceEqDiff, reduceCtorEq, b16_RT7]
      first | rfl | skip
end Go.Proofs.YtgdcbjpookldoaaDoor

namespace Go.Proofs.YtgdcbjpookldoaaDoor
open Go.AM
set_option maxRecDepth 8000
theorem b122_RT9 : type_of% (And.intro (@AM.bin_neq) (@AM.op_binOp)) := And.intro (@AM.bin_neq) (@AM.op_binOp)
theorem b112_RT9 : type_of% (And.intro (@AM.bin_gtr) (And.intro (@AM.bin_lss) (And.intro (@AM.op_binOp) (@AM.op_call)))) := And.intro (@AM.bin_gtr) (And.intro (@AM.bin_lss) (And.intro (@AM.op_binOp) (@AM.op_call)))
theorem b111_RT9 : type_of% (And.intro (@AM.bin_add) (And.intro (@AM.bin_lss) (And.intro (@AM.bin_neq) (And.intro (@AM.iaO_ok) (And.intro (AM.ia_slice el_22) (And.intro (@AM.ldO_agg) (And.intro (@AM.ldO_one) (And.intro (@AM.ld_ptr) (And.intro (AM.len_slice ul_22) (And.intro (@lk_3) (And.intro (@AM.op_binOp) (And.intro (@AM.op_indexAddr) (And.intro (@AM.op_len) (@AM.op_load)))))))))))))) := And.intro (@AM.bin_add) (And.intro (@AM.bin_lss) (And.intro (@AM.bin_neq) (And.intro (@AM.iaO_ok) (And.intro (AM.ia_slice el_22) (And.intro (@AM.ldO_agg) (And.intro (@AM.ldO_one) (And.intro (@AM.ld_ptr) (And.intro (AM.len_slice ul_22) (And.intro (@lk_3) (And.intro (@AM.op_binOp) (And.intro (@AM.op_indexAddr) (And.intro (@AM.op_len) (@AM.op_load)))))))))))))
theorem b104_RT9 : type_of% (And.intro (@AM.boxK_agg) (And.intro (@AM.boxK_bool) (And.intro (@AM.boxK_func) (And.intro (@AM.boxK_int) (And.intro (@AM.boxK_map) (And.intro (@AM.boxK_pointer) (And.intro (@AM.boxK_slice) (And.intro (@AM.boxK_string) (And.intro (AM.bsW_int bs_22) (And.intro (AM.bsW_int3 bs_22) (And.intro (AM.bsW_nil bs_22) (And.intro (AM.bsW_slice bs_22) (And.intro (AM.bsW_string bs_22) (And.intro (@AM.fa_ptr) (And.intro (@fd_133_0) (And.intro (@fd_133_1) (And.intro (@fd_133_2) (And.intro (@AM.ldO_agg) (And.intro (@AM.ldO_one) (And.intro (@AM.ld_ptr) (And.intro (@lk_3) (And.intro (@AM.op_box) (And.intro (@AM.op_buildSlice) (And.intro (@AM.op_call) (And.intro (@AM.op_fieldAddr) (@AM.op_load)))))))))))))))))))))))))) := And.intro (@AM.boxK_agg) (And.intro (@AM.boxK_bool) (And.intro (@AM.boxK_func) (And.intro (@AM.boxK_int) (And.intro (@AM.boxK_map) (And.intro (@AM.boxK_pointer) (And.intro (@AM.boxK_slice) (And.intro (@AM.boxK_string) (And.intro (AM.bsW_int bs_22) (And.intro (AM.bsW_int3 bs_22) (And.intro (AM.bsW_nil bs_22) (And.intro (AM.bsW_slice bs_22) (And.intro (AM.bsW_string bs_22) (And.intro (@AM.fa_ptr) (And.intro (@fd_133_0) (And.intro (@fd_133_1) (And.intro (@fd_133_2) (And.intro (@AM.ldO_agg) (And.intro (@AM.ldO_one) (And.intro (@AM.ld_ptr) (And.intro (@lk_3) (And.intro (@AM.op_box) (And.intro (@AM.op_buildSlice) (And.intro (@AM.op_call) (And.intro (@AM.op_fieldAddr) (@AM.op_load)))))))))))))))))))))))))
theorem b94_RT9 : type_of% (And.intro (@Option.isNone_none.{0}) (And.intro (@Option.isNone_some.{0}) (And.intro (@AM.bin_gtr) (And.intro (@AM.bin_leq) (And.intro (AM.bin_pnil ul_142) (And.intro (@AM.bin_quo) (And.intro (@AM.bin_sub) (And.intro (@AM.boxK_agg) (And.intro (@AM.boxK_bool) (And.intro (@AM.boxK_func) (And.intro (@AM.boxK_int) (And.intro (@AM.boxK_map) (And.intro (@AM.boxK_pointer) (And.intro (@AM.boxK_slice) (And.intro (@AM.boxK_string) (And.intro (AM.bsW_agg bs_128) (And.intro (AM.bsW_nil bs_128) (And.intro (@AM.fa_ptr) (And.intro (@fd_130_0) (And.intro (@AM.iaO_ok) (And.intro (AM.ia_slice el_128) (And.intro (@AM.ldO_agg) (And.intro (@AM.ldO_one) (And.intro (@AM.ld_ptr) (And.intro (AM.len_slice ul_128) (And.intro (@lk_128) (And.intro (@lk_133) (And.intro (@AM.op_append) (And.intro (@AM.op_binOp) (And.intro (@AM.op_box) (And.intro (@AM.op_buildSlice) (And.intro (@AM.op_call) (And.intro (@AM.op_fieldAddr) (And.intro (@AM.op_indexAddr) (And.intro (@AM.op_len) (And.intro (@AM.op_load) (And.intro (@AM.op_nilCheck) (And.intro (@AM.op_store) (And.intro (@AM.stO_agg) (And.intro (@AM.stO_bool) (And.intro (@AM.stO_int) (And.intro (@AM.stO_map) (And.intro (@AM.stO_pointer) (And.intro (@AM.stO_slice) (And.intro (@AM.stO_string) (And.intro (@AM.st_ptr) (And.intro (@sz_128) (@sz_133)))))))))))))))))))))))))))))))))))))))))))))))) := And.intro (@Option.isNone_none.{0}) (And.intro (@Option.isNone_some.{0}) (And.intro (@AM.bin_gtr) (And.intro (@AM.bin_leq) (And.intro (AM.bin_pnil ul_142) (And.intro (@AM.bin_quo) (And.intro (@AM.bin_sub) (And.intro (@AM.boxK_agg) (And.intro (@AM.boxK_bool) (And.intro (@AM.boxK_func) (And.intro (@AM.boxK_int) (And.intro (@AM.boxK_map) (And.intro (@AM.boxK_pointer) (And.intro (@AM.boxK_slice) (And.intro (@AM.boxK_string) (And.intro (AM.bsW_agg bs_128) (And.intro (AM.bsW_nil bs_128) (And.intro (@AM.fa_ptr) (And.intro (@fd_130_0) (And.intro (@AM.iaO_ok) (And.intro (AM.ia_slice el_128) (And.intro (@AM.ldO_agg) (And.intro (@AM.ldO_one) (And.intro (@AM.ld_ptr) (And.intro (AM.len_slice ul_128) (And.intro (@lk_128) (And.intro (@lk_133) (And.intro (@AM.op_append) (And.intro (@AM.op_binOp) (And.intro (@AM.op_box) (And.intro (@AM.op_buildSlice) (And.intro (@AM.op_call) (And.intro (@AM.op_fieldAddr) (And.intro (@AM.op_indexAddr) (And.intro (@AM.op_len) (And.intro (@AM.op_load) (And.intro (@AM.op_nilCheck) (And.intro (@AM.op_store) (And.intro (@AM.stO_agg) (And.intro (@AM.stO_bool) (And.intro (@AM.stO_int) (And.intro (@AM.stO_map) (And.intro (@AM.stO_pointer) (And.intro (@AM.stO_slice) (And.intro (@AM.stO_string) (And.intro (@AM.st_ptr) (And.intro (@sz_128) (@sz_133)))))))))))))))))))))))))))))))))))))))))))))))


/-! ### The pile -/
theorem isNaN_w (a : Int) (h : AHeap) (Q : VQ) (hq : Q (.bool false) h) : W 122 [.int .i64 a] h Q := by
  refine AM.enter hp (fn := Tryd.f122) (rs := [.tmp 2]) (nt := 6) (by kernel_rfl) Tryd.func122 rfl rfl rfl (by kernel_rfl) ?_
  (first | (simp (maxSteps := 1000000) (disch := first | omega | (simp only [AM.DB, List.length_set, List.length_map]; first | done | omega)) only [AM.RB, Nat.reduceAdd, Nat.reduceMul, Nat.reduceEqDiff, reduceCtorEq, b122_RT9, decide_eq_true (rfl : a = a)]) | skip)
  exact hq
theorem compare_w (a b : Int) (h : AHeap) (Q : VQ) (hq : Q (.int .i64 (AM.cmpN a b)) h) : W 112 [.int .i64 a, .int .i64 b] h Q := by
  refine AM.enter hp (fn := Tryd.f112) (rs := [.tmp 4]) (nt := 20) (by kernel_rfl) Tryd.func112 rfl rfl rfl (by kernel_rfl) ?_
  (first | (simp (maxSteps := 1000000) (disch := first | omega | (simp only [AM.DB, List.length_set, List.length_map]; first | done | omega)) only [AM.RB, Nat.reduceAdd, Nat.reduceMul, Nat.reduceEqDiff, reduceCtorEq, b112_RT9]) | skip)
  refine isNaN_w a _ _ ?_
  (first | (simp (maxSteps := 1000000) (disch := first | omega | (simp only [AM.DB, List.length_set, List.length_map]; first | done | omega)) only [AM.RB, Nat.reduceAdd, Nat.reduceMul, Nat.reduceEqDiff, reduceCtorEq, b112_RT9]) | skip)
  refine isNaN_w b _ _ ?_
  unfold AM.cmpN at hq
  by_cases c1 : a < b
  · rw [if_pos c1] at hq
    (first | (simp (maxSteps := 1000000) (disch := first | omega | (simp only [AM.DB, List.length_set, List.length_map]; first | done | omega)) only [AM.RB, Nat.reduceAdd, Nat.reduceMul, Nat.reduceEqDiff, reduceCtorEq, b112_RT9, decide_eq_true c1]) | skip)
    exact hq
  · rw [if_neg c1] at hq
    by_cases c2 : b < a
    · rw [if_pos c2] at hq
      (first | (simp (maxSteps := 1000000) (disch := first | omega | (simp only [AM.DB, List.length_set, List.length_map]; first | done | omega)) only [AM.RB, Nat.reduceAdd, Nat.reduceMul, Nat.reduceEqDiff, reduceCtorEq, b112_RT9, decide_eq_false c1, decide_eq_true c2]) | skip)
      exact hq
    · rw [if_neg c2] at hq
      (first | (simp (maxSteps := 1000000) (disch := first | omega | (simp only [AM.DB, List.length_set, List.length_map]; first | done | omega)) only [AM.RB, Nat.reduceAdd, Nat.reduceMul, Nat.reduceEqDiff, reduceCtorEq, b112_RT9, decide_eq_false c1, decide_eq_false c2]) | skip)
      exact hq
theorem or_w {s : Value} {l : List Int} {h : AHeap} (hs : Rd h 3 1 s l.length (l.map (.int .i64))) (hn : l.length ≤ 4000000) {Q : VQ} (hq : Q (.int .i64 (AM.orN l)) h) : W 111 [s] h Q := by
  obtain ⟨sa, sc, rfl⟩ := hs.form
  refine AM.enter hp (fn := Tryd.f111) (rs := [.tmp 2]) (nt := 18) (by kernel_rfl) Tryd.func111 rfl rfl rfl (by kernel_rfl) ?_
  (first | (simp (maxSteps := 1000000) (disch := first | omega | (simp only [AM.DB, List.length_set, List.length_map]; first | done | omega)) only [AM.RB, Nat.reduceAdd, Nat.reduceMul, Nat.reduceEqDiff, reduceCtorEq, b111_RT9]) | skip)
  refine AM.loop_w hp 18 (fun i : Nat => [(3, .int .i64 0), (6, .slice sa l.length sc), (7, .int .i64 l.length), (8, .int .i64 i)])
    (fun i h' => h' = h ∧ i ≤ l.length ∧ AM.orN (l.drop i) = AM.orN l) (fun i => l.length - i) (by kernel_rfl) 0 ?_ ?_ ?_
  · simp (maxSteps := 1000000) (disch := first | omega | (simp only [AM.DB, List.length_set, List.length_map]; first | done | omega)) only [AM.RB, Nat.reduceAdd, Nat.reduceMul, Nat.reduceEqDiff, reduceCtorEq, b111_RT9]
    first | rfl | skip
  · exact ⟨rfl, Nat.zero_le _, rfl⟩
  rintro i h1 ρ ⟨rfl, hi, ho⟩
  (first | (simp (maxSteps := 1000000) (disch := first | omega | (simp only [AM.DB, List.length_set, List.length_map]; first | done | omega)) only [AM.RB, Nat.reduceAdd, Nat.reduceMul, Nat.reduceEqDiff, reduceCtorEq, b111_RT9]) | skip)
  refine AM.condV_split (fun hlt => ?_) (fun hlt => ?_)
  · have hin : i < l.length := by omega
    by_cases c : l.getD i 0 = 0
    · (first | (simp (maxSteps := 1000000) (disch := first | omega | (simp only [AM.DB, List.length_set, List.length_map]; first | done | omega)) only [AM.RB, Nat.reduceAdd, Nat.reduceMul, Nat.reduceEqDiff, reduceCtorEq, b111_RT9, hs.ia el_22, Rd.ldi hs lk_3, Int.toNat_natCast, decide_eq_true c, AM.wrap_i64]) | skip)
      refine ⟨i + 1, by omega, ?_, by omega, by rw [AM.orN_step hin c]; exact ho⟩
      simp (maxSteps := 1000000) (disch := first | omega | (simp only [AM.DB, List.length_set, List.length_map]; first | done | omega)) only [AM.RB, Nat.reduceAdd, Nat.reduceMul, Nat.reduceEqDiff, reduceCtorEq, b111_RT9]
      first | rfl | skip
    · rw [← ho, AM.orN_hit hin c] at hq
      (first | (simp (maxSteps := 1000000) (disch := first | omega | (simp only [AM.DB, List.length_set, List.length_map]; first | done | omega)) only [AM.RB, Nat.reduceAdd, Nat.reduceMul, Nat.reduceEqDiff, reduceCtorEq, b111_RT9, hs.ia el_22, Rd.ldi hs lk_3, Int.toNat_natCast, decide_eq_false c]) | skip)
      exact hq
  · obtain rfl : i = l.length := by omega
    rw [List.drop_length] at ho
    rw [← ho] at hq
    (first | (simp (maxSteps := 1000000) (disch := first | omega | (simp only [AM.DB, List.length_set, List.length_map]; first | done | omega)) only [AM.RB, Nat.reduceAdd, Nat.reduceMul, Nat.reduceEqDiff, reduceCtorEq, b111_RT9]) | skip)
    exact hq
theorem pcmp_w (a b : AM.It) {h : AHeap} (hl : h.low ≤ h.next) {Q : VQ} (hq : ∀ h', Fr none' h h' → Q (.int .i64 (AM.cmpI a b)) h') : W 104 [.agg (AM.encI a).toArray, .agg (AM.encI b).toArray] h Q := by
  unfold AM.encI
  refine AM.enter hp (fn := Tryd.f104) (rs := [.tmp 4]) (nt := 22) (by kernel_rfl) Tryd.func104 rfl rfl rfl (by kernel_rfl) ?_
  (repeat' (first | (simp (maxSteps := 1000000) (disch := first | omega | (simp only [AM.DB, List.length_set, List.length_map]; first | done | omega)) only [AM.RB, Nat.reduceAdd, Nat.reduceMul, Nat.reduceEqDiff, reduceCtorEq, b104_RT9]) | refine AM.drawW_loose (id := 1) hp (by kernel_rfl) (by kernel_rfl) ?_ | refine AM.opW_tied (by kernel_rfl) ?_ | refine AM.opW_untied (by kernel_rfl) ?_))
  generalize hE_ : AHeap.alloc h _ = h1; obtain ⟨g1, fr1, n1, l1⟩ := AM.new_get hE_; clear hE_
  generalize hE_ : AHeap.alloc h1 _ = h2; obtain ⟨g2, fr2, n2, l2⟩ := AM.new_get hE_; clear hE_
  have g12 := g1.fr0 fr2
  rw [n1] at g2
  refine compare_w a.1 b.1 _ _ ?_
  (repeat' (first | (simp (maxSteps := 1000000) (disch := first | omega | (simp only [AM.DB, List.length_set, List.length_map]; first | done | omega)) only [AM.RB, Nat.reduceAdd, Nat.reduceMul, Nat.reduceEqDiff, reduceCtorEq, b104_RT9, g12, g2]) | refine AM.drawW_loose (id := 1) hp (by kernel_rfl) (by kernel_rfl) ?_ | refine AM.opW_tied (by kernel_rfl) ?_ | refine AM.opW_untied (by kernel_rfl) ?_))
  refine compare_w 0 0 _ _ ?_
  (repeat' (first | (simp (maxSteps := 1000000) (disch := first | omega | (simp only [AM.DB, List.length_set, List.length_map]; first | done | omega)) only [AM.RB, Nat.reduceAdd, Nat.reduceMul, Nat.reduceEqDiff, reduceCtorEq, b104_RT9, g12, g2]) | refine AM.drawW_loose (id := 1) hp (by kernel_rfl) (by kernel_rfl) ?_ | refine AM.opW_tied (by kernel_rfl) ?_ | refine AM.opW_untied (by kernel_rfl) ?_))
  refine compare_w a.2 b.2 _ _ ?_
  (repeat' (first | (simp (maxSteps := 1000000) (disch := first | omega | (simp only [AM.DB, List.length_set, List.length_map]; first | done | omega)) only [AM.RB, Nat.reduceAdd, Nat.reduceMul, Nat.reduceEqDiff, reduceCtorEq, b104_RT9, g12, g2]) | refine AM.drawW_loose (id := 1) hp (by kernel_rfl) (by kernel_rfl) ?_ | refine AM.opW_tied (by kernel_rfl) ?_ | refine AM.opW_untied (by kernel_rfl) ?_))
  generalize hE_ : AHeap.alloc h2 _ = h3; obtain ⟨g3, fr3, n3, l3⟩ := AM.new_get hE_; clear hE_
  have fr03 := (fr1.trans fr2).trans fr3
  refine or_w (l := [AM.cmpN a.1 b.1, AM.cmpN 0 0, AM.cmpN a.2 b.2]) (AM.Rd.whole (n := 3) g3 rfl) (by simp) ?_
  rw [show AM.cmpN 0 0 = 0 from rfl, AM.orN_cmp]
  (repeat' (first | (simp (maxSteps := 1000000) (disch := first | omega | (simp only [AM.DB, List.length_set, List.length_map]; first | done | omega)) only [AM.RB, Nat.reduceAdd, Nat.reduceMul, Nat.reduceEqDiff, reduceCtorEq, b104_RT9]) | refine AM.drawW_loose (id := 1) hp (by kernel_rfl) (by kernel_rfl) ?_ | refine AM.opW_tied (by kernel_rfl) ?_ | refine AM.opW_untied (by kernel_rfl) ?_))
  have g123 := g12.fr0 fr3
  have g23 := g2.fr0 fr3
  refine ⟨AM.looseOk_by [(6, [0, 5]), (8, [0, 5]), (11, [0, 5, 10]), (13, [0, 5, 10])] (by kernel_rfl) ?_, ?_⟩
  · simp (maxSteps := 1000000) (disch := first | omega | (simp only [AM.DB, List.length_set, List.length_map]; first | done | omega)) only [AM.RB, Nat.reduceAdd, Nat.reduceMul, Nat.reduceEqDiff, reduceCtorEq, b104_RT9]
    (repeat' apply And.intro) <;> (first | (refine AM.stable_len _ _ _ _ _ _ (fun _ => ?_); (simp (maxSteps := 1000000) (disch := first | omega | (simp only [AM.DB, List.length_set, List.length_map]; first | done | omega)) only [AM.RB, Nat.reduceAdd, Nat.reduceMul, Nat.reduceEqDiff, reduceCtorEq, b104_RT9, g12, g2, g123, g23])) | (refine AM.stable_load _ _ _ _ _ _ ?_; (first | (simp (maxSteps := 1000000) (disch := first | omega | (simp only [AM.DB, List.length_set, List.length_map]; first | done | omega)) only [AM.RB, Nat.reduceAdd, Nat.reduceMul, Nat.reduceEqDiff, reduceCtorEq, b104_RT9, g12, g2, g123, g23]) | skip); (first | (refine AM.stabL_int (by omega) ?_; (simp (maxSteps := 1000000) (disch := first | omega | (simp only [AM.DB, List.length_set, List.length_map]; first | done | omega)) only [AM.RB, Nat.reduceAdd, Nat.reduceMul, Nat.reduceEqDiff, reduceCtorEq, b104_RT9, g12, g2, g123, g23])) | (refine AM.stabL_ptr (by omega) (by omega) ?_; (simp (maxSteps := 1000000) (disch := first | omega | (simp only [AM.DB, List.length_set, List.length_map]; first | done | omega)) only [AM.RB, Nat.reduceAdd, Nat.reduceMul, Nat.reduceEqDiff, reduceCtorEq, b104_RT9, g12, g2, g123, g23])) | (refine AM.stabL_string (by omega) ?_; (simp (maxSteps := 1000000) (disch := first | omega | (simp only [AM.DB, List.length_set, List.length_map]; first | done | omega)) only [AM.RB, Nat.reduceAdd, Nat.reduceMul, Nat.reduceEqDiff, reduceCtorEq, b104_RT9, g12, g2, g123, g23])) | (refine AM.stabL_bool (by omega) ?_; (simp (maxSteps := 1000000) (disch := first | omega | (simp only [AM.DB, List.length_set, List.length_map]; first | done | omega)) only [AM.RB, Nat.reduceAdd, Nat.reduceMul, Nat.reduceEqDiff, reduceCtorEq, b104_RT9, g12, g2, g123, g23])))))
  exact hq _ fr03

/-- A pile in memory: what it holds, in order. -/
structure Pl (h : AHeap) (pid : Nat) (P : List AM.It) (v : Value) : Prop where
  g : h.get pid = some (.cells [v] 130 false)
  o : Ow h 133 3 v P.length (P.flatMap AM.encI)
  lo : h.low ≤ pid
  na : ∀ id, idOf v id → pid < id
theorem Pl.fr {h h' : AHeap} {pid : Nat} {P : List AM.It} {v : Value} {T : Nat → Prop} (x : Pl h pid P v) (fr : Fr T h h') (h1 : ¬ T pid) (h2 : ∀ id, idOf v id → ¬ T id) : Pl h' pid P v :=
  ⟨fr.get x.g h1, x.o.fr fr h2, by rw [fr.low]; exact x.lo, x.na⟩
theorem Pl.fr0 {h h' : AHeap} {pid : Nat} {P : List AM.It} {v : Value} (x : Pl h pid P v) (fr : Fr none' h h') : Pl h' pid P v := x.fr fr (fun q => q) fun _ _ q => q

theorem quo2 (i : Nat) (h : 0 < i) : Int.tdiv ((i : Int) - 1) 2 = ((i - 1) / 2 : Nat) := by
  rw [show (i : Int) - 1 = ((i - 1 : Nat) : Int) by omega]; exact tdiv_nat (i - 1) 2

set_option maxHeartbeats 8000000 in
theorem push_w {h : AHeap} {pid : Nat} {P : List AM.It} {v : Value} (x : Pl h pid P v) (hP : AM.HeapP P) (hl : h.low ≤ h.next) (hn : P.length ≤ 4000000) (q : AM.It) {Q : VQ}
    (hq : ∀ u P' v' h', Pl h' pid P' v' → AM.HeapP P' → P'.Perm (q :: P) → Fr (fun id => id = pid ∨ idOf v id) h h' → (∀ id, idOf v' id → idOf v id ∨ h.next ≤ id) → Q u h') : W 94 [pv pid, .agg #[.int .i64 q.1, .int .i64 0, .int .i64 q.2]] h Q := by
  have lt0 := AM.get_some_lt x.g
  have lo0 := x.lo
  obtain ⟨va, vc, rfl⟩ := x.o.form
  refine AM.enter hp (fn := Tryd.f94) (rs := []) (nt := 60) (by kernel_rfl) Tryd.func94 rfl rfl rfl (by kernel_rfl) ?_
  (repeat' (first | (simp (maxSteps := 1000000) (disch := first | omega | (simp only [AM.DB, List.length_set, List.length_map]; first | done | omega)) only [AM.RB, Nat.reduceAdd, Nat.reduceMul, Nat.reduceEqDiff, reduceCtorEq, b94_RT9]) | refine AM.drawW_fine hp (by kernel_rfl) (by kernel_rfl) (by kernel_rfl) ?_ | refine AM.opW_tied (by kernel_rfl) ?_ | refine AM.opW_untied (by kernel_rfl) ?_))
  generalize hE_ : AHeap.alloc h _ = h1; obtain ⟨g1, fr1, n1, l1⟩ := AM.new_get hE_; clear hE_
  have x1 := x.fr0 fr1
  have xg := x1.g
  have xg0 := x.g
  (repeat' (first | (simp (maxSteps := 1000000) (disch := first | omega | (simp only [AM.DB, List.length_set, List.length_map]; first | done | omega)) only [AM.RB, Nat.reduceAdd, Nat.reduceMul, Nat.reduceEqDiff, reduceCtorEq, b94_RT9, xg, xg0, g1]) | refine AM.drawW_fine hp (by kernel_rfl) (by kernel_rfl) (by kernel_rfl) ?_ | refine AM.opW_tied (by kernel_rfl) ?_ | refine AM.opW_untied (by kernel_rfl) ?_))
  generalize hE_ : AHeap.alloc h1 _ = h2; obtain ⟨g2, fr2, n2, l2⟩ := AM.new_get hE_; clear hE_
  have x2 := x1.fr0 fr2
  refine AM.appends_w ap_128 ap_128 x2.o (AM.Rd.whole (n := 1) (c := AM.encI q) g2 rfl) rfl (by omega) (AM.fits (by omega) (by omega)) (AM.fits' (by omega)) fun v3 h3 o3 fr3 hid3 => ?_
  obtain ⟨ba, bc, rfl⟩ := o3.form
  have xg3 := fr3.get x2.g (fun e => by have := x.na _ e; omega)
  have lo3 : h3.low ≤ pid := by have := fr3.low; omega
  have g13 := fr3.get (g1.fr0 fr2) (fun e => by have := x.o.lt e; omega)
  have lt3 := AM.get_some_lt xg3
  (repeat' (first | (simp (maxSteps := 1000000) (disch := first | omega | (simp only [AM.DB, List.length_set, List.length_map]; first | done | omega)) only [AM.RB, Nat.reduceAdd, Nat.reduceMul, Nat.reduceEqDiff, reduceCtorEq, b94_RT9, xg3]) | refine AM.drawW_fine hp (by kernel_rfl) (by kernel_rfl) (by kernel_rfl) ?_ | refine AM.opW_tied (by kernel_rfl) ?_ | refine AM.opW_untied (by kernel_rfl) ?_))
  generalize hE_ : AHeap.put h3 _ _ = h4; obtain ⟨g4, fr4, n4, l4⟩ := AM.put_get hE_ (by omega); clear hE_
  have na3 : ∀ id, idOf (.slice ba (P.length + 1) bc) id → pid < id ∧ ¬ id = h.next := fun id e => by
    rcases hid3 id e with e | e
    · have := x.na id e; have := x.o.lt e; exact ⟨by omega, by omega⟩
    · exact ⟨by omega, by omega⟩
  have g14 := fr4.get g13 (fun e => by omega)
  have o4 := o3.fr fr4 (fun id e t => by have := (na3 id e).1; omega)
  have n34 := fr3.next
  have e1 : P.flatMap AM.encI ++ AM.encI q = (P ++ [q]).flatMap AM.encI := by simp
  rw [e1] at o4
  (repeat' (first | (simp (maxSteps := 1000000) (disch := first | omega | (simp only [AM.DB, List.length_set, List.length_map]; first | done | omega)) only [AM.RB, Nat.reduceAdd, Nat.reduceMul, Nat.reduceEqDiff, reduceCtorEq, b94_RT9, g4, AM.wrap_i64]) | refine AM.drawW_fine hp (by kernel_rfl) (by kernel_rfl) (by kernel_rfl) ?_ | refine AM.opW_tied (by kernel_rfl) ?_ | refine AM.opW_untied (by kernel_rfl) ?_))
  refine AM.loop_w hp 60 (fun z : Nat × List AM.It => [(0, pv pid), (3, pv h.next), (4, .int .i64 z.1)])
    (fun z h' => AM.Up z.2 z.1 q ∧ z.2.length = P.length + 1 ∧ (z.2.set z.1 q).Perm (q :: P) ∧ Ow h' 133 3 (.slice ba (P.length + 1) bc) (P.length + 1) (z.2.flatMap AM.encI) ∧ Fr (idOf (.slice ba (P.length + 1) bc)) h4 h') (fun z => z.1) (by kernel_rfl) (P.length, P ++ [q]) ?_ ?_ ?_
  · simp (maxSteps := 1000000) (disch := first | omega | (simp only [AM.DB, List.length_set, List.length_map]; first | done | omega)) only [AM.RB, Nat.reduceAdd, Nat.reduceMul, Nat.reduceEqDiff, reduceCtorEq, b94_RT9]
    rw [show (P.length : Int) + 1 - 1 = P.length by omega]
  · refine ⟨AM.Up.start hP q, by simp, ?_, o4, Fr.refl _ _⟩
    simp only
    rw [List.set_append_right _ _ (Nat.le_refl _), Nat.sub_self]
    exact List.perm_append_comm (l₂ := [q])
  rintro ⟨i, l⟩ h5 ρ ⟨up, hll, pm, o5, fr5⟩
  simp only at up hll pm o5 ⊢
  have hi := up.lt
  have g15 := fr5.get g14 (fun e => (na3 _ e).2 rfl)
  have g45 := fr5.get g4 (fun e => by have := (na3 _ e).1; omega)
  have lo5 := fr5.low
  have nx5 := fr5.next
  have r5 := o5.rd
  have fin : ∀ h8 (o8 : Ow h8 133 3 (.slice ba (P.length + 1) bc) (P.length + 1) ((l.set i q).flatMap AM.encI)) (fr8 : Fr (idOf (.slice ba (P.length + 1) bc)) h4 h8) (hh : AM.HeapP (l.set i q)) (u : Value), Q u h8 := fun h8 o8 fr8 hh u => by
    have g48 := fr8.get g4 (fun e => by have := (na3 _ e).1; omega)
    have lo8 := fr8.low
    have ln : (l.set i q).length = P.length + 1 := by rw [List.length_set]; exact hll
    have n02 : h.next ≤ h2.next := by omega
    refine hq u (l.set i q) _ h8 ⟨g48, by rw [ln]; exact o8, by omega, fun id e => (na3 id e).1⟩ hh pm ?_ (fun id e => (hid3 id e).imp (fun e => e) fun e => by omega)
    have f3 : Fr (fun id => id = pid ∨ idOf (.slice va P.length vc) id) h h3 := ((fr1.trans fr2).weak).then fr3 fun id _ e => .inr e
    have f4 := f3.then fr4 fun id _ e => .inl e
    exact f4.then fr8 fun id hlt e => (hid3 id e).elim .inr fun e => by omega
  (repeat' (first | (simp (maxSteps := 1000000) (disch := first | omega | (simp only [AM.DB, List.length_set, List.length_map]; first | done | omega)) only [AM.RB, Nat.reduceAdd, Nat.reduceMul, Nat.reduceEqDiff, reduceCtorEq, b94_RT9]) | refine AM.drawW_fine hp (by kernel_rfl) (by kernel_rfl) (by kernel_rfl) ?_ | refine AM.opW_tied (by kernel_rfl) ?_ | refine AM.opW_untied (by kernel_rfl) ?_))
  refine AM.condV_split (fun hlt => ?_) (fun hlt => ?_)
  case' refine_2 =>
    have hz : i = 0 := by omega
    have ee : ((0 : Nat) : Int) = 0 := rfl
    (repeat' (first | (simp (maxSteps := 1000000) (disch := first | omega | (simp only [AM.DB, List.length_set, List.length_map]; first | done | omega)) only [AM.RB, Nat.reduceAdd, Nat.reduceMul, Nat.reduceEqDiff, reduceCtorEq, b94_RT9, g45, g15, r5.ia el_128, Int.toNat_natCast]) | refine AM.drawW_fine hp (by kernel_rfl) (by kernel_rfl) (by kernel_rfl) ?_ | refine AM.opW_tied (by kernel_rfl) ?_ | refine AM.opW_untied (by kernel_rfl) ?_))
    refine o5.stg (l := AM.encI q) sz_133 (j := i) (by omega) rfl rfl fun h6 o6 fr6 n6 => ?_
    rw [AM.flat_set AM.encI_len (by omega) l i q hi] at o6
    (repeat' (first | (simp (maxSteps := 1000000) (disch := first | omega | (simp only [AM.DB, List.length_set, List.length_map]; first | done | omega)) only [AM.RB, Nat.reduceAdd, Nat.reduceMul, Nat.reduceEqDiff, reduceCtorEq, b94_RT9]) | refine AM.drawW_fine hp (by kernel_rfl) (by kernel_rfl) (by kernel_rfl) ?_ | refine AM.opW_tied (by kernel_rfl) ?_ | refine AM.opW_untied (by kernel_rfl) ?_))
    exact fin _ o6 (fr5.trans fr6) (up.done (.inl hz)) _
  have h0 : 0 < i := by omega
  have e2 := quo2 i h0
  have ai : (i - 1) / 2 < l.length := by omega
  (repeat' (first | (simp (maxSteps := 1000000) (disch := first | omega | (simp only [AM.DB, List.length_set, List.length_map]; first | done | omega)) only [AM.RB, Nat.reduceAdd, Nat.reduceMul, Nat.reduceEqDiff, reduceCtorEq, b94_RT9, AM.wrap_i64, e2, g45, g15, r5.ia el_128, r5.lds AM.encI_len lk_133 hll AM.z0, Int.toNat_natCast]) | refine AM.drawW_fine hp (by kernel_rfl) (by kernel_rfl) (by kernel_rfl) ?_ | refine AM.opW_tied (by kernel_rfl) ?_ | refine AM.opW_untied (by kernel_rfl) ?_))
  refine pcmp_w (AM.at' l ((i - 1) / 2)) q (by omega) fun h6 fr6 => ?_
  have o6 := o5.fr0 fr6
  have r6 := o6.rd
  have g46 := g45.fr0 fr6
  have g16 := g15.fr0 fr6
  have lo6 := fr6.low
  have nx6 := fr6.next
  by_cases c : AM.leI (AM.at' l ((i - 1) / 2)) q
  · have d1 : decide (AM.cmpI (AM.at' l ((i - 1) / 2)) q ≤ 0) = true := decide_eq_true ((AM.cmpI_le _ _).2 c)
    (repeat' (first | (simp (maxSteps := 1000000) (disch := first | omega | (simp only [AM.DB, List.length_set, List.length_map]; first | done | omega)) only [AM.RB, Nat.reduceAdd, Nat.reduceMul, Nat.reduceEqDiff, reduceCtorEq, b94_RT9, d1, g46, g16, r6.ia el_128, Int.toNat_natCast]) | refine AM.drawW_fine hp (by kernel_rfl) (by kernel_rfl) (by kernel_rfl) ?_ | refine AM.opW_tied (by kernel_rfl) ?_ | refine AM.opW_untied (by kernel_rfl) ?_))
    refine o6.stg (l := AM.encI q) sz_133 (j := i) (by omega) rfl rfl fun h7 o7 fr7 n7 => ?_
    rw [AM.flat_set AM.encI_len (by omega) l i q hi] at o7
    (repeat' (first | (simp (maxSteps := 1000000) (disch := first | omega | (simp only [AM.DB, List.length_set, List.length_map]; first | done | omega)) only [AM.RB, Nat.reduceAdd, Nat.reduceMul, Nat.reduceEqDiff, reduceCtorEq, b94_RT9]) | refine AM.drawW_fine hp (by kernel_rfl) (by kernel_rfl) (by kernel_rfl) ?_ | refine AM.opW_tied (by kernel_rfl) ?_ | refine AM.opW_untied (by kernel_rfl) ?_))
    exact fin _ o7 ((fr5.trans fr6.weak).trans fr7) (up.done (.inr c)) _
  · have d1 : decide (AM.cmpI (AM.at' l ((i - 1) / 2)) q ≤ 0) = false := decide_eq_false fun t => c ((AM.cmpI_le _ _).1 t)
    (repeat' (first | (simp (maxSteps := 1000000) (disch := first | omega | (simp only [AM.DB, List.length_set, List.length_map]; first | done | omega)) only [AM.RB, Nat.reduceAdd, Nat.reduceMul, Nat.reduceEqDiff, reduceCtorEq, b94_RT9, d1, g46, g16, r6.ia el_128, r6.lds AM.encI_len lk_133 hll AM.z0, Int.toNat_natCast]) | refine AM.drawW_fine hp (by kernel_rfl) (by kernel_rfl) (by kernel_rfl) ?_ | refine AM.opW_tied (by kernel_rfl) ?_ | refine AM.opW_untied (by kernel_rfl) ?_))
    refine o6.stg (l := AM.encI (AM.at' l ((i - 1) / 2))) sz_133 (j := i) (by omega) rfl rfl fun h7 o7 fr7 n7 => ?_
    rw [AM.flat_set AM.encI_len (by omega) l i _ hi] at o7
    (repeat' (first | (simp (maxSteps := 1000000) (disch := first | omega | (simp only [AM.DB, List.length_set, List.length_map]; first | done | omega)) only [AM.RB, Nat.reduceAdd, Nat.reduceMul, Nat.reduceEqDiff, reduceCtorEq, b94_RT9]) | refine AM.drawW_fine hp (by kernel_rfl) (by kernel_rfl) (by kernel_rfl) ?_ | refine AM.opW_tied (by kernel_rfl) ?_ | refine AM.opW_untied (by kernel_rfl) ?_))
    refine ⟨((i - 1) / 2, l.set i (AM.at' l ((i - 1) / 2))), by simp only; omega, ?_, up.move h0 c, by simp only; rw [List.length_set]; exact hll, (AM.swap_perm hi ai q).trans pm, o7, (fr5.trans fr6.weak).trans fr7⟩
    simp (maxSteps := 1000000) (disch := first | omega | (simp only [AM.DB, List.length_set, List.length_map]; first | done | omega)) only [AM.RB, Nat.reduceAdd, Nat.reduceMul, Nat.reduceEqDiff, reduceCtorEq, b94_RT9]
    first | rfl | skip
end Go.Proofs.YtgdcbjpookldoaaDoor
